/-
  slices.Equal over bytes; charterhouseref08.up; what Check makes of a signature, in plain lists.
-/
import Derived.Test.YtoggpnncmgcgoaaSignA
import Derived.Test.YtoggpnncmgcgoaaRef07e
namespace Go.Proofs.Ytoggpnncmgcgoaa
open Go.RowKit
set_option linter.unusedVariables false
set_option linter.unusedSimpArgs false
set_option maxRecDepth 100000

def eqB (a b : List UInt8) : Bool := decide (a = b)
def EqRel (l k : List UInt8) (n : Nat) (w : World) (i : Value) (wr : World) : Prop := ∃ j N : Nat, j ≤ n ∧ i = .int .i64 (j : Int) ∧ wr = w.drewN N ∧ l.take j = k.take j
theorem take_next {l : List UInt8} {j : Nat} (h : j < l.length) : l.take (j + 1) = l.take j ++ [l[j]] := List.take_succ_eq_append_getElem h
theorem x_equal (A : Option Addr) (n c : Nat) (l : List UInt8) (B : Option Addr) (d : Nat) (k : List UInt8) (w : World) (hl : l.length = n) (hk : k.length = n) (hn : n ≤ 100000) (hra : Rd w w.heap.size 1 A n (bvs l)) (hrb : Rd w w.heap.size 1 B n (bvs k)) :
    Calls Try.prog 46 #[.slice A n c, .slice B n d] w fun e w' => e = .returned (.bool (eqB l k)) ∧ Below w.heap.size w w' := by
  obtain ⟨v, hv⟩ : ∃ v, v = eqB l k := ⟨_, rfl⟩
  rw [← hv]
  have HV := Lib.hid hv
  clear hv
  go_enter Try.func46, Try.ntmps46
  go_wp2
  go_loopw [13] (fun i wr => EqRel l k n w i wr) (fun i _ => n - (intOf i).toNat)
  case atStart => exact ⟨0, 0, Nat.zero_le _, rfl, rfl, by simp⟩
  case round =>
    obtain ⟨j, N, hj, rfl, rfl, ht⟩ := hrel
    have HT := Lib.hid ht
    clear ht
    by_cases hlt : j < n
    · have hjl : j < l.length := by omega
      have hjk : j < k.length := by omega
      obtain ⟨g, o, u, rfl, hg, hu, cx⟩ := hra.at_ hlt
      obtain ⟨g', o', u', rfl, hg', hu', cy⟩ := hrb.at_ hlt
      have t1 := take_next hjl
      have t2 := take_next hjk
      rw [bvs_get, List.getElem?_eq_getElem hjl] at hu
      rw [bvs_get, List.getElem?_eq_getElem hjk] at hu'
      have hu1 : u = bv l[j] := by simpa using hu.symm
      have hu2 : u' = bv k[j] := by simpa using hu'.symm
      generalize l[j] = x at *
      generalize k[j] = y at *
      subst hu1 hu2
      unfold bv at cx cy
      have T1 := Lib.hid t1
      have T2 := Lib.hid t2
      have HLn := Lib.hid hl
      have HKn := Lib.hid hk
      have h0 : ¬ ((j : Int) < 0) := by omega
      have h1 : (j : Int) < (n : Int) := by omega
      clear hg hg' hra hrb hu hu' t1 t2 hl hk hjl hjk
      by_cases hxy : x = y
      · subst hxy
        have he : ((x.toNat : Int) != (x.toNat : Int)) = false := by simp
        go_wp2
        go_quiet (fail)
        go_wp2
        go_roundw
        case rel => exact ⟨j + 1, _, by omega, by simp, rfl, by rw [T1.out, T2.out, HT.out]⟩
        case measure => simp [intOf]; omega
      · have he : ((x.toNat : Int) != (y.toNat : Int)) = true := by
          have : x.toNat ≠ y.toNat := fun e => hxy (UInt8.toNat_inj.1 e)
          simp only [bne_iff_ne, ne_eq]
          omega
        have hf : v = false := by
          rw [HV.out]
          simp only [eqB, decide_eq_false_iff_not]
          intro e
          have := T1.out
          rw [e, T2.out] at this
          have := List.append_cancel_left_eq .. ▸ this
          have h3 := congrArg List.getLast? this
          simp at h3
          exact hxy h3.symm
        have HF := Lib.hid hf
        clear hf hxy
        go_wp2
        go_quiet (fail)
        go_wp2
        go_ret
        exact ⟨by rw [HF.out]; rfl, below_drewN (below_drewN (Below.refl _ _) _) _⟩
    · obtain rfl : j = n := by omega
      have hf : v = true := by
        rw [HV.out]
        have := HT.out
        rw [List.take_of_length_le (by omega), List.take_of_length_le (by omega)] at this
        simp [eqB, this]
      have HF := Lib.hid hf
      clear hra hrb hf hl hk
      go_wp2
      go_ret
      exact ⟨by rw [HF.out]; rfl, below_drewN (Below.refl _ _) _⟩

theorem q_up (h : Nat) (hh : h < 4) (A : Option Addr) (c : Nat) (l : List UInt8) (B : Option Addr) (d : Nat) (r : List UInt8) (w : World) (hl : l.length = 16) (hr : r.length = 16) (hrl : Rd w w.heap.size 1 A 16 (bvs l)) (hrr : Rd w w.heap.size 1 B 16 (bvs r)) :
    Calls Try.prog 47 #[.int .i64 (h : Int), .slice A 16 c, .slice B 16 d] w fun e w' => ∃ D d, e = .returned (.slice D 16 d) ∧ Fr w' w.heap.size 5 1 D 16 d (bvs (aboveL h l r)) ∧ Below w.heap.size w w' := by
  have hb8 : IntKind.u8.wrap (128 + (h : Int)) = ((UInt8.ofNat (128 + h)).toNat : Int) := by
    have := wrap8_nat (128 + h)
    rwa [show (((128 + h : Nat) : Int)) = 128 + (h : Int) by omega] at this
  have hab : aboveL h l r = keyOf (fourOf (([UInt8.ofNat (128 + h)] ++ l) ++ r)) := rfl
  rw [hab]
  have hlen : (([UInt8.ofNat (128 + h)] ++ l) ++ r).length = 33 := by simp [hl, hr]
  obtain ⟨x, hx⟩ : ∃ x, x = UInt8.ofNat (128 + h) := ⟨_, rfl⟩
  rw [← hx] at hb8 hlen ⊢
  have hfr : Fr (w.alloc (.cells (bvs [x]).toArray 5)) w.heap.size 5 1 (some ⟨w.heap.size, 0, none⟩) 1 1 (bvs [x]) := Fr.made w _ 1 1 (Nat.le_refl _) (by unfold maxLen; omega) (Nat.le_refl _) (by simp [bvs]) (by simp [bvs]) (by simp [bvs])
  have hb := below_new w (.cells (bvs [x]).toArray 5)
  have HFR := Lib.hid hfr
  have HB0 := Lib.hid hb
  have HL := Lib.hid ((hrl.below hb).more hb.size)
  have HR0 := Lib.hid (hrr.below hb)
  have HLEN := Lib.hid hlen
  obtain ⟨T1, hT1⟩ : ∃ T, T = [x] ++ l := ⟨_, rfl⟩
  rw [← hT1] at HLEN ⊢
  obtain ⟨T2, hT2⟩ : ∃ T, T = T1 ++ r := ⟨_, rfl⟩
  rw [← hT2] at HLEN ⊢
  have HT1 := Lib.hid (show bvs [x] ++ bvs l = bvs T1 by rw [hT1, bvs_app])
  have HT2 := Lib.hid (show bvs T1 ++ bvs r = bvs T2 by rw [hT2, bvs_app])
  clear hfr hb hrl hrr hl hr hlen hab hx hT1 hT2
  go_enter Try.func47, Try.ntmps47
  go_wp2_with (first
    | (at_builtin; refine wpList_append_to rfl (.tmp 12) (.tmp 13) rfl okB rfl HFR.out rfl HL.out (bvs_one _) 17 rfl (bvs T1) HT1.out (by unfold maxLen; omega) (by omega) HB0.out.size ?_; intro D1 d1 w1 f1 g1 _; have b1 := HB0.out.grown g1 HB0.out.size (fun q hq => (HFR.out.row _ hq).1); have HF1 := Lib.hid f1; have HB1 := Lib.hid b1; have HR1 := Lib.hid (HR0.out.grown g1 (Nat.le_of_lt (Nat.lt_of_lt_of_eq (Nat.lt_succ_self _) (World.size_alloc _ _).symm)) (fun q hq => (HFR.out.row _ hq).1)); clear f1 g1 b1)
    | (at_builtin; refine wpList_append_to rfl (.tmp 15) (.tmp 16) rfl okB rfl HF1.out rfl HR1.out (bvs_one _) 33 rfl (bvs T2) HT2.out (by unfold maxLen; omega) (by omega) HB1.out.size ?_; intro D2 d2 w2 f2 g2 _; have b2 := HB1.out.grown g2 HB1.out.size (fun q hq => (HF1.out.row _ hq).1); have HF2 := Lib.hid f2; have HB2 := Lib.hid b2; clear f2 g2 b2))
  refine (r_key D2 33 d2 T2 w2 HLEN.out (by omega) HF2.out.rd).mono ?_
  rintro e w3 ⟨D3, d3, rfl, f3, b3⟩
  have hf := f3.mono (base' := w.heap.size) HB2.out.size
  have hbb := below_to HB2.out b3 HB2.out.size
  clear f3 b3
  go_wp2
  go_ret
  exact ⟨_, _, rfl, hf, hbb⟩

/-! ### plain: what Check makes of a signature -/
def besideL (sig : List UInt8) (r : Nat) : List UInt8 := (sig.drop (161 + 16 * r)).take 16
theorem besideL_len {sig : List UInt8} (hs : sig.length = 209) {r : Nat} (hr : r < 3) : (besideL sig r).length = 16 := by
  rw [besideL, List.length_take, List.length_drop]
  omega
def foldN (at_ : Nat) (node sig : List UInt8) : Nat → List UInt8
  | 0 => node
  | r + 1 => if at_ / 2 ^ r % 2 = 1 then aboveL r (besideL sig r) (foldN at_ node sig r) else aboveL r (foldN at_ node sig r) (besideL sig r)
theorem foldN_len {at_ : Nat} {node sig : List UInt8} (hn : node.length = 16) (r : Nat) : (foldN at_ node sig r).length = 16 := by
  cases r with
  | zero => exact hn
  | succ r =>
    rw [foldN]
    split <;> exact aboveL_len _ _ _
def atL (sig : List UInt8) : Nat := (sig.getD 0 0).toNat
def partL (sig : List UInt8) : List UInt8 := (sig.drop 1).take 160
def chkL (pub text sig : List UInt8) : Bool := eqB (foldN (atL sig) (recL (atL sig) text (partL sig)) sig 3) pub
end Go.Proofs.Ytoggpnncmgcgoaa
