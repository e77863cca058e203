/-
  Contracts: slices.Equal over bytes, wrap.sealed.
-/
import Derived.Test.YtoggpnncmgcgoaaWrapA
namespace Go.Proofs.Ytoggpnncmgcgoaa
open Go.RowKit
set_option linter.unusedVariables false
set_option linter.unusedSimpArgs false
set_option maxRecDepth 100000

theorem w_sealed (A : Option Addr) (c : Nat) (s : List UInt8) (D : Option Addr) (m d : Nat) (b : List UInt8) (w : World) (hs : s.length = 16) (hr : Rd w w.heap.size 1 A 16 (bvs s)) (hb : b.length = m) (hm : (m : Int) ≤ 900000) (hrb : Rd w w.heap.size 1 D m (bvs b)) :
    Calls Try.prog 65 #[.slice A 16 c, .slice D m d] w fun e w' => ∃ A' c', e = .returned (.slice A' (m + 4) c') ∧ Fr w' w.heap.size 5 1 A' (m + 4) c' (bvs (sealL s b)) ∧ Below w.heap.size w w' := by
  have htag := m_tag A c s D m d b w hs hr hb hm hrb
  have hcl := fun (W : World) (h : Below w.heap.size w W) => m_clone D m d b W hb (by omega) ((hrb.below h).more h.size)
  obtain ⟨i0, i1⟩ := wi_lt (tagOf s b)
  have hput := fun W => put_ok4 (wi (tagOf s b)) W i0 i1
  have hwr : IntKind.i64.wrap (wi (tagOf s b)) = wi (tagOf s b) := by rw [IntKind.wrap_i64]; omega
  have hsl : b ++ le 4 (wi (tagOf s b)).toNat = sealL s b := by
    unfold sealL wi
    simp
  have HTAG := Lib.hid htag
  have HCL := Lib.hid hcl
  have HPUT := Lib.hid hput
  have HSL := Lib.hid hsl
  clear htag hcl hput hr hrb i0 i1 hsl
  generalize wi (tagOf s b) = T at *
  go_enter Try.func65, Try.ntmps65
  go_wp2_with fail
  refine HTAG.out.mono ?_
  rintro e w1 ⟨rfl, b1⟩
  go_wp2_with fail
  refine (HPUT.out w1).mono ?_
  rintro e w2 ⟨A2, c2, rfl, f2, b2⟩
  have hb2 := below_to b1 b2 b1.size
  have HR2 := Lib.hid f2.rd
  have HB2 := Lib.hid hb2
  clear b1 b2 f2 hb2
  go_wp2_with fail
  refine (HCL.out w2 HB2.out).mono ?_
  rintro e w3 ⟨A3, c3, rfl, f3, b3⟩
  have hb3 := below_to HB2.out b3 HB2.out.size
  have hr3 := (HR2.out.below b3).more b3.size
  have HR3 := Lib.hid hr3
  have HB3 := Lib.hid hb3
  have HF3 := Lib.hid (f3.mono (base' := w.heap.size) HB2.out.size)
  clear b3 hb3 hr3 f3
  go_wp2_with (first
    | (at_builtin; go_loud (refine wpList_append_to rfl (.tmp 22) (.tmp 23) rfl okB rfl HF3.out rfl HR3.out (bvs_one _) (m + 4) rfl (bvs (sealL s b)) (by rw [← bvs_app, HSL.out]) (by unfold maxLen; omega) (by omega) HB3.out.size ?_; intro D4 d4 w4 f4 g4 _)))
  go_ret
  exact ⟨_, _, rfl, f4, HB3.out.grown g4 HB3.out.size (fun g hg => (HF3.out.row g hg).1)⟩

/-! ### slices.Equal over bytes -/
def EqbRel (l m : List UInt8) (w : World) (x : Value) (wr : World) : Prop := ∃ k N : Nat, k ≤ l.length ∧ x = .int .i64 (k : Int) ∧ l.take k = m.take k ∧ wr = w.drewN N
theorem take_step_b {l m : List UInt8} {k : Nat} (h1 : k < l.length) (h2 : k < m.length) (h : l.take k = m.take k) (he : l[k] = m[k]) : l.take (k + 1) = m.take (k + 1) := by
  rw [List.take_succ_eq_append_getElem h1, List.take_succ_eq_append_getElem h2, h, he]
theorem below_drewNb {B : Nat} {a w : World} (h : Below B a w) (k : Nat) : Below B a (w.drewN k) := ⟨h.os, h.tape, h.output, h.size, h.block⟩
theorem Rd.byte {w : World} {B n k : Nat} {A : Option Addr} {l : List UInt8} (h : Rd w B 1 A n (bvs l)) (hl : l.length = n) (hk : k < n) : ∃ b off, A = some ⟨b, off, none⟩ ∧ b < B ∧ w.cell? ⟨b, off + k, none⟩ = some (.int .u8 ((l[k]'(by omega)).toNat : Int)) := by
  obtain ⟨b, off, u, rfl, hb, hu, hc⟩ := h.at_ hk
  refine ⟨b, off, rfl, hb, ?_⟩
  rw [hc, ← hu, bvs_get, List.getElem?_eq_getElem (by omega)]
  rfl
theorem b_equal_len (A : Option Addr) (n c : Nat) (l : List UInt8) (D : Option Addr) (d : Nat) (l2 : List UInt8) (w : World) (hl : l.length = n) (hn : (n : Int) ≤ 1000000) (hr : Rd w w.heap.size 1 A n (bvs l)) (hl2 : l2.length = n) (hr2 : Rd w w.heap.size 1 D n (bvs l2)) (v : Bool) (hv : v = decide (l = l2)) :
    Calls Try.prog 46 #[.slice A n c, .slice D n d] w fun e w' => e = .returned (.bool v) ∧ Below w.heap.size w w' := by
  go_enter Try.func46, Try.ntmps46
  go_wp2
  go_loopw [13] (fun x wr => EqbRel l l2 w x wr) (fun x _ => n - (intOf x).toNat)
  case atStart => exact ⟨0, 0, Nat.zero_le _, rfl, rfl, rfl⟩
  case round =>
    obtain ⟨k, N, hk, rfl, hm, rfl⟩ := hrel
    by_cases hlt : k < n
    · have hkl : k < l.length := by omega
      have hkl2 : k < l2.length := by omega
      obtain ⟨b, off, rfl, hbb, c0⟩ := hr.byte hl hlt
      obtain ⟨b', off', rfl, hbb', d0⟩ := hr2.byte hl2 hlt
      have hst := take_step_b hkl hkl2 hm
      have hbad : l[k] ≠ l2[k] → v = false := by
        intro h
        rw [hv]
        simp only [decide_eq_false_iff_not]
        rintro rfl
        exact h rfl
      have h0 : ¬ ((k : Int) < 0) := by omega
      have h1 : (k : Int) < (n : Int) := by omega
      have HS := Lib.hid hst
      have HD := Lib.hid hbad
      clear hst hbad hm hbb hbb' hv
      generalize (l[k]'(by omega)) = p at *
      generalize (l2[k]'(by omega)) = q at *
      by_cases hpq : p = q
      · subst hpq
        have HM := Lib.hid (HS.out rfl)
        go_wp2
        go_quiet (fail)
        go_wp2
        go_roundw
        case rel => exact ⟨k + 1, _, by omega, rfl, HM.out, rfl⟩
        case measure => simp [intOf]; omega
      · have hq : ((p.toNat : Int) != (q.toNat : Int)) = true := by
          have : p.toNat ≠ q.toNat := fun e => hpq (UInt8.toNat_inj.1 e)
          simp
          omega
        obtain rfl := HD.out hpq
        go_wp2
        go_quiet (fail)
        go_wp2
        go_ret
        exact ⟨rfl, below_drewNb (below_drewNb (Below.refl _ _) _) _⟩
    · obtain rfl : k = n := by omega
      rw [List.take_of_length_le (by omega), List.take_of_length_le (by omega)] at hm
      obtain rfl : v = true := by rw [hv]; simp [hm]
      go_wp2
      go_ret
      exact ⟨rfl, below_drewNb (Below.refl _ _) _⟩
theorem b_equal_no (A : Option Addr) (n c : Nat) (D : Option Addr) (m d : Nat) (w : World) (h : ((n : Int) != (m : Int)) = true) :
    Calls Try.prog 46 #[.slice A n c, .slice D m d] w fun e w' => e = .returned (.bool false) ∧ w = w' := by
  go_enter Try.func46, Try.ntmps46
  go_wp2
  go_ret
  exact ⟨rfl, rfl⟩
end Go.Proofs.Ytoggpnncmgcgoaa
