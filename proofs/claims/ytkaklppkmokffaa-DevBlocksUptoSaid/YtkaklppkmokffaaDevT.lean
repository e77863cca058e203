/-
  Contracts of charterhouseref09.Great, charterhouselaw09.of.
-/
import Derived.Test.YtkaklppkmokffaaDevE
namespace Go.Proofs.Ytkaklppkmokffaa
open Go.RowKit
set_option linter.unusedVariables false
set_option linter.unusedSimpArgs false
set_option maxRecDepth 100000

def GrR (nB : Nat) (w : World) (o x : Value) (wr : World) : Prop := ∃ (k : Nat) (n : Int), k ≤ nB ∧ x = .int .i64 (k : Int) ∧ o = .int .i64 n ∧ w = wr
def GreatP (nB nW : Nat) (w : World) (e : Ending) (w' : World) : Prop := ∃ v, e = .returned (.bool v) ∧ (v = false → (nB : Int) ≤ 500 ∧ (nW : Int) ≤ 4106) ∧ Below w.heap.size w w'
set_option maxHeartbeats 2000000 in
theorem g_great (d : Dk) (w : World) (hd : d.ok w) : Calls Try.prog 12 #[d.v] w (GreatP d.nB d.nW w) := by
  have hx := DkBox.new w (.slice d.A d.nB d.cB) (.slice d.W d.nW d.cW)
  have hb := below_new' w (.cells #[.slice d.A d.nB d.cB, .slice d.W d.nW d.cW] 25)
  have hr := hd.rb.below hb
  have hs := hd.rw_.below hb
  have hlb := hd.lb
  have hlw := hd.lw
  have HB := Lib.hid hb
  have HR := Lib.hid hr
  have HS := Lib.hid hs
  simp only [Dk.v] at *
  generalize d.bs = bs at *
  generalize d.ws = ws at *
  generalize d.nB = nB at *
  generalize d.nW = nW at *
  generalize d.A = A at *
  generalize d.W = B at *
  generalize d.cB = cB at *
  generalize d.cW = cW at *
  obtain ⟨c0, c1⟩ := hx.cells
  clear hx hb hr hs hd
  by_cases h1 : nB > 500
  · have h1' : (500 : Int) < (nB : Int) := by omega
    clear h1
    go_enter Try.func12, Try.ntmps12
    go_wp2
    go_ret
    exact ⟨true, rfl, fun h => (by cases h), HB.out⟩
  · have h1' : ¬ ((500 : Int) < (nB : Int)) := by omega
    have h1d : decide ((500 : Int) < (nB : Int)) = false := by simp; omega
    by_cases h2 : nW > 500 ∧ nW < 4096
    · have h2' : (500 : Int) < (nW : Int) := by omega
      have h3' : (nW : Int) < 4096 := by omega
      clear h1 h2
      go_enter Try.func12, Try.ntmps12
      go_wp2
      go_ret
      exact ⟨true, rfl, fun h => (by cases h), HB.out⟩
    · by_cases h3 : nW > 4106
      · have h2' : (500 : Int) < (nW : Int) := by omega
        have h2d : decide ((nW : Int) < 4096) = false := by simp; omega
        have h3' : (4106 : Int) < (nW : Int) := by omega
        clear h1 h2 h3
        go_enter Try.func12, Try.ntmps12
        go_wp2
        go_ret
        exact ⟨true, rfl, fun h => (by cases h), HB.out⟩
      · have hfin : (nB : Int) ≤ 500 ∧ (nW : Int) ≤ 4106 := by omega
        have HF := Lib.hid hfin
        have h3d : decide ((4106 : Int) < (nW : Int)) = false := by simp; omega
        obtain ⟨q, hq⟩ : ∃ q, decide ((500 : Int) < (nW : Int)) = q := ⟨_, rfl⟩
        have hq2 : q = true → decide ((nW : Int) < 4096) = false := by
          intro h
          rw [h, decide_eq_true_eq] at hq
          simp
          omega
        have hlen : (nB : Int) ≤ 1000000 ∧ (nW : Int) ≤ 1000000 := by omega
        obtain ⟨hlen1, hlen2⟩ := hlen
        clear h1 h2 h3 hfin
        have HQ := Lib.hid hq2
        cases q
        case' true => have hq3 := HQ.out rfl
        all_goals
          clear HQ hq2
          go_enter Try.func12, Try.ntmps12
          go_wp2
          clear hq h1' h1d h3d
          try clear hq3
          go_loopw [3, 4] (fun o x wr => GrR nB (w.alloc (.cells #[.slice A nB cB, .slice B nW cW] 25)) o x wr) (fun _ x _ => nB - (intOf x).toNat)
          case atStart => exact ⟨0, 0, Nat.zero_le _, rfl, rfl, rfl⟩
          case round =>
            obtain ⟨k, n, hk, rfl, rfl, rfl⟩ := hrel
            by_cases hlt : k < nB ∧ n < 2000000
            · obtain ⟨hlt, hn⟩ := hlt
              obtain ⟨b, off, rfl, hbb, hc⟩ := HR.out.atS hlt hlb
              have h0 : ¬ ((k : Int) < 0) := by omega
              have h1 : (k : Int) < (nB : Int) := by omega
              generalize bs[k] = p at *
              go_wp2
              go_roundw
              case rel => exact ⟨k + 1, _, by omega, by simp, rfl, rfl⟩
              case measure => simp [intOf]; omega
            · have hend : nB = k ∨ ((k : Int) < (nB : Int) ∧ decide (n < 2000000) = false) := by
                by_cases h : k < nB
                · exact .inr ⟨by omega, by simp; omega⟩
                · exact .inl (by omega)
              clear hlt
              rcases hend with rfl | ⟨he1, he⟩
              all_goals
                go_wp2
                go_loopw [3, 5] (fun o x wr => GrR nW (w.alloc (.cells #[.slice A nB cB, .slice B nW cW] 25)) o x wr) (fun _ x _ => nW - (intOf x).toNat)
                case atStart => exact ⟨0, n, Nat.zero_le _, rfl, rfl, rfl⟩
                case round =>
                  try clear he
                  try clear he1
                  obtain ⟨j, m, hj, rfl, rfl, rfl⟩ := hrel
                  by_cases hlt : j < nW ∧ m < 2000000
                  · obtain ⟨hlt, hm⟩ := hlt
                    obtain ⟨b, off, rfl, hbb, hc0, hc⟩ := HS.out.at2 hlt hlw
                    have h0 : ¬ ((j : Int) < 0) := by omega
                    have h1 : (j : Int) < (nW : Int) := by omega
                    generalize ws[j] = p at *
                    go_wp2
                    go_roundw
                    case rel => exact ⟨j + 1, _, by omega, by simp, rfl, rfl⟩
                    case measure => simp [intOf]; omega
                  · have hend : nW = j ∨ ((j : Int) < (nW : Int) ∧ decide (m < 2000000) = false) := by
                      by_cases h : j < nW
                      · exact .inr ⟨by omega, by simp; omega⟩
                      · exact .inl (by omega)
                    clear hlt
                    rcases hend with rfl | ⟨he1, he⟩
                    all_goals
                      go_wp2
                      go_ret
                      exact ⟨_, rfl, fun _ => HF.out, HB.out⟩

def OfR (n : UInt8) (base : Nat) (w : World) (o : Value) (wr : World) : Prop :=
  ∃ (k : Nat) (D : Option Addr) (d : Nat), k ≤ 256 ∧ o = .slice D k d ∧ Fr wr base 5 1 D k d (bvs (List.replicate k n)) ∧ Below base w wr
def OfP (l : List UInt8) (w : World) (e : Ending) (w' : World) : Prop := ∃ s : Sl, e = .returned (.slice s.A s.n s.c) ∧ s.came w' ∧ Own w' w.heap.size s ∧ s.l = l ∧ Below w.heap.size w w'
def ofL (n : UInt8) : List UInt8 := List.replicate 256 n
theorem ofL_len (n : UInt8) : (ofL n).length = 256 := List.length_replicate
set_option maxHeartbeats 1000000 in
theorem l_of (n : UInt8) (w : World) : Calls Try.prog 33 #[.int .u8 (n.toNat : Int)] w (OfP (ofL n) w) := by
  go_enter Try.func33, Try.ntmps33
  go_wp2
  go_loopw [3] (fun o wr => OfR n w.heap.size w o wr) (fun o _ => 256 - (match o with | .slice _ k _ => k | _ => 0))
  case atStart => exact ⟨0, none, 0, Nat.zero_le _, rfl, Fr.none_, Below.refl _ _⟩
  case round =>
    obtain ⟨k, D, d, hk, rfl, hf, hb⟩ := hrel
    by_cases hlt : k < 256
    · have hst : bvs (List.replicate k n) ++ [bv n] = bvs (List.replicate (k + 1) n) := by
        rw [List.replicate_succ', bvs_app]
        rfl
      have HST := Lib.hid hst
      have HF := Lib.hid hf
      have HB := Lib.hid hb
      have h1 : (k : Int) < 256 := by omega
      clear hst hf hb
      go_wp2_with (at_builtin; go_loud (refine wpList_append_to rfl (.tmp 7) (.tmp 9) rfl okB rfl (HF.out.alloc _) rfl (Rd.made wr 5 1 1 [bv n] rfl) (ones1 rfl) (k + 1) rfl (bvs (List.replicate (k + 1) n)) HST.out (by unfold maxLen; omega) (by omega) (by have := HB.out.size; simp; omega) ?_; intro D2 d2 w3 f2 g2 _))
      have HB3 := Lib.hid ((below_alloc HB.out (.cells #[bv n] 5) HB.out.size).grown g2 (by have := HB.out.size; simp; omega) (fun q hq => (HF.out.row q hq).1))
      have HF3 := Lib.hid f2
      clear f2 g2
      go_roundw
      case rel => exact ⟨k + 1, _, _, by omega, rfl, HF3.out, HB3.out⟩
      case measure =>
        show 256 - (k + 1) < 256 - k
        omega
    · obtain rfl : k = 256 := by omega
      have h1 : ¬ ((256 : Int) < 256) := by omega
      have hc := hf.cameS
      have ho := hf.ownS
      have HC := Lib.hid hc
      have HO := Lib.hid ho
      have HB := Lib.hid hb
      clear hc ho hf hb
      go_wp2
      go_ret
      exact ⟨⟨D, 256, d, ofL n⟩, rfl, HC.out, HO.out, rfl, HB.out⟩
end Go.Proofs.Ytkaklppkmokffaa
