/-
  charterhouseref07: contracts of Public, Sign.
-/
import Derived.Test.YtoggpnncmgcgoaaRef07b
import Derived.Test.YtoggpnncmgcgoaaLaw07
namespace Go.Proofs.Ytoggpnncmgcgoaa
open Go.RowKit
set_option linter.unusedVariables false
set_option linter.unusedSimpArgs false
set_option maxRecDepth 100000

def QpRel (seed : List UInt8) (leaf : Nat) (ds : List Nat) (w : World) (out i : Value) (wr : World) : Prop :=
  ∃ k A c, k ≤ 10 ∧ i = .int .i64 (k : Nat) ∧ out = .slice A (16 * k) c ∧ Fr wr w.heap.size 5 1 A (16 * k) c (bvs (sigN seed leaf ds k)) ∧ Below w.heap.size w wr
set_option maxHeartbeats 1000000 in
theorem q_public (V : Option Addr) (c : Nat) (v : List UInt8) (leaf : Nat) (w : World) (hv : v.length = 16) (hr : Rd w w.heap.size 1 V 16 (bvs v)) (hlf : leaf < 8) :
    Calls Try.prog 24 #[.slice V 16 c, .int .i64 (leaf : Int)] w fun e w' => ∃ A' c', e = .returned (.tuple #[.slice A' 16 c', .int .i64 0]) ∧ Fr w' w.heap.size 5 1 A' 16 c' (bvs (pubL v leaf)) ∧ Below w.heap.size w w' := by
  have hv15 := fun k W (h : Below w.heap.size w W) => q_value V c v leaf k hv 15 (by omega) W ((hr.below h).more h.size)
  have HV := Lib.hid hv15
  clear hv15 hr
  have g0 : ¬ ((leaf : Int) < 0) := by omega
  have g1 : ¬ (7 < (leaf : Int)) := by omega
  go_enter Try.func24, Try.ntmps24
  go_wp2
  go_loopw [6, 7] (fun out i wr => QpRel v leaf full w out i wr) (fun _ i _ => 10 - (intOf i).toNat)
  case atStart => exact ⟨0, none, 0, by omega, rfl, rfl, Fr.none_, Below.refl _ _⟩
  case round =>
    obtain ⟨k, A3, c3, hk, rfl, rfl, hf, hb⟩ := hrel
    by_cases hlt : k < 10
    · have h1 : (k : Int) < 10 := by omega
      have hnext : sigN v leaf full (k + 1) = sigN v leaf full k ++ onN leaf k (firstL v leaf k) 0 15 := by rw [sigN, full_at k hlt]
      have HNEXT := Lib.hid hnext
      have HF := Lib.hid hf
      have HB := Lib.hid hb
      clear hnext hf hb
      go_wp2_with fail
      refine (HV.out k wr HB.out).mono ?_
      rintro e w2 ⟨A4, c4, rfl, f4, b4⟩
      have HF2 := Lib.hid (HF.out.below b4 (Nat.le_refl _))
      have HB2 := Lib.hid (below_to HB.out b4 HB.out.size)
      have HR2 := Lib.hid f4.rd
      clear f4 b4 HF HB
      go_wp2_with (first
        | (at_builtin; refine wpList_append_to rfl (.tmp 23) (.tmp 27) rfl okB rfl HF2.out rfl HR2.out (bvs_one _) (16 * (k + 1)) (by omega) (bvs (sigN v leaf full (k + 1))) (by rw [HNEXT.out, bvs_app]) (by unfold maxLen; omega) (by omega) HB2.out.size ?_; intro D6 d6 w6 f6 g6 _))
      have b6 := HB2.out.grown g6 HB2.out.size (fun g hg => (HF2.out.row g hg).1)
      clear g6
      go_wp2
      go_roundw
      case rel => exact ⟨k + 1, _, _, by omega, by simp, rfl, f6, b6⟩
      case measure => simp [intOf]; omega
    · obtain rfl : k = 10 := by omega
      have HF := Lib.hid hf
      have HB := Lib.hid hb
      clear hf hb
      go_wp2_with fail
      refine (q_made A3 c3 160 (sigN v leaf full 10) leaf wr (sigN_len _ _ _ _) (by decide) HF.out.rd).mono ?_
      rintro e w3 ⟨A4, c4, rfl, f4, b4⟩
      have hf4 := f4.mono (base' := w.heap.size) HB.out.size
      have hb4 := below_to HB.out b4 HB.out.size
      clear f4 b4
      go_wp2
      go_ret2
      exact ⟨_, _, rfl, hf4, hb4⟩
set_option maxHeartbeats 1000000 in
theorem q_sign (V : Option Addr) (c : Nat) (v : List UInt8) (leaf : Nat) (T : Option Addr) (n t : Nat) (text : List UInt8) (w : World) (hv : v.length = 16) (hr : Rd w w.heap.size 1 V 16 (bvs v)) (hlf : leaf < 8)
    (hl : text.length = n) (hn : n ≤ 1000000) (hrt : Rd w w.heap.size 1 T n (bvs text)) :
    Calls Try.prog 25 #[.slice V 16 c, .int .i64 (leaf : Int), .slice T n t] w fun e w' => ∃ A' c', e = .returned (.tuple #[.slice A' 160 c', .int .i64 0]) ∧ Fr w' w.heap.size 5 1 A' 160 c' (bvs (sigL v leaf text)) ∧ Below w.heap.size w w' := by
  have hvv := fun (k m : Nat) (hm : m ≤ 100) W (h : Below w.heap.size w W) => q_value V c v leaf k hv m hm W ((hr.below h).more h.size)
  have hdg := q_digits T n t text w hl hn hrt
  have hd15 := getD_le (digL_len (sumN text)) (digL_le (sumN text))
  rw [sigL]
  obtain ⟨ds, hds⟩ : ∃ ds, ds = digL (sumN text) := ⟨_, rfl⟩
  rw [← hds]
  simp only [← hds] at hdg hd15
  clear hds
  have HV := Lib.hid hvv
  have HDG := Lib.hid hdg
  have H15 := Lib.hid hd15
  clear hvv hr hdg hd15 hrt
  have g0 : ¬ ((leaf : Int) < 0) := by omega
  have g1 : ¬ (7 < (leaf : Int)) := by omega
  go_enter Try.func25, Try.ntmps25
  go_wp2_with fail
  refine HDG.out.mono ?_
  rintro e w1 ⟨D1, d1, rfl, f1, b1⟩
  have HF1 := Lib.hid f1
  have HB1 := Lib.hid b1
  clear f1 b1
  go_wp2
  go_loopw [9, 10] (fun out i wr => QpRel v leaf ds w1 out i wr) (fun _ i _ => 10 - (intOf i).toNat)
  case atStart => exact ⟨0, none, 0, by omega, rfl, rfl, Fr.none_, Below.refl _ _⟩
  case round =>
    obtain ⟨k, A3, c3, hk, rfl, rfl, hf, hb⟩ := hrel
    by_cases hlt : k < 10
    · have h1 : (k : Int) < 10 := by omega
      have h0 : ¬ ((k : Int) < 0) := by omega
      obtain ⟨g, o, rfl, hg, cx⟩ := (HF1.out.rd.below hb).num hlt
      have hx15 := H15.out k hlt
      have hnext : sigN v leaf ds (k + 1) = sigN v leaf ds k ++ onN leaf k (firstL v leaf k) 0 (ds.getD k 0) := rfl
      have HNEXT := Lib.hid hnext
      have HF := Lib.hid hf
      have HB := Lib.hid hb
      clear hnext hf hb hg
      generalize ds.getD k 0 = x at *
      go_wp2_with fail
      refine (HV.out k x (by omega) wr (below_to HB1.out HB.out HB1.out.size)).mono ?_
      rintro e w2 ⟨A4, c4, rfl, f4, b4⟩
      have HF2 := Lib.hid (HF.out.below b4 (Nat.le_refl _))
      have HB2 := Lib.hid (below_to HB.out b4 HB.out.size)
      have HR2 := Lib.hid f4.rd
      clear f4 b4 HF HB
      go_wp2_with (first
        | (at_builtin; refine wpList_append_to rfl (.tmp 28) (.tmp 36) rfl okB rfl HF2.out rfl HR2.out (bvs_one _) (16 * (k + 1)) (by omega) (bvs (sigN v leaf ds (k + 1))) (by rw [HNEXT.out, bvs_app]) (by unfold maxLen; omega) (by omega) HB2.out.size ?_; intro D6 d6 w6 f6 g6 _))
      have b6 := HB2.out.grown g6 HB2.out.size (fun g hg => (HF2.out.row g hg).1)
      clear g6
      go_wp2
      go_roundw
      case rel => exact ⟨k + 1, _, _, by omega, by simp, rfl, f6, b6⟩
      case measure => simp [intOf]; omega
    · obtain rfl : k = 10 := by omega
      have HF := Lib.hid (hf.mono (base' := w.heap.size) HB1.out.size)
      have HB := Lib.hid (below_to HB1.out hb HB1.out.size)
      clear hf hb
      go_wp2
      go_ret2
      exact ⟨_, _, rfl, HF.out, HB.out⟩
end Go.Proofs.Ytoggpnncmgcgoaa
