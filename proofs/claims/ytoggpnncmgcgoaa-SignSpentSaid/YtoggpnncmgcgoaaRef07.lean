/-
  charterhouseref07: contracts of next, Made, Value.
-/
import Derived.Test.YtoggpnncmgcgoaaRef02K
import Derived.Test.YtoggpnncmgcgoaaChainF
namespace Go.Proofs.Ytoggpnncmgcgoaa
open Go.RowKit
set_option linter.unusedVariables false
set_option linter.unusedSimpArgs false
set_option maxRecDepth 100000

theorem q_next (V : Option Addr) (c : Nat) (v : List UInt8) (leaf place n : Nat) (w : World) (hv : v.length = 16) (hr : Rd w w.heap.size 1 V 16 (bvs v)) :
    Calls Try.prog 55 #[.slice V 16 c, .int .i64 (leaf : Int), .int .i64 (place : Int), .int .i64 (n : Int)] w fun e w' => ∃ A' c', e = .returned (.slice A' 16 c') ∧ Fr w' w.heap.size 5 1 A' 16 c' (bvs (stepB leaf place v n)) ∧ Below w.heap.size w w' := by
  have h1 := wrap8_nat leaf
  have h2 := wrap8_nat place
  have h3 := wrap8_nat n
  have HR := Lib.hid hr
  have HV := Lib.hid hv
  clear hr hv
  obtain ⟨x, hx⟩ : ∃ x, x = UInt8.ofNat leaf := ⟨_, rfl⟩
  obtain ⟨y, hy⟩ : ∃ y, y = UInt8.ofNat place := ⟨_, rfl⟩
  obtain ⟨z, hz⟩ : ∃ z, z = UInt8.ofNat n := ⟨_, rfl⟩
  rw [stepB, ← hx, ← hy, ← hz]
  rw [← hx] at h1
  rw [← hy] at h2
  rw [← hz] at h3
  clear hx hy hz
  go_enter Try.func55, Try.ntmps55
  go_wp2_with (first
    | (at_builtin; refine wpList_append_to rfl (.tmp 10) (.tmp 11) rfl okB rfl (Fr.none_ (w := w) (base := w.heap.size)) rfl HR.out (bvs_one _) 16 rfl (bvs v) rfl (by unfold maxLen; omega) (by omega) (Nat.le_refl _) ?_; intro D1 d1 w1 f1 g1 _; have b1 := (Below.refl w.heap.size w).grown g1 (Nat.le_refl _) (by intro q hq; rw [rowOf_zero] at hq; cases hq); have HF1 := Lib.hid (f1.alloc (.cells (bvs [x, y, z]).toArray 5)); have HB1 := Lib.hid (below_alloc b1 (.cells (bvs [x, y, z]).toArray 5) (Nat.le_refl _)); have HR1 := Lib.hid (Rd.made w1 5 1 3 (bvs [x, y, z]) rfl); clear f1 g1 b1)
    | (at_builtin; refine wpList_append_to rfl (.tmp 13) (.tmp 20) rfl okB rfl HF1.out rfl HR1.out (bvs_one _) 19 rfl (bvs (v ++ [x, y, z])) (bvs_app _ _).symm (by unfold maxLen; omega) (by omega) HB1.out.size ?_; intro D2 d2 w2 f2 g2 _; have b2 := HB1.out.grown g2 HB1.out.size (fun q hq => (HF1.out.row _ hq).1); have HF2 := Lib.hid f2; have HB2 := Lib.hid b2; clear f2 g2 b2))
  refine (r_key D2 19 d2 (v ++ [x, y, z]) w2 (by rw [List.length_append, HV.out]; rfl) (by omega) HF2.out.rd).mono ?_
  rintro e w3 ⟨D3, d3, rfl, f3, b3⟩
  have hf := f3.mono (base' := w.heap.size) HB2.out.size
  have hb := below_to HB2.out b3 HB2.out.size
  clear f3 b3
  go_wp2
  go_ret
  exact ⟨_, _, rfl, hf, hb⟩
theorem q_made (V : Option Addr) (c n : Nat) (v : List UInt8) (leaf : Nat) (w : World) (hv : v.length = n) (hn : n ≤ 1000) (hr : Rd w w.heap.size 1 V n (bvs v)) :
    Calls Try.prog 54 #[.slice V n c, .int .i64 (leaf : Int)] w fun e w' => ∃ A' c', e = .returned (.slice A' 16 c') ∧ Fr w' w.heap.size 5 1 A' 16 c' (bvs (lastL leaf v)) ∧ Below w.heap.size w w' := by
  have h1 := wrap8_nat leaf
  have HR := Lib.hid hr
  have HV := Lib.hid hv
  clear hr hv
  obtain ⟨x, hx⟩ : ∃ x, x = UInt8.ofNat leaf := ⟨_, rfl⟩
  rw [lastL, ← hx]
  rw [← hx] at h1
  clear hx
  go_enter Try.func54, Try.ntmps54
  go_wp2_with (first
    | (at_builtin; refine wpList_append_to rfl (.tmp 6) (.tmp 7) rfl okB rfl (Fr.none_ (w := w) (base := w.heap.size)) rfl HR.out (bvs_one _) n (by omega) (bvs v) rfl (by unfold maxLen; omega) (by omega) (Nat.le_refl _) ?_; intro D1 d1 w1 f1 g1 _; have b1 := (Below.refl w.heap.size w).grown g1 (Nat.le_refl _) (by intro q hq; rw [rowOf_zero] at hq; cases hq); have HF1 := Lib.hid (f1.alloc (.cells (bvs [x]).toArray 5)); have HB1 := Lib.hid (below_alloc b1 (.cells (bvs [x]).toArray 5) (Nat.le_refl _)); have HR1 := Lib.hid (Rd.made w1 5 1 1 (bvs [x]) rfl); clear f1 g1 b1)
    | (at_builtin; refine wpList_append_to rfl (.tmp 9) (.tmp 12) rfl okB rfl HF1.out rfl HR1.out (bvs_one _) (n + 1) rfl (bvs (v ++ [x])) (bvs_app _ _).symm (by unfold maxLen; omega) (by omega) HB1.out.size ?_; intro D2 d2 w2 f2 g2 _; have b2 := HB1.out.grown g2 HB1.out.size (fun q hq => (HF1.out.row _ hq).1); have HF2 := Lib.hid f2; have HB2 := Lib.hid b2; clear f2 g2 b2))
  refine (r_key D2 (n + 1) d2 (v ++ [x]) w2 (by rw [List.length_append, HV.out]; rfl) (by omega) HF2.out.rd).mono ?_
  rintro e w3 ⟨D3, d3, rfl, f3, b3⟩
  have hf := f3.mono (base' := w.heap.size) HB2.out.size
  have hb := below_to HB2.out b3 HB2.out.size
  clear f3 b3
  go_wp2
  go_ret
  exact ⟨_, _, rfl, hf, hb⟩
theorem q_value0 (V : Option Addr) (c : Nat) (v : List UInt8) (leaf place : Nat) (w : World) (hv : v.length = 16) (hr : Rd w w.heap.size 1 V 16 (bvs v)) :
    Calls Try.prog 53 #[.slice V 16 c, .int .i64 (leaf : Int), .int .i64 (place : Int), .int .i64 0] w fun e w' => ∃ A' c', e = .returned (.slice A' 16 c') ∧ Fr w' w.heap.size 5 1 A' 16 c' (bvs (firstL v leaf place)) ∧ Below w.heap.size w w' := by
  have h1 := wrap8_nat leaf
  have h2 := wrap8_nat place
  have HR := Lib.hid hr
  have HV := Lib.hid hv
  clear hr hv
  obtain ⟨x, hx⟩ : ∃ x, x = UInt8.ofNat leaf := ⟨_, rfl⟩
  obtain ⟨y, hy⟩ : ∃ y, y = UInt8.ofNat place := ⟨_, rfl⟩
  rw [firstL, ← hx, ← hy]
  rw [← hx] at h1
  rw [← hy] at h2
  clear hx hy
  go_enter Try.func53, Try.ntmps53
  go_wp2_with (first
    | (at_builtin; refine wpList_append_to rfl (.tmp 12) (.tmp 13) rfl okB rfl (Fr.none_ (w := w) (base := w.heap.size)) rfl HR.out (bvs_one _) 16 rfl (bvs v) rfl (by unfold maxLen; omega) (by omega) (Nat.le_refl _) ?_; intro D1 d1 w1 f1 g1 _; have b1 := (Below.refl w.heap.size w).grown g1 (Nat.le_refl _) (by intro q hq; rw [rowOf_zero] at hq; cases hq); have HF1 := Lib.hid (f1.alloc (.cells (bvs [x, y]).toArray 5)); have HB1 := Lib.hid (below_alloc b1 (.cells (bvs [x, y]).toArray 5) (Nat.le_refl _)); have HR1 := Lib.hid (Rd.made w1 5 1 2 (bvs [x, y]) rfl); clear f1 g1 b1)
    | (at_builtin; refine wpList_append_to rfl (.tmp 15) (.tmp 20) rfl okB rfl HF1.out rfl HR1.out (bvs_one _) 18 rfl (bvs (v ++ [x, y])) (bvs_app _ _).symm (by unfold maxLen; omega) (by omega) HB1.out.size ?_; intro D2 d2 w2 f2 g2 _; have b2 := HB1.out.grown g2 HB1.out.size (fun q hq => (HF1.out.row _ hq).1); have HF2 := Lib.hid f2; have HB2 := Lib.hid b2; clear f2 g2 b2))
  refine (r_key D2 18 d2 (v ++ [x, y]) w2 (by rw [List.length_append, HV.out]; rfl) (by omega) HF2.out.rd).mono ?_
  rintro e w3 ⟨D3, d3, rfl, f3, b3⟩
  have hf := f3.mono (base' := w.heap.size) HB2.out.size
  have hb := below_to HB2.out b3 HB2.out.size
  clear f3 b3
  go_wp2
  go_ret
  exact ⟨_, _, rfl, hf, hb⟩
theorem q_value (V : Option Addr) (c : Nat) (v : List UInt8) (leaf place : Nat) (hv : v.length = 16) : ∀ (n : Nat) (hn : n ≤ 100) (w : World) (hr : Rd w w.heap.size 1 V 16 (bvs v)),
    Calls Try.prog 53 #[.slice V 16 c, .int .i64 (leaf : Int), .int .i64 (place : Int), .int .i64 (n : Int)] w fun e w' => ∃ A' c', e = .returned (.slice A' 16 c') ∧ Fr w' w.heap.size 5 1 A' 16 c' (bvs (onN leaf place (firstL v leaf place) 0 n)) ∧ Below w.heap.size w w'
  | 0, _, w, hr => q_value0 V c v leaf place w hv hr
  | n + 1, hn, w, hr => by
    have ih := q_value V c v leaf place hv n (by omega) w hr
    have IH := Lib.hid ih
    clear ih hr
    have e1 : ((n + 1 : Nat) : Int) = (n : Int) + 1 := by omega
    have hne : (((n : Int) + 1) == 0) = false := by simp; omega
    have hst : onN leaf place (firstL v leaf place) 0 (n + 1) = stepB leaf place (onN leaf place (firstL v leaf place) 0 n) n := by
      show stepB leaf place (onN leaf place (firstL v leaf place) 0 n) (0 + n) = _
      rw [Nat.zero_add]
    have hl := onN_len (leaf := leaf) (place := place) (f := 0) (firstL_len v leaf place) n
    rw [e1, hst]
    clear e1 hst
    have hn2 : (n : Int) ≤ 99 := by omega
    obtain ⟨y, hy⟩ : ∃ y, y = onN leaf place (firstL v leaf place) 0 n := ⟨_, rfl⟩
    rw [← hy]
    simp only [← hy] at IH hl
    clear hy
    have HL := Lib.hid hl
    clear hl
    go_enter Try.func53, Try.ntmps53
    go_wp2_with fail
    refine IH.out.mono ?_
    rintro e w1 ⟨A1, c1, rfl, f1, b1⟩
    have HB1 := Lib.hid b1
    have HF1 := Lib.hid f1
    clear f1 b1
    go_wp2_with fail
    refine (q_next A1 c1 y leaf place n w1 HL.out HF1.out.rd).mono ?_
    rintro e w2 ⟨A2, c2, rfl, f2, b2⟩
    have hf := f2.mono (base' := w.heap.size) HB1.out.size
    have hb := below_to HB1.out b2 HB1.out.size
    clear f2 b2
    go_wp2
    go_ret
    exact ⟨_, _, rfl, hf, hb⟩
end Go.Proofs.Ytoggpnncmgcgoaa
