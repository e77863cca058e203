/-
  charterhouseref03: contracts of Inner, Of.
-/
import Derived.Test.YtfjjkkakhfgdhaaRef02K
import Derived.Test.YtfjjkkakhfgdhaaMac
namespace Go.Proofs.Ytfjjkkakhfgdhaa
open Go.RowKit
set_option linter.unusedVariables false
set_option linter.unusedSimpArgs false
set_option maxRecDepth 100000

set_option maxHeartbeats 800000 in
theorem r_inner (K : Option Addr) (n c : Nat) (k : List UInt8) (D : Option Addr) (m d : Nat) (b : List UInt8) (w : World) (hk : k.length = n) (hn : n ≤ 20000) (hrk : Rd w w.heap.size 1 K n (bvs k)) (hb : b.length = m) (hm : m ≤ 20000) (hrb : Rd w w.heap.size 1 D m (bvs b)) :
    Calls Try.prog 74 #[.slice K n c, .slice D m d] w fun e w' => ∃ A' c', e = .returned (.slice A' 16 c') ∧ Fr w' w.heap.size 5 1 A' 16 c' (bvs (keyOf (fourOf (k ++ [1] ++ b)))) ∧ Below w.heap.size w w' := by
  have HK := Lib.hid hrk
  have HR := Lib.hid hrb
  have hl : (k ++ [1] ++ b).length = n + 1 + m := by simp only [List.length_append, List.length_cons, List.length_nil]; omega
  have HL := Lib.hid hl
  clear hrk hrb hl
  go_enter Try.func74, Try.ntmps74
  go_wp2_with (first
    | (at_builtin; refine wpList_append_to rfl (.tmp 6) (.tmp 7) rfl okB rfl (Fr.none_ (w := w) (base := w.heap.size)) rfl HK.out (bvs_one _) n (by omega) (bvs k) rfl (by unfold maxLen; omega) (by omega) (Nat.le_refl _) ?_; intro D1 d1 w1 f1 g1 _; have b1 := (Below.refl w.heap.size w).grown g1 (Nat.le_refl _) (by intro q hq; rw [rowOf_zero] at hq; cases hq); have HF1 := Lib.hid (f1.alloc (.cells (bvs [1]).toArray 5)); have HB1 := Lib.hid (below_alloc b1 (.cells (bvs [1]).toArray 5) (Nat.le_refl _)); have HR1 := Lib.hid (Rd.made w1 5 1 1 (bvs [1]) rfl); clear f1 g1 b1)
    | (at_builtin; refine wpList_append_to rfl (.tmp 9) (.tmp 10) rfl okB rfl HF1.out rfl HR1.out (bvs_one _) (n + 1) rfl (bvs (k ++ [1])) (bvs_app _ _).symm (by unfold maxLen; omega) (by omega) HB1.out.size ?_; intro D2 d2 w2 f2 g2 _; have b2 := HB1.out.grown g2 HB1.out.size (fun q hq => (HF1.out.row _ hq).1); have HF2 := Lib.hid f2; have HB2 := Lib.hid b2; clear f2 g2 b2)
    | (at_builtin; refine wpList_append_to rfl (.tmp 12) (.tmp 13) rfl okB rfl HF2.out rfl (HR.out.below HB2.out) (bvs_one _) (n + 1 + m) rfl (bvs (k ++ [1] ++ b)) (bvs_app _ _).symm (by unfold maxLen; omega) (by omega) HB2.out.size ?_; intro D3 d3 w3 f3 g3 _; have b3 := HB2.out.grown g3 HB2.out.size (fun q hq => (HF2.out.row _ hq).1); have HF3 := Lib.hid f3; have HB3 := Lib.hid b3; clear f3 g3 b3))
  refine (r_key D3 (n + 1 + m) d3 _ w3 HL.out (by omega) HF3.out.rd).mono ?_
  rintro e w4 ⟨D4, d4, rfl, f4, b4⟩
  have hf4 := f4.mono (base' := w.heap.size) HB3.out.size
  have hb4 := below_to HB3.out b4 HB3.out.size
  clear f4 b4
  go_wp2
  go_ret
  exact ⟨_, _, rfl, hf4, hb4⟩
set_option maxHeartbeats 800000 in
theorem r_of (K : Option Addr) (c : Nat) (k : List UInt8) (D : Option Addr) (m d : Nat) (b : List UInt8) (w : World) (hk : k.length = 16) (hrk : Rd w w.heap.size 1 K 16 (bvs k)) (hb : b.length = m) (hm : m ≤ 20000) (hrb : Rd w w.heap.size 1 D m (bvs b)) :
    Calls Try.prog 55 #[.slice K 16 c, .slice D m d] w fun e w' => e = .returned (.int .u32 (wi (fourOf (k ++ [2] ++ keyOf (fourOf (k ++ [1] ++ b)))).a)) ∧ Below w.heap.size w w' := by
  have hI := fun W (h : Below w.heap.size w W) => r_inner K 16 c k D m d b W hk (by omega) ((hrk.below h).more h.size) hb hm ((hrb.below h).more h.size)
  obtain ⟨y, hy⟩ : ∃ y, y = keyOf (fourOf (k ++ [1] ++ b)) := ⟨_, rfl⟩
  rw [← hy]
  simp only [← hy] at hI
  obtain ⟨V, hV⟩ : ∃ V, V = wi (fourOf (k ++ [2] ++ y)).a := ⟨_, rfl⟩
  rw [← hV]
  have HV := Lib.hid hV
  clear hV
  have HI := Lib.hid hI
  have HK := Lib.hid hrk
  have hl : (k ++ [2] ++ y).length = 33 := by rw [hy]; simp only [List.length_append, List.length_cons, List.length_nil, keyOf_len]; omega
  have HL := Lib.hid hl
  clear hrk hrb hI hl hy
  go_enter Try.func55, Try.ntmps55
  go_wp2_with (first
    | (at_builtin; refine wpList_append_to rfl (.tmp 6) (.tmp 7) rfl okB rfl (Fr.none_ (w := w) (base := w.heap.size)) rfl HK.out (bvs_one _) 16 rfl (bvs k) rfl (by unfold maxLen; omega) (by omega) (Nat.le_refl _) ?_; intro D1 d1 w1 f1 g1 _; have b1 := (Below.refl w.heap.size w).grown g1 (Nat.le_refl _) (by intro q hq; rw [rowOf_zero] at hq; cases hq); have HF1 := Lib.hid (f1.alloc (.cells (bvs [2]).toArray 5)); have HB1 := Lib.hid (below_alloc b1 (.cells (bvs [2]).toArray 5) (Nat.le_refl _)); have HR1 := Lib.hid (Rd.made w1 5 1 1 (bvs [2]) rfl); clear f1 g1 b1)
    | (at_builtin; refine wpList_append_to rfl (.tmp 9) (.tmp 10) rfl okB rfl HF1.out rfl HR1.out (bvs_one _) 17 rfl (bvs (k ++ [2])) (bvs_app _ _).symm (by unfold maxLen; omega) (by omega) HB1.out.size ?_; intro D2 d2 w2 f2 g2 _; have b2 := HB1.out.grown g2 HB1.out.size (fun q hq => (HF1.out.row _ hq).1); have HF2 := Lib.hid f2; have HB2 := Lib.hid b2; clear f2 g2 b2))
  refine (HI.out w2 HB2.out).mono ?_
  rintro e w3 ⟨D3, d3, rfl, f3, b3⟩
  have HF23 := Lib.hid (HF2.out.below b3 (Nat.le_refl _))
  have HB3 := Lib.hid (below_to HB2.out b3 HB2.out.size)
  have HR3 := Lib.hid f3.rd
  clear f3 b3 HF2 HB2
  go_wp2_with (first
    | (at_builtin; refine wpList_append_to rfl (.tmp 12) (.tmp 15) rfl okB rfl HF23.out rfl HR3.out (bvs_one _) 33 rfl (bvs (k ++ [2] ++ y)) (bvs_app _ _).symm (by unfold maxLen; omega) (by omega) HB3.out.size ?_; intro D4 d4 w4 f4 g4 _; have b4 := HB3.out.grown g4 HB3.out.size (fun q hq => (HF23.out.row _ hq).1); have HF4 := Lib.hid f4; have HB4 := Lib.hid b4; clear f4 g4 b4))
  have hS := r_sum D4 33 d4 (k ++ [2] ++ y) w4 HL.out (by omega) HF4.out.rd
  rw [← HV.out] at hS
  refine hS.mono ?_
  rintro e w5 ⟨rfl, b5⟩
  have hb5 := below_to HB4.out b5 HB4.out.size
  go_wp2
  go_ret
  exact ⟨rfl, hb5⟩
theorem tagOf_eq (k b : List UInt8) : wi (fourOf (k ++ [2] ++ keyOf (fourOf (k ++ [1] ++ b)))).a = wi (tagOf k b) := by
  simp only [tagOf, innerOf, List.append_assoc]
theorem r_ofT (K : Option Addr) (c : Nat) (k : List UInt8) (D : Option Addr) (m d : Nat) (b : List UInt8) (w : World) (hk : k.length = 16) (hrk : Rd w w.heap.size 1 K 16 (bvs k)) (hb : b.length = m) (hm : m ≤ 20000) (hrb : Rd w w.heap.size 1 D m (bvs b)) :
    Calls Try.prog 55 #[.slice K 16 c, .slice D m d] w fun e w' => e = .returned (.int .u32 (wi (tagOf k b))) ∧ Below w.heap.size w w' := by
  have h := r_of K c k D m d b w hk hrk hb hm hrb
  rw [tagOf_eq] at h
  exact h
end Go.Proofs.Ytfjjkkakhfgdhaa
