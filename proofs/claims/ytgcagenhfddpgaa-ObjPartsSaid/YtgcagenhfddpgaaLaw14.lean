/-
  The walks of layer 14's statements: alive, ObjBounds.
-/
import Derived.Test.YtgcagenhfddpgaaObjC
import Derived.Test.YtgcagenhfddpgaaLaw01
import Derived.Test.YtgcagenhfddpgaaPtrRw
namespace Go.Proofs.Ytgcagenhfddpgaa
open Go.RowKit
set_option linter.unusedVariables false
set_option linter.unusedSimpArgs false
set_option maxRecDepth 100000
attribute [local go_sem] str_toList toList_mk

theorem holes_len (n : Nat) : (holes n).length = n := List.length_replicate
theorem pcs_holes_get (n j : Nat) (h : j < n * 5) : (pcs (holes n))[j]? = Pt.zero.cs[j % 5]? := by
  have hk : j / 5 < (holes n).length := by rw [holes_len]; omega
  have e := pcs_get (holes n) (j / 5) (j % 5) hk (by omega)
  rw [show j / 5 * 5 + j % 5 = j by omega] at e
  rw [e]
  simp [holes]
theorem hole_cell (n k i : Nat) (hk : k < n) (hi : i < 5) : (pcs (holes n))[k * 5 + i]? = Pt.zero.cs[i]? := by
  rw [pcs_get (holes n) k i (by rw [holes_len]; exact hk) hi]
  simp only [holes, List.getElem_replicate]
theorem run_mkPtrs (kl kc : IntKind) (n : Nat) (hn : n ≤ 1000000) (w : World) :
    (Instr.makeSlice 42 (.int kl (n : Int)) (.int kc (n : Int))).run Try.prog w = .ok (.slice (some ⟨w.heap.size, 0, none⟩) n n) (w.alloc (.cells (pcs (holes n)).toArray 31)) := by
  obtain ⟨ht, _, _, i, hi, hz, hs, hb⟩ := okP
  have h := run_make (P := Try.prog) w 42 31 i _ ht hi hz kl kc n n (by omega) (by omega) (by rw [hb]; omega) (by omega)
  rw [h]
  simp only [Int.toNat_natCast, hs]
  congr 3
  apply Array.ext
  · simp only [madeCells, List.size_toArray, pcs_len, holes_len]
    simp
  · intro j h1 h2
    simp only [List.size_toArray, pcs_len, holes_len] at h2
    have e := pcs_holes_get n j h2
    have e2 : (pcs (holes n)).toArray[j]? = Pt.zero.cs[j % 5]? := by simpa using e
    have hj5 : j % 5 < 5 := Nat.mod_lt _ (by omega)
    simp only [madeCells, Value.cells]
    simp
    have e3 := List.getElem?_eq_getElem (l := pcs (holes n)) (i := j) (by rw [pcs_len, holes_len]; exact h2)
    rw [e] at e3
    generalize hr : j % 5 = r at *
    obtain rfl | rfl | rfl | rfl | rfl : r = 0 ∨ r = 1 ∨ r = 2 ∨ r = 3 ∨ r = 4 := by omega
    all_goals
      injection e3 with e3
      try rw [← e3]
theorem fr_mkPtrs (w : World) (n : Nat) (hn : n ≤ 1000000) {base : Nat} (hb : base ≤ w.heap.size) : Fr (w.alloc (.cells (pcs (holes n)).toArray 31)) base 31 5 (some ⟨w.heap.size, 0, none⟩) n n (pcs (holes n)) :=
  Fr.made w _ n n hb (by unfold maxLen; omega) (Nat.le_refl _) (by rw [List.size_toArray, pcs_len, holes_len]) (by rw [pcs_len, holes_len]) (by rw [List.take_of_length_le (by rw [pcs_len, holes_len]; exact Nat.le_refl _)])

theorem ob_empty (w : World) : Calls Try.prog 41 #[] w fun e w' => e = .returned (.agg #[.int .u8 1, .int .i64 2, .int .i64 300, .slice (some ⟨w.heap.size + 1, 0, none⟩) 15 15]) ∧ Fr w' w.heap.size 31 5 (some ⟨w.heap.size + 1, 0, none⟩) 15 15 (pcs (holes 15)) ∧ Below w.heap.size w w' := by
  have hmk : ∀ W, (Instr.makeSlice 42 (.int .i64 15) (.int .i64 15)).run Try.prog W = .ok (.slice (some ⟨W.heap.size, 0, none⟩) 15 15) (W.alloc (.cells (pcs (holes 15)).toArray 31)) := fun W => run_mkPtrs .i64 .i64 15 (by omega) W
  go_enter Try.func41, Try.ntmps41
  go_wp2
  have hx := (ObBox.new w 1 2 300 (.slice (some ⟨w.heap.size + 1, 0, none⟩) 15 15)).alloc (.cells (pcs (holes 15)).toArray 31)
  obtain ⟨c0, c1, c2, c3⟩ := hx.cells
  have hf := fr_mkPtrs (w.alloc (.cells #[.int .u8 1, .int .i64 2, .int .i64 300, .slice (some ⟨w.heap.size + 1, 0, none⟩) 15 15] 50)) 15 (by omega) (base := w.heap.size) (by rw [World.size_alloc]; omega)
  rw [World.size_alloc] at hf
  exact bodyPost_ret (v := .agg #[.int .u8 1, .int .i64 2, .int .i64 300, .slice (some ⟨w.heap.size + 1, 0, none⟩) 15 15]) (by simp [results, Try.results41, go_sem, c0, c1, c2, c3]) rfl ⟨rfl, hf, below_alloc (below_new w _) _ (Nat.le_refl _)⟩

theorem empty_may : ObMay 1 2 300 (holes 15) := ⟨⟨by decide, by decide⟩, ⟨by decide, by decide⟩, ⟨by decide, by decide⟩, holes_len 15, allMay_holes 15⟩
theorem empty_block : obB 1 2 300 (holes 15) = [1, 2, 44, 1, 0] ++ (noughts 11 ++ joined (holes 15)) := by
  rw [obB_yes empty_may]
  rfl
theorem alive14 (w : World) : Calls Try.prog 29 #[] w fun e w' => e = .returned (.bool true) ∧ Below w.heap.size w w' := by
  have hB := empty_block
  have hE := obE_yes empty_may
  have hL := obB_len empty_may
  have hw := fun (A : Option Addr) (W : World) hr => obj_write 1 2 300 A 15 15 (holes 15) W (holes_len 15) (allU_holes 15) hr (by decide) _ 0 256 hB hE (by rw [← hB]; exact hL)
  have HW := Lib.hid hw
  clear hB hE hL hw
  go_enter Try.func29, Try.ntmps29
  go_wp2_with fail
  refine (ob_empty w).mono ?_
  rintro e w1 ⟨rfl, f1, b1⟩
  go_wp2_with fail
  refine (HW.out _ w1 f1.rd).mono ?_
  rintro e w2 ⟨A2, c2, rfl, f2, b2⟩
  have hn := f2.nc
  have hr5 := f2.rd.take (k := 5) (by omega)
  rw [Nat.mul_one, ← bvs_take] at hr5
  have k1 := conv (l := [1, 2, 44, 1, 0]) hr5 c2
  have q1 : (str [1, 2, 44, 1, 0] == ⟨#[1, 2, 44, 1, 0]⟩) = true := by decide
  have h5 : (5 : Int) ≤ (c2 : Int) := by omega
  clear hr5 f2 f1
  go_wp2
  go_ret
  exact ⟨rfl, below_to b1 b2 b1.size⟩

/-! ### ObjBounds -/
theorem pcs_set (l : List Pt) (j : Nat) (h : j < l.length) (p : Pt) : (((((pcs l).set (j * 5) (.int .i64 p.a)).set (j * 5 + 1) (.int .u32 p.b)).set (j * 5 + 2) (.int .u32 p.i)).set (j * 5 + 3) (.int .u32 p.t)).set (j * 5 + 4) (.int .u32 p.s) = pcs (l.set j p) := by
  induction l generalizing j with
  | nil => cases h
  | cons q l ih =>
    cases j with
    | zero => rfl
    | succ j =>
      have e : ∀ i, (j + 1) * 5 + i = (j * 5 + i) + 1 + 1 + 1 + 1 + 1 := by intro i; omega
      have e0 : (j + 1) * 5 = (j * 5) + 1 + 1 + 1 + 1 + 1 := by omega
      rw [List.set_cons_succ, pcs, pcs, ← ih j (by simpa using h), e 1, e 2, e 3, e 4, e0]
      rfl
theorem allMay_set {j : Nat} (h : j < 15) (p : Pt) : AllMay ((holes 15).set j p) ↔ p.May := by
  constructor
  · intro ha
    exact ha p (List.mem_set (by rw [holes_len]; exact h) p)
  · intro hp q hq
    rcases List.mem_or_eq_of_mem_set hq with hq | rfl
    · exact allMay_holes 15 q hq
    · exact hp
theorem allU_set {j : Nat} (p : Pt) (hp : p.U) : AllU ((holes 15).set j p) := by
  intro q hq
  rcases List.mem_or_eq_of_mem_set hq with hq | rfl
  · exact allU_holes 15 q hq
  · exact hp
def put5at (w : World) (g o : Nat) (p : Pt) : World := ((((w.setCell ⟨g, o, none⟩ (.int .i64 p.a)).setCell ⟨g, o + 1, none⟩ (.int .u32 p.b)).setCell ⟨g, o + 2, none⟩ (.int .u32 p.i)).setCell ⟨g, o + 3, none⟩ (.int .u32 p.t)).setCell ⟨g, o + 4, none⟩ (.int .u32 p.s)
theorem setCell_row {w : World} {g i : Nat} {xs : List Value} {t : TypeId} (h : w.heap[g]? = some (.cells xs.toArray t (0, 0))) (u : Value) : (w.setCell ⟨g, i, none⟩ u).heap[g]? = some (.cells (xs.set i u).toArray t (0, 0)) := by
  rw [setCell_eq_setRow w g i xs.toArray t (0, 0) u h, setRow_heap w g _ _ t _ h]
  simp
theorem row_put5at {w : World} {g : Nat} {l : List Pt} {t : TypeId} (h : w.heap[g]? = some (.cells (pcs l).toArray t (0, 0))) {j : Nat} (hj : j < l.length) (p : Pt) : (put5at w g (j * 5) p).heap[g]? = some (.cells (pcs (l.set j p)).toArray t (0, 0)) := by
  rw [← pcs_set l j hj p]
  exact setCell_row (setCell_row (setCell_row (setCell_row (setCell_row h _) _) _) _) _
theorem Rd.blockN {w : World} {g n sz : Nat} {t : TypeId} {fz : Nat × Nat} {cs : List Value} (h : w.heap[g]? = some (.cells cs.toArray t fz)) (hn : cs.length = n * sz) : Rd w w.heap.size sz (some ⟨g, 0, none⟩) n cs :=
  ⟨hn, fun _ => ⟨g, 0, rfl, (Array.getElem?_eq_some_iff.1 h).1, fun j u hu => by
    rw [Nat.zero_add, cell_of_row w g j cs.toArray t fz h]
    simpa using hu⟩⟩
theorem below_put5at {B g : Nat} {w0 w : World} (h : Below B w0 w) (hg : B ≤ g) (o : Nat) (p : Pt) : Below B w0 (put5at w g o p) :=
  ((((h.setCell (p := ⟨g, o, none⟩) hg _).setCell (p := ⟨g, o + 1, none⟩) hg _).setCell (p := ⟨g, o + 2, none⟩) hg _).setCell (p := ⟨g, o + 3, none⟩) hg _).setCell (p := ⟨g, o + 4, none⟩) hg _
theorem other_put5at (w : World) (g o : Nat) (p : Pt) (b : Nat) (hb : b ≠ g) : (put5at w g o p).heap[b]? = w.heap[b]? :=
  (Below.heap_setCell _ _ _ _ hb).trans ((Below.heap_setCell _ _ _ _ hb).trans ((Below.heap_setCell _ _ _ _ hb).trans ((Below.heap_setCell _ _ _ _ hb).trans (Below.heap_setCell _ _ _ _ hb))))

set_option maxHeartbeats 1000000 in
theorem objBounds_k (K L S : Int) (a : Nat) (p : Pt) (hu : p.U) (hK8 : 0 ≤ K ∧ K ≤ 255) (ha : a ≤ 255) (w : World)
    (h1 : K < 1)
    : Calls Try.prog 11 #[.int .u8 K, .int .i64 L, .int .i64 S, .int .u8 (a : Int), .agg #[.int .i64 p.a, .int .u32 p.b, .int .u32 p.i, .int .u32 p.t, .int .u32 p.s]] w fun e w' => e = .returned (.bool true) ∧ Below w.heap.size w w' := by
  have hj : a % 15 < 15 := Nat.mod_lt _ (by omega)
  have hE : obE K L S ((holes 15).set (a % 15) p) = 8 := by
    refine obE_no fun h => ?_; have := h.1.1; omega
  have hck := fun (A : Option Addr) (W : World) hr => obj_check K L S A 15 15 ((holes 15).set (a % 15) p) W (by rw [List.length_set, holes_len]) hr hK8 8 hE
  have HCK := Lib.hid hck
  clear hck hE
  have hmk : ∀ W, (Instr.makeSlice 42 (.int .i64 15) (.int .i64 15)).run Try.prog W = .ok (.slice (some ⟨W.heap.size, 0, none⟩) 15 15) (W.alloc (.cells (pcs (holes 15)).toArray 31)) := fun W => run_mkPtrs .i64 .i64 15 (by omega) W
  have hx0 := PtBox.new w p
  have hb0 := below_new w (.cells #[.int .i64 p.a, .int .u32 p.b, .int .u32 p.i, .int .u32 p.t, .int .u32 p.s] 31)
  have HX0 := Lib.hid hx0
  have HB0 := Lib.hid hb0
  clear hx0 hb0
  have q0 : (pcs (holes 15))[a % 15 * 5]? = some (.int .i64 0) := hole_cell 15 (a % 15) 0 hj (by omega)
  have q1 : (pcs (holes 15))[a % 15 * 5 + 1]? = some (.int .u32 0) := hole_cell 15 (a % 15) 1 hj (by omega)
  have q2 : (pcs (holes 15))[a % 15 * 5 + 2]? = some (.int .u32 0) := hole_cell 15 (a % 15) 2 hj (by omega)
  have q3 : (pcs (holes 15))[a % 15 * 5 + 3]? = some (.int .u32 0) := hole_cell 15 (a % 15) 3 hj (by omega)
  have q4 : (pcs (holes 15))[a % 15 * 5 + 4]? = some (.int .u32 0) := hole_cell 15 (a % 15) 4 hj (by omega)
  go_enter Try.func11, Try.ntmps11
  go_wp2_with fail
  refine (alive14 _).mono ?_
  rintro e w1 ⟨rfl, b1⟩
  have x1 := HX0.out.below b1 HX0.out.lt
  have B1 := below_to HB0.out b1 HB0.out.size
  obtain ⟨p0, p1, p2, p3, p4⟩ := x1.cells
  have hl1 := x1.lt
  go_wp2_with fail
  rw [pcs_set (holes 15) (a % 15) (by rw [holes_len]; exact hj) p]
  have B2 := below_alloc (below_alloc B1 (.cells (pcs ((holes 15).set (a % 15) p)).toArray 31) (Nat.le_refl _)) (.cells #[.int .u8 K, .int .i64 L, .int .i64 S, .slice (some ⟨w1.heap.size, 0, none⟩) 15 15] 50) (Nat.le_refl _)
  have R2 : Rd ((w1.alloc (.cells (pcs ((holes 15).set (a % 15) p)).toArray 31)).alloc (.cells #[.int .u8 K, .int .i64 L, .int .i64 S, .slice (some ⟨w1.heap.size, 0, none⟩) 15 15] 50)) ((w1.alloc (.cells (pcs ((holes 15).set (a % 15) p)).toArray 31)).alloc (.cells #[.int .u8 K, .int .i64 L, .int .i64 S, .slice (some ⟨w1.heap.size, 0, none⟩) 15 15] 50)).heap.size 5 (some ⟨w1.heap.size, 0, none⟩) 15 (pcs ((holes 15).set (a % 15) p)) :=
    Rd.blockN ((Below.heap_alloc _ _ _ (by rw [World.size_alloc]; omega)).trans (heap_alloc_new w1 _)) (by rw [pcs_len, List.length_set, holes_len])
  generalize (w1.alloc (.cells (pcs ((holes 15).set (a % 15) p)).toArray 31)).alloc (.cells #[.int .u8 K, .int .i64 L, .int .i64 S, .slice (some ⟨w1.heap.size, 0, none⟩) 15 15] 50) = w2 at *
  refine (HCK.out _ w2 R2).mono ?_
  rintro e w4 ⟨rfl, b4⟩
  have B4 := below_to B2 b4 B2.size
  go_wp2
  go_ret
  exact ⟨rfl, B4⟩
set_option maxHeartbeats 1000000 in
theorem objBounds_kk (K L S : Int) (a : Nat) (p : Pt) (hu : p.U) (hK8 : 0 ≤ K ∧ K ≤ 255) (ha : a ≤ 255) (w : World)
    (h1 : 1 ≤ K)
    (h2 : decide (K ≤ 7) = false)
    : Calls Try.prog 11 #[.int .u8 K, .int .i64 L, .int .i64 S, .int .u8 (a : Int), .agg #[.int .i64 p.a, .int .u32 p.b, .int .u32 p.i, .int .u32 p.t, .int .u32 p.s]] w fun e w' => e = .returned (.bool true) ∧ Below w.heap.size w w' := by
  have hj : a % 15 < 15 := Nat.mod_lt _ (by omega)
  have hE : obE K L S ((holes 15).set (a % 15) p) = 8 := by
    refine obE_no fun h => ?_; have := h.1.2; simp at h2; omega
  have hck := fun (A : Option Addr) (W : World) hr => obj_check K L S A 15 15 ((holes 15).set (a % 15) p) W (by rw [List.length_set, holes_len]) hr hK8 8 hE
  have HCK := Lib.hid hck
  clear hck hE
  have hmk : ∀ W, (Instr.makeSlice 42 (.int .i64 15) (.int .i64 15)).run Try.prog W = .ok (.slice (some ⟨W.heap.size, 0, none⟩) 15 15) (W.alloc (.cells (pcs (holes 15)).toArray 31)) := fun W => run_mkPtrs .i64 .i64 15 (by omega) W
  have hx0 := PtBox.new w p
  have hb0 := below_new w (.cells #[.int .i64 p.a, .int .u32 p.b, .int .u32 p.i, .int .u32 p.t, .int .u32 p.s] 31)
  have HX0 := Lib.hid hx0
  have HB0 := Lib.hid hb0
  clear hx0 hb0
  have q0 : (pcs (holes 15))[a % 15 * 5]? = some (.int .i64 0) := hole_cell 15 (a % 15) 0 hj (by omega)
  have q1 : (pcs (holes 15))[a % 15 * 5 + 1]? = some (.int .u32 0) := hole_cell 15 (a % 15) 1 hj (by omega)
  have q2 : (pcs (holes 15))[a % 15 * 5 + 2]? = some (.int .u32 0) := hole_cell 15 (a % 15) 2 hj (by omega)
  have q3 : (pcs (holes 15))[a % 15 * 5 + 3]? = some (.int .u32 0) := hole_cell 15 (a % 15) 3 hj (by omega)
  have q4 : (pcs (holes 15))[a % 15 * 5 + 4]? = some (.int .u32 0) := hole_cell 15 (a % 15) 4 hj (by omega)
  go_enter Try.func11, Try.ntmps11
  go_wp2_with fail
  refine (alive14 _).mono ?_
  rintro e w1 ⟨rfl, b1⟩
  have x1 := HX0.out.below b1 HX0.out.lt
  have B1 := below_to HB0.out b1 HB0.out.size
  obtain ⟨p0, p1, p2, p3, p4⟩ := x1.cells
  have hl1 := x1.lt
  go_wp2_with fail
  rw [pcs_set (holes 15) (a % 15) (by rw [holes_len]; exact hj) p]
  have B2 := below_alloc (below_alloc B1 (.cells (pcs ((holes 15).set (a % 15) p)).toArray 31) (Nat.le_refl _)) (.cells #[.int .u8 K, .int .i64 L, .int .i64 S, .slice (some ⟨w1.heap.size, 0, none⟩) 15 15] 50) (Nat.le_refl _)
  have R2 : Rd ((w1.alloc (.cells (pcs ((holes 15).set (a % 15) p)).toArray 31)).alloc (.cells #[.int .u8 K, .int .i64 L, .int .i64 S, .slice (some ⟨w1.heap.size, 0, none⟩) 15 15] 50)) ((w1.alloc (.cells (pcs ((holes 15).set (a % 15) p)).toArray 31)).alloc (.cells #[.int .u8 K, .int .i64 L, .int .i64 S, .slice (some ⟨w1.heap.size, 0, none⟩) 15 15] 50)).heap.size 5 (some ⟨w1.heap.size, 0, none⟩) 15 (pcs ((holes 15).set (a % 15) p)) :=
    Rd.blockN ((Below.heap_alloc _ _ _ (by rw [World.size_alloc]; omega)).trans (heap_alloc_new w1 _)) (by rw [pcs_len, List.length_set, holes_len])
  generalize (w1.alloc (.cells (pcs ((holes 15).set (a % 15) p)).toArray 31)).alloc (.cells #[.int .u8 K, .int .i64 L, .int .i64 S, .slice (some ⟨w1.heap.size, 0, none⟩) 15 15] 50) = w2 at *
  refine (HCK.out _ w2 R2).mono ?_
  rintro e w4 ⟨rfl, b4⟩
  have B4 := below_to B2 b4 B2.size
  go_wp2
  go_ret
  exact ⟨rfl, B4⟩
set_option maxHeartbeats 1000000 in
theorem objBounds_l (K L S : Int) (a : Nat) (p : Pt) (hu : p.U) (hK8 : 0 ≤ K ∧ K ≤ 255) (ha : a ≤ 255) (w : World)
    (h1 : 1 ≤ K)
    (h2 : K ≤ 7)
    (h3 : decide (0 ≤ L) = false)
    : Calls Try.prog 11 #[.int .u8 K, .int .i64 L, .int .i64 S, .int .u8 (a : Int), .agg #[.int .i64 p.a, .int .u32 p.b, .int .u32 p.i, .int .u32 p.t, .int .u32 p.s]] w fun e w' => e = .returned (.bool true) ∧ Below w.heap.size w w' := by
  have hj : a % 15 < 15 := Nat.mod_lt _ (by omega)
  have hE : obE K L S ((holes 15).set (a % 15) p) = 8 := by
    refine obE_no fun h => ?_; have := h.2.1.1; simp at h3; omega
  have hck := fun (A : Option Addr) (W : World) hr => obj_check K L S A 15 15 ((holes 15).set (a % 15) p) W (by rw [List.length_set, holes_len]) hr hK8 8 hE
  have HCK := Lib.hid hck
  clear hck hE
  have hmk : ∀ W, (Instr.makeSlice 42 (.int .i64 15) (.int .i64 15)).run Try.prog W = .ok (.slice (some ⟨W.heap.size, 0, none⟩) 15 15) (W.alloc (.cells (pcs (holes 15)).toArray 31)) := fun W => run_mkPtrs .i64 .i64 15 (by omega) W
  have hx0 := PtBox.new w p
  have hb0 := below_new w (.cells #[.int .i64 p.a, .int .u32 p.b, .int .u32 p.i, .int .u32 p.t, .int .u32 p.s] 31)
  have HX0 := Lib.hid hx0
  have HB0 := Lib.hid hb0
  clear hx0 hb0
  have q0 : (pcs (holes 15))[a % 15 * 5]? = some (.int .i64 0) := hole_cell 15 (a % 15) 0 hj (by omega)
  have q1 : (pcs (holes 15))[a % 15 * 5 + 1]? = some (.int .u32 0) := hole_cell 15 (a % 15) 1 hj (by omega)
  have q2 : (pcs (holes 15))[a % 15 * 5 + 2]? = some (.int .u32 0) := hole_cell 15 (a % 15) 2 hj (by omega)
  have q3 : (pcs (holes 15))[a % 15 * 5 + 3]? = some (.int .u32 0) := hole_cell 15 (a % 15) 3 hj (by omega)
  have q4 : (pcs (holes 15))[a % 15 * 5 + 4]? = some (.int .u32 0) := hole_cell 15 (a % 15) 4 hj (by omega)
  go_enter Try.func11, Try.ntmps11
  go_wp2_with fail
  refine (alive14 _).mono ?_
  rintro e w1 ⟨rfl, b1⟩
  have x1 := HX0.out.below b1 HX0.out.lt
  have B1 := below_to HB0.out b1 HB0.out.size
  obtain ⟨p0, p1, p2, p3, p4⟩ := x1.cells
  have hl1 := x1.lt
  go_wp2_with fail
  rw [pcs_set (holes 15) (a % 15) (by rw [holes_len]; exact hj) p]
  have B2 := below_alloc (below_alloc B1 (.cells (pcs ((holes 15).set (a % 15) p)).toArray 31) (Nat.le_refl _)) (.cells #[.int .u8 K, .int .i64 L, .int .i64 S, .slice (some ⟨w1.heap.size, 0, none⟩) 15 15] 50) (Nat.le_refl _)
  have R2 : Rd ((w1.alloc (.cells (pcs ((holes 15).set (a % 15) p)).toArray 31)).alloc (.cells #[.int .u8 K, .int .i64 L, .int .i64 S, .slice (some ⟨w1.heap.size, 0, none⟩) 15 15] 50)) ((w1.alloc (.cells (pcs ((holes 15).set (a % 15) p)).toArray 31)).alloc (.cells #[.int .u8 K, .int .i64 L, .int .i64 S, .slice (some ⟨w1.heap.size, 0, none⟩) 15 15] 50)).heap.size 5 (some ⟨w1.heap.size, 0, none⟩) 15 (pcs ((holes 15).set (a % 15) p)) :=
    Rd.blockN ((Below.heap_alloc _ _ _ (by rw [World.size_alloc]; omega)).trans (heap_alloc_new w1 _)) (by rw [pcs_len, List.length_set, holes_len])
  generalize (w1.alloc (.cells (pcs ((holes 15).set (a % 15) p)).toArray 31)).alloc (.cells #[.int .u8 K, .int .i64 L, .int .i64 S, .slice (some ⟨w1.heap.size, 0, none⟩) 15 15] 50) = w2 at *
  refine (HCK.out _ w2 R2).mono ?_
  rintro e w4 ⟨rfl, b4⟩
  have B4 := below_to B2 b4 B2.size
  go_wp2
  go_ret
  exact ⟨rfl, B4⟩
set_option maxHeartbeats 1000000 in
theorem objBounds_ll (K L S : Int) (a : Nat) (p : Pt) (hu : p.U) (hK8 : 0 ≤ K ∧ K ≤ 255) (ha : a ≤ 255) (w : World)
    (h1 : 1 ≤ K)
    (h2 : K ≤ 7)
    (h3 : 0 ≤ L)
    (h4 : decide (L ≤ 255) = false)
    : Calls Try.prog 11 #[.int .u8 K, .int .i64 L, .int .i64 S, .int .u8 (a : Int), .agg #[.int .i64 p.a, .int .u32 p.b, .int .u32 p.i, .int .u32 p.t, .int .u32 p.s]] w fun e w' => e = .returned (.bool true) ∧ Below w.heap.size w w' := by
  have hj : a % 15 < 15 := Nat.mod_lt _ (by omega)
  have hE : obE K L S ((holes 15).set (a % 15) p) = 8 := by
    refine obE_no fun h => ?_; have := h.2.1.2; simp at h4; omega
  have hck := fun (A : Option Addr) (W : World) hr => obj_check K L S A 15 15 ((holes 15).set (a % 15) p) W (by rw [List.length_set, holes_len]) hr hK8 8 hE
  have HCK := Lib.hid hck
  clear hck hE
  have hmk : ∀ W, (Instr.makeSlice 42 (.int .i64 15) (.int .i64 15)).run Try.prog W = .ok (.slice (some ⟨W.heap.size, 0, none⟩) 15 15) (W.alloc (.cells (pcs (holes 15)).toArray 31)) := fun W => run_mkPtrs .i64 .i64 15 (by omega) W
  have hx0 := PtBox.new w p
  have hb0 := below_new w (.cells #[.int .i64 p.a, .int .u32 p.b, .int .u32 p.i, .int .u32 p.t, .int .u32 p.s] 31)
  have HX0 := Lib.hid hx0
  have HB0 := Lib.hid hb0
  clear hx0 hb0
  have q0 : (pcs (holes 15))[a % 15 * 5]? = some (.int .i64 0) := hole_cell 15 (a % 15) 0 hj (by omega)
  have q1 : (pcs (holes 15))[a % 15 * 5 + 1]? = some (.int .u32 0) := hole_cell 15 (a % 15) 1 hj (by omega)
  have q2 : (pcs (holes 15))[a % 15 * 5 + 2]? = some (.int .u32 0) := hole_cell 15 (a % 15) 2 hj (by omega)
  have q3 : (pcs (holes 15))[a % 15 * 5 + 3]? = some (.int .u32 0) := hole_cell 15 (a % 15) 3 hj (by omega)
  have q4 : (pcs (holes 15))[a % 15 * 5 + 4]? = some (.int .u32 0) := hole_cell 15 (a % 15) 4 hj (by omega)
  go_enter Try.func11, Try.ntmps11
  go_wp2_with fail
  refine (alive14 _).mono ?_
  rintro e w1 ⟨rfl, b1⟩
  have x1 := HX0.out.below b1 HX0.out.lt
  have B1 := below_to HB0.out b1 HB0.out.size
  obtain ⟨p0, p1, p2, p3, p4⟩ := x1.cells
  have hl1 := x1.lt
  go_wp2_with fail
  rw [pcs_set (holes 15) (a % 15) (by rw [holes_len]; exact hj) p]
  have B2 := below_alloc (below_alloc B1 (.cells (pcs ((holes 15).set (a % 15) p)).toArray 31) (Nat.le_refl _)) (.cells #[.int .u8 K, .int .i64 L, .int .i64 S, .slice (some ⟨w1.heap.size, 0, none⟩) 15 15] 50) (Nat.le_refl _)
  have R2 : Rd ((w1.alloc (.cells (pcs ((holes 15).set (a % 15) p)).toArray 31)).alloc (.cells #[.int .u8 K, .int .i64 L, .int .i64 S, .slice (some ⟨w1.heap.size, 0, none⟩) 15 15] 50)) ((w1.alloc (.cells (pcs ((holes 15).set (a % 15) p)).toArray 31)).alloc (.cells #[.int .u8 K, .int .i64 L, .int .i64 S, .slice (some ⟨w1.heap.size, 0, none⟩) 15 15] 50)).heap.size 5 (some ⟨w1.heap.size, 0, none⟩) 15 (pcs ((holes 15).set (a % 15) p)) :=
    Rd.blockN ((Below.heap_alloc _ _ _ (by rw [World.size_alloc]; omega)).trans (heap_alloc_new w1 _)) (by rw [pcs_len, List.length_set, holes_len])
  generalize (w1.alloc (.cells (pcs ((holes 15).set (a % 15) p)).toArray 31)).alloc (.cells #[.int .u8 K, .int .i64 L, .int .i64 S, .slice (some ⟨w1.heap.size, 0, none⟩) 15 15] 50) = w2 at *
  refine (HCK.out _ w2 R2).mono ?_
  rintro e w4 ⟨rfl, b4⟩
  have B4 := below_to B2 b4 B2.size
  go_wp2
  go_ret
  exact ⟨rfl, B4⟩
set_option maxHeartbeats 1000000 in
theorem objBounds_s (K L S : Int) (a : Nat) (p : Pt) (hu : p.U) (hK8 : 0 ≤ K ∧ K ≤ 255) (ha : a ≤ 255) (w : World)
    (h1 : 1 ≤ K)
    (h2 : K ≤ 7)
    (h3 : 0 ≤ L)
    (h4 : L ≤ 255)
    (h5 : decide (0 ≤ S) = false)
    : Calls Try.prog 11 #[.int .u8 K, .int .i64 L, .int .i64 S, .int .u8 (a : Int), .agg #[.int .i64 p.a, .int .u32 p.b, .int .u32 p.i, .int .u32 p.t, .int .u32 p.s]] w fun e w' => e = .returned (.bool true) ∧ Below w.heap.size w w' := by
  have hj : a % 15 < 15 := Nat.mod_lt _ (by omega)
  have hE : obE K L S ((holes 15).set (a % 15) p) = 8 := by
    refine obE_no fun h => ?_; have := h.2.2.1.1; simp at h5; omega
  have hck := fun (A : Option Addr) (W : World) hr => obj_check K L S A 15 15 ((holes 15).set (a % 15) p) W (by rw [List.length_set, holes_len]) hr hK8 8 hE
  have HCK := Lib.hid hck
  clear hck hE
  have hmk : ∀ W, (Instr.makeSlice 42 (.int .i64 15) (.int .i64 15)).run Try.prog W = .ok (.slice (some ⟨W.heap.size, 0, none⟩) 15 15) (W.alloc (.cells (pcs (holes 15)).toArray 31)) := fun W => run_mkPtrs .i64 .i64 15 (by omega) W
  have hx0 := PtBox.new w p
  have hb0 := below_new w (.cells #[.int .i64 p.a, .int .u32 p.b, .int .u32 p.i, .int .u32 p.t, .int .u32 p.s] 31)
  have HX0 := Lib.hid hx0
  have HB0 := Lib.hid hb0
  clear hx0 hb0
  have q0 : (pcs (holes 15))[a % 15 * 5]? = some (.int .i64 0) := hole_cell 15 (a % 15) 0 hj (by omega)
  have q1 : (pcs (holes 15))[a % 15 * 5 + 1]? = some (.int .u32 0) := hole_cell 15 (a % 15) 1 hj (by omega)
  have q2 : (pcs (holes 15))[a % 15 * 5 + 2]? = some (.int .u32 0) := hole_cell 15 (a % 15) 2 hj (by omega)
  have q3 : (pcs (holes 15))[a % 15 * 5 + 3]? = some (.int .u32 0) := hole_cell 15 (a % 15) 3 hj (by omega)
  have q4 : (pcs (holes 15))[a % 15 * 5 + 4]? = some (.int .u32 0) := hole_cell 15 (a % 15) 4 hj (by omega)
  go_enter Try.func11, Try.ntmps11
  go_wp2_with fail
  refine (alive14 _).mono ?_
  rintro e w1 ⟨rfl, b1⟩
  have x1 := HX0.out.below b1 HX0.out.lt
  have B1 := below_to HB0.out b1 HB0.out.size
  obtain ⟨p0, p1, p2, p3, p4⟩ := x1.cells
  have hl1 := x1.lt
  go_wp2_with fail
  rw [pcs_set (holes 15) (a % 15) (by rw [holes_len]; exact hj) p]
  have B2 := below_alloc (below_alloc B1 (.cells (pcs ((holes 15).set (a % 15) p)).toArray 31) (Nat.le_refl _)) (.cells #[.int .u8 K, .int .i64 L, .int .i64 S, .slice (some ⟨w1.heap.size, 0, none⟩) 15 15] 50) (Nat.le_refl _)
  have R2 : Rd ((w1.alloc (.cells (pcs ((holes 15).set (a % 15) p)).toArray 31)).alloc (.cells #[.int .u8 K, .int .i64 L, .int .i64 S, .slice (some ⟨w1.heap.size, 0, none⟩) 15 15] 50)) ((w1.alloc (.cells (pcs ((holes 15).set (a % 15) p)).toArray 31)).alloc (.cells #[.int .u8 K, .int .i64 L, .int .i64 S, .slice (some ⟨w1.heap.size, 0, none⟩) 15 15] 50)).heap.size 5 (some ⟨w1.heap.size, 0, none⟩) 15 (pcs ((holes 15).set (a % 15) p)) :=
    Rd.blockN ((Below.heap_alloc _ _ _ (by rw [World.size_alloc]; omega)).trans (heap_alloc_new w1 _)) (by rw [pcs_len, List.length_set, holes_len])
  generalize (w1.alloc (.cells (pcs ((holes 15).set (a % 15) p)).toArray 31)).alloc (.cells #[.int .u8 K, .int .i64 L, .int .i64 S, .slice (some ⟨w1.heap.size, 0, none⟩) 15 15] 50) = w2 at *
  refine (HCK.out _ w2 R2).mono ?_
  rintro e w4 ⟨rfl, b4⟩
  have B4 := below_to B2 b4 B2.size
  go_wp2
  go_ret
  exact ⟨rfl, B4⟩
set_option maxHeartbeats 1000000 in
theorem objBounds_ss (K L S : Int) (a : Nat) (p : Pt) (hu : p.U) (hK8 : 0 ≤ K ∧ K ≤ 255) (ha : a ≤ 255) (w : World)
    (h1 : 1 ≤ K)
    (h2 : K ≤ 7)
    (h3 : 0 ≤ L)
    (h4 : L ≤ 255)
    (h5 : 0 ≤ S)
    (h6 : decide (S ≤ 3840) = false)
    : Calls Try.prog 11 #[.int .u8 K, .int .i64 L, .int .i64 S, .int .u8 (a : Int), .agg #[.int .i64 p.a, .int .u32 p.b, .int .u32 p.i, .int .u32 p.t, .int .u32 p.s]] w fun e w' => e = .returned (.bool true) ∧ Below w.heap.size w w' := by
  have hj : a % 15 < 15 := Nat.mod_lt _ (by omega)
  have hE : obE K L S ((holes 15).set (a % 15) p) = 8 := by
    refine obE_no fun h => ?_; have := h.2.2.1.2; simp at h6; omega
  have hck := fun (A : Option Addr) (W : World) hr => obj_check K L S A 15 15 ((holes 15).set (a % 15) p) W (by rw [List.length_set, holes_len]) hr hK8 8 hE
  have HCK := Lib.hid hck
  clear hck hE
  have hmk : ∀ W, (Instr.makeSlice 42 (.int .i64 15) (.int .i64 15)).run Try.prog W = .ok (.slice (some ⟨W.heap.size, 0, none⟩) 15 15) (W.alloc (.cells (pcs (holes 15)).toArray 31)) := fun W => run_mkPtrs .i64 .i64 15 (by omega) W
  have hx0 := PtBox.new w p
  have hb0 := below_new w (.cells #[.int .i64 p.a, .int .u32 p.b, .int .u32 p.i, .int .u32 p.t, .int .u32 p.s] 31)
  have HX0 := Lib.hid hx0
  have HB0 := Lib.hid hb0
  clear hx0 hb0
  have q0 : (pcs (holes 15))[a % 15 * 5]? = some (.int .i64 0) := hole_cell 15 (a % 15) 0 hj (by omega)
  have q1 : (pcs (holes 15))[a % 15 * 5 + 1]? = some (.int .u32 0) := hole_cell 15 (a % 15) 1 hj (by omega)
  have q2 : (pcs (holes 15))[a % 15 * 5 + 2]? = some (.int .u32 0) := hole_cell 15 (a % 15) 2 hj (by omega)
  have q3 : (pcs (holes 15))[a % 15 * 5 + 3]? = some (.int .u32 0) := hole_cell 15 (a % 15) 3 hj (by omega)
  have q4 : (pcs (holes 15))[a % 15 * 5 + 4]? = some (.int .u32 0) := hole_cell 15 (a % 15) 4 hj (by omega)
  go_enter Try.func11, Try.ntmps11
  go_wp2_with fail
  refine (alive14 _).mono ?_
  rintro e w1 ⟨rfl, b1⟩
  have x1 := HX0.out.below b1 HX0.out.lt
  have B1 := below_to HB0.out b1 HB0.out.size
  obtain ⟨p0, p1, p2, p3, p4⟩ := x1.cells
  have hl1 := x1.lt
  go_wp2_with fail
  rw [pcs_set (holes 15) (a % 15) (by rw [holes_len]; exact hj) p]
  have B2 := below_alloc (below_alloc B1 (.cells (pcs ((holes 15).set (a % 15) p)).toArray 31) (Nat.le_refl _)) (.cells #[.int .u8 K, .int .i64 L, .int .i64 S, .slice (some ⟨w1.heap.size, 0, none⟩) 15 15] 50) (Nat.le_refl _)
  have R2 : Rd ((w1.alloc (.cells (pcs ((holes 15).set (a % 15) p)).toArray 31)).alloc (.cells #[.int .u8 K, .int .i64 L, .int .i64 S, .slice (some ⟨w1.heap.size, 0, none⟩) 15 15] 50)) ((w1.alloc (.cells (pcs ((holes 15).set (a % 15) p)).toArray 31)).alloc (.cells #[.int .u8 K, .int .i64 L, .int .i64 S, .slice (some ⟨w1.heap.size, 0, none⟩) 15 15] 50)).heap.size 5 (some ⟨w1.heap.size, 0, none⟩) 15 (pcs ((holes 15).set (a % 15) p)) :=
    Rd.blockN ((Below.heap_alloc _ _ _ (by rw [World.size_alloc]; omega)).trans (heap_alloc_new w1 _)) (by rw [pcs_len, List.length_set, holes_len])
  generalize (w1.alloc (.cells (pcs ((holes 15).set (a % 15) p)).toArray 31)).alloc (.cells #[.int .u8 K, .int .i64 L, .int .i64 S, .slice (some ⟨w1.heap.size, 0, none⟩) 15 15] 50) = w2 at *
  refine (HCK.out _ w2 R2).mono ?_
  rintro e w4 ⟨rfl, b4⟩
  have B4 := below_to B2 b4 B2.size
  go_wp2
  go_ret
  exact ⟨rfl, B4⟩
set_option maxHeartbeats 1000000 in
theorem objBounds_p (K L S : Int) (a : Nat) (p : Pt) (hu : p.U) (hK8 : 0 ≤ K ∧ K ≤ 255) (ha : a ≤ 255) (w : World)
    (h1 : 1 ≤ K)
    (h2 : K ≤ 7)
    (h3 : 0 ≤ L)
    (h4 : L ≤ 255)
    (h5 : 0 ≤ S)
    (h6 : S ≤ 3840)
    (h7 : ¬ p.May)
    : Calls Try.prog 11 #[.int .u8 K, .int .i64 L, .int .i64 S, .int .u8 (a : Int), .agg #[.int .i64 p.a, .int .u32 p.b, .int .u32 p.i, .int .u32 p.t, .int .u32 p.s]] w fun e w' => e = .returned (.bool true) ∧ Below w.heap.size w w' := by
  have hj : a % 15 < 15 := Nat.mod_lt _ (by omega)
  have hE : obE K L S ((holes 15).set (a % 15) p) = 8 := by
    exact obE_no fun h => h7 ((allMay_set hj p).1 h.2.2.2.2)
  have hcp := fun W => ptr_checkX p 8 (Pt.chk_bad h7) W
  have HCP := Lib.hid hcp
  clear hcp h7
  have hck := fun (A : Option Addr) (W : World) hr => obj_check K L S A 15 15 ((holes 15).set (a % 15) p) W (by rw [List.length_set, holes_len]) hr hK8 8 hE
  have HCK := Lib.hid hck
  clear hck hE
  have hmk : ∀ W, (Instr.makeSlice 42 (.int .i64 15) (.int .i64 15)).run Try.prog W = .ok (.slice (some ⟨W.heap.size, 0, none⟩) 15 15) (W.alloc (.cells (pcs (holes 15)).toArray 31)) := fun W => run_mkPtrs .i64 .i64 15 (by omega) W
  have hx0 := PtBox.new w p
  have hb0 := below_new w (.cells #[.int .i64 p.a, .int .u32 p.b, .int .u32 p.i, .int .u32 p.t, .int .u32 p.s] 31)
  have HX0 := Lib.hid hx0
  have HB0 := Lib.hid hb0
  clear hx0 hb0
  have q0 : (pcs (holes 15))[a % 15 * 5]? = some (.int .i64 0) := hole_cell 15 (a % 15) 0 hj (by omega)
  have q1 : (pcs (holes 15))[a % 15 * 5 + 1]? = some (.int .u32 0) := hole_cell 15 (a % 15) 1 hj (by omega)
  have q2 : (pcs (holes 15))[a % 15 * 5 + 2]? = some (.int .u32 0) := hole_cell 15 (a % 15) 2 hj (by omega)
  have q3 : (pcs (holes 15))[a % 15 * 5 + 3]? = some (.int .u32 0) := hole_cell 15 (a % 15) 3 hj (by omega)
  have q4 : (pcs (holes 15))[a % 15 * 5 + 4]? = some (.int .u32 0) := hole_cell 15 (a % 15) 4 hj (by omega)
  go_enter Try.func11, Try.ntmps11
  go_wp2_with fail
  refine (alive14 _).mono ?_
  rintro e w1 ⟨rfl, b1⟩
  have x1 := HX0.out.below b1 HX0.out.lt
  have B1 := below_to HB0.out b1 HB0.out.size
  obtain ⟨p0, p1, p2, p3, p4⟩ := x1.cells
  have hl1 := x1.lt
  go_wp2_with fail
  rw [pcs_set (holes 15) (a % 15) (by rw [holes_len]; exact hj) p]
  have B2 := below_alloc (below_alloc B1 (.cells (pcs ((holes 15).set (a % 15) p)).toArray 31) (Nat.le_refl _)) (.cells #[.int .u8 K, .int .i64 L, .int .i64 S, .slice (some ⟨w1.heap.size, 0, none⟩) 15 15] 50) (Nat.le_refl _)
  have R2 : Rd ((w1.alloc (.cells (pcs ((holes 15).set (a % 15) p)).toArray 31)).alloc (.cells #[.int .u8 K, .int .i64 L, .int .i64 S, .slice (some ⟨w1.heap.size, 0, none⟩) 15 15] 50)) ((w1.alloc (.cells (pcs ((holes 15).set (a % 15) p)).toArray 31)).alloc (.cells #[.int .u8 K, .int .i64 L, .int .i64 S, .slice (some ⟨w1.heap.size, 0, none⟩) 15 15] 50)).heap.size 5 (some ⟨w1.heap.size, 0, none⟩) 15 (pcs ((holes 15).set (a % 15) p)) :=
    Rd.blockN ((Below.heap_alloc _ _ _ (by rw [World.size_alloc]; omega)).trans (heap_alloc_new w1 _)) (by rw [pcs_len, List.length_set, holes_len])
  have X2 := ObBox.new (w1.alloc (.cells (pcs ((holes 15).set (a % 15) p)).toArray 31)) K L S (.slice (some ⟨w1.heap.size, 0, none⟩) 15 15)
  rw [World.size_alloc] at X2
  generalize (w1.alloc (.cells (pcs ((holes 15).set (a % 15) p)).toArray 31)).alloc (.cells #[.int .u8 K, .int .i64 L, .int .i64 S, .slice (some ⟨w1.heap.size, 0, none⟩) 15 15] 50) = w2 at *
  refine (HCP.out w2).mono ?_
  rintro e w3 ⟨rfl, b3⟩
  have B3 := below_to B2 b3 B2.size
  have X3 := X2.below b3 X2.lt
  have R3 := (R2.below b3).more b3.size
  obtain ⟨d0, d1, d2, d3⟩ := X3.cells
  clear b3 B2 X2 R2 X3
  go_wp2_with fail
  refine (HCK.out _ w3 R3).mono ?_
  rintro e w4 ⟨rfl, b4⟩
  have B4 := below_to B3 b4 B3.size
  go_wp2
  go_ret
  exact ⟨rfl, B4⟩
set_option maxHeartbeats 1000000 in
theorem objBounds_ok (K L S : Int) (a : Nat) (p : Pt) (hu : p.U) (hK8 : 0 ≤ K ∧ K ≤ 255) (ha : a ≤ 255) (w : World)
    (h1 : 1 ≤ K)
    (h2 : K ≤ 7)
    (h3 : 0 ≤ L)
    (h4 : L ≤ 255)
    (h5 : 0 ≤ S)
    (h6 : S ≤ 3840)
    (h7 : p.May)
    : Calls Try.prog 11 #[.int .u8 K, .int .i64 L, .int .i64 S, .int .u8 (a : Int), .agg #[.int .i64 p.a, .int .u32 p.b, .int .u32 p.i, .int .u32 p.t, .int .u32 p.s]] w fun e w' => e = .returned (.bool true) ∧ Below w.heap.size w w' := by
  have hj : a % 15 < 15 := Nat.mod_lt _ (by omega)
  have hE : obE K L S ((holes 15).set (a % 15) p) = 0 := by
    exact obE_yes ⟨⟨h1, h2⟩, ⟨h3, h4⟩, ⟨h5, h6⟩, by rw [List.length_set, holes_len], (allMay_set hj p).2 h7⟩
  have hcp := fun W => ptr_checkX p 0 (Pt.chk_zero h7) W
  have HCP := Lib.hid hcp
  clear hcp h7
  have hck := fun (A : Option Addr) (W : World) hr => obj_check K L S A 15 15 ((holes 15).set (a % 15) p) W (by rw [List.length_set, holes_len]) hr hK8 0 hE
  have HCK := Lib.hid hck
  clear hck hE
  have hmk : ∀ W, (Instr.makeSlice 42 (.int .i64 15) (.int .i64 15)).run Try.prog W = .ok (.slice (some ⟨W.heap.size, 0, none⟩) 15 15) (W.alloc (.cells (pcs (holes 15)).toArray 31)) := fun W => run_mkPtrs .i64 .i64 15 (by omega) W
  have hx0 := PtBox.new w p
  have hb0 := below_new w (.cells #[.int .i64 p.a, .int .u32 p.b, .int .u32 p.i, .int .u32 p.t, .int .u32 p.s] 31)
  have HX0 := Lib.hid hx0
  have HB0 := Lib.hid hb0
  clear hx0 hb0
  have q0 : (pcs (holes 15))[a % 15 * 5]? = some (.int .i64 0) := hole_cell 15 (a % 15) 0 hj (by omega)
  have q1 : (pcs (holes 15))[a % 15 * 5 + 1]? = some (.int .u32 0) := hole_cell 15 (a % 15) 1 hj (by omega)
  have q2 : (pcs (holes 15))[a % 15 * 5 + 2]? = some (.int .u32 0) := hole_cell 15 (a % 15) 2 hj (by omega)
  have q3 : (pcs (holes 15))[a % 15 * 5 + 3]? = some (.int .u32 0) := hole_cell 15 (a % 15) 3 hj (by omega)
  have q4 : (pcs (holes 15))[a % 15 * 5 + 4]? = some (.int .u32 0) := hole_cell 15 (a % 15) 4 hj (by omega)
  go_enter Try.func11, Try.ntmps11
  go_wp2_with fail
  refine (alive14 _).mono ?_
  rintro e w1 ⟨rfl, b1⟩
  have x1 := HX0.out.below b1 HX0.out.lt
  have B1 := below_to HB0.out b1 HB0.out.size
  obtain ⟨p0, p1, p2, p3, p4⟩ := x1.cells
  have hl1 := x1.lt
  go_wp2_with fail
  rw [pcs_set (holes 15) (a % 15) (by rw [holes_len]; exact hj) p]
  have B2 := below_alloc (below_alloc B1 (.cells (pcs ((holes 15).set (a % 15) p)).toArray 31) (Nat.le_refl _)) (.cells #[.int .u8 K, .int .i64 L, .int .i64 S, .slice (some ⟨w1.heap.size, 0, none⟩) 15 15] 50) (Nat.le_refl _)
  have R2 : Rd ((w1.alloc (.cells (pcs ((holes 15).set (a % 15) p)).toArray 31)).alloc (.cells #[.int .u8 K, .int .i64 L, .int .i64 S, .slice (some ⟨w1.heap.size, 0, none⟩) 15 15] 50)) ((w1.alloc (.cells (pcs ((holes 15).set (a % 15) p)).toArray 31)).alloc (.cells #[.int .u8 K, .int .i64 L, .int .i64 S, .slice (some ⟨w1.heap.size, 0, none⟩) 15 15] 50)).heap.size 5 (some ⟨w1.heap.size, 0, none⟩) 15 (pcs ((holes 15).set (a % 15) p)) :=
    Rd.blockN ((Below.heap_alloc _ _ _ (by rw [World.size_alloc]; omega)).trans (heap_alloc_new w1 _)) (by rw [pcs_len, List.length_set, holes_len])
  have X2 := ObBox.new (w1.alloc (.cells (pcs ((holes 15).set (a % 15) p)).toArray 31)) K L S (.slice (some ⟨w1.heap.size, 0, none⟩) 15 15)
  rw [World.size_alloc] at X2
  generalize (w1.alloc (.cells (pcs ((holes 15).set (a % 15) p)).toArray 31)).alloc (.cells #[.int .u8 K, .int .i64 L, .int .i64 S, .slice (some ⟨w1.heap.size, 0, none⟩) 15 15] 50) = w2 at *
  refine (HCP.out w2).mono ?_
  rintro e w3 ⟨rfl, b3⟩
  have B3 := below_to B2 b3 B2.size
  have X3 := X2.below b3 X2.lt
  have R3 := (R2.below b3).more b3.size
  obtain ⟨d0, d1, d2, d3⟩ := X3.cells
  clear b3 B2 X2 R2 X3
  go_wp2_with fail
  refine (HCK.out _ w3 R3).mono ?_
  rintro e w4 ⟨rfl, b4⟩
  have B4 := below_to B3 b4 B3.size
  go_wp2
  go_ret
  exact ⟨rfl, B4⟩
theorem objBounds_walk (K L S : Int) (a : Nat) (p : Pt) (hu : p.U) (hK8 : 0 ≤ K ∧ K ≤ 255) (ha : a ≤ 255) (w : World) :
    Calls Try.prog 11 #[.int .u8 K, .int .i64 L, .int .i64 S, .int .u8 (a : Int), .agg #[.int .i64 p.a, .int .u32 p.b, .int .u32 p.i, .int .u32 p.t, .int .u32 p.s]] w fun e w' => e = .returned (.bool true) ∧ Below w.heap.size w w' := by
  by_cases h1 : 1 ≤ K
  · by_cases h2 : K ≤ 7
    · by_cases h3 : 0 ≤ L
      · by_cases h4 : L ≤ 255
        · by_cases h5 : 0 ≤ S
          · by_cases h6 : S ≤ 3840
            · by_cases h7 : p.May
              · exact objBounds_ok K L S a p hu hK8 ha w h1 h2 h3 h4 h5 h6 h7
              · exact objBounds_p K L S a p hu hK8 ha w h1 h2 h3 h4 h5 h6 h7
            · exact objBounds_ss K L S a p hu hK8 ha w h1 h2 h3 h4 h5 (by simp; omega)
          · exact objBounds_s K L S a p hu hK8 ha w h1 h2 h3 h4 (by simp; omega)
        · exact objBounds_ll K L S a p hu hK8 ha w h1 h2 h3 (by simp; omega)
      · exact objBounds_l K L S a p hu hK8 ha w h1 h2 (by simp; omega)
    · exact objBounds_kk K L S a p hu hK8 ha w h1 (by simp; omega)
  · exact objBounds_k K L S a p hu hK8 ha w (by omega)
end Go.Proofs.Ytgcagenhfddpgaa
