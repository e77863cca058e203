/-
  Contracts of package mix: rotations, halves of a turn, Turn, Back.
-/
import Derived.Test.YtfjjkkakhfgdhaaCode
import Derived.Test.YtfjjkkakhfgdhaaMathM
import Derived.StillTailTactics
import Derived.Deep.RegionHeld3
namespace Go.Proofs.Ytfjjkkakhfgdhaa
open Go.RowKit
set_option linter.unusedVariables false
set_option maxRecDepth 100000

theorem rot_15 (x : Wd) (w : World) : Calls Try.prog 65 #[.int .u32 (wi x), .int .i64 15] w fun e w' => e = .returned (.int .u32 (wi (rl 15 x))) ∧ w = w' := by
  obtain ⟨hx0, hx1⟩ := wi_lt x
  have h1 : bits .and .u64 15 31 = 15 := by decide
  go_enter Try.func65, Try.ntmps65
  go_wp2
  go_ret
  exact ⟨congrArg (fun n => Ending.returned (.int .u32 n)) (or_rot15 x), rfl⟩
theorem rot_11 (x : Wd) (w : World) : Calls Try.prog 65 #[.int .u32 (wi x), .int .i64 11] w fun e w' => e = .returned (.int .u32 (wi (rl 11 x))) ∧ w = w' := by
  obtain ⟨hx0, hx1⟩ := wi_lt x
  have h1 : bits .and .u64 11 31 = 11 := by decide
  go_enter Try.func65, Try.ntmps65
  go_wp2
  go_ret
  exact ⟨congrArg (fun n => Ending.returned (.int .u32 n)) (or_rot11 x), rfl⟩
theorem rot_9 (x : Wd) (w : World) : Calls Try.prog 65 #[.int .u32 (wi x), .int .i64 9] w fun e w' => e = .returned (.int .u32 (wi (rl 9 x))) ∧ w = w' := by
  obtain ⟨hx0, hx1⟩ := wi_lt x
  have h1 : bits .and .u64 9 31 = 9 := by decide
  go_enter Try.func65, Try.ntmps65
  go_wp2
  go_ret
  exact ⟨congrArg (fun n => Ending.returned (.int .u32 n)) (or_rot9 x), rfl⟩
theorem rot_6 (x : Wd) (w : World) : Calls Try.prog 65 #[.int .u32 (wi x), .int .i64 6] w fun e w' => e = .returned (.int .u32 (wi (rl 6 x))) ∧ w = w' := by
  obtain ⟨hx0, hx1⟩ := wi_lt x
  have h1 : bits .and .u64 6 31 = 6 := by decide
  go_enter Try.func65, Try.ntmps65
  go_wp2
  go_ret
  exact ⟨congrArg (fun n => Ending.returned (.int .u32 n)) (or_rot6 x), rfl⟩
theorem rot_m15 (x : Wd) (w : World) : Calls Try.prog 65 #[.int .u32 (wi x), .int .i64 (-15)] w fun e w' => e = .returned (.int .u32 (wi (rl 17 x))) ∧ w = w' := by
  obtain ⟨hx0, hx1⟩ := wi_lt x
  have h1 : bits .and .u64 (IntKind.u64.wrap (-15)) 31 = 17 := by decide
  go_enter Try.func65, Try.ntmps65
  go_wp2
  go_ret
  exact ⟨congrArg (fun n => Ending.returned (.int .u32 n)) (or_rot17 x), rfl⟩
theorem rot_m11 (x : Wd) (w : World) : Calls Try.prog 65 #[.int .u32 (wi x), .int .i64 (-11)] w fun e w' => e = .returned (.int .u32 (wi (rl 21 x))) ∧ w = w' := by
  obtain ⟨hx0, hx1⟩ := wi_lt x
  have h1 : bits .and .u64 (IntKind.u64.wrap (-11)) 31 = 21 := by decide
  go_enter Try.func65, Try.ntmps65
  go_wp2
  go_ret
  exact ⟨congrArg (fun n => Ending.returned (.int .u32 n)) (or_rot21 x), rfl⟩
theorem rot_m9 (x : Wd) (w : World) : Calls Try.prog 65 #[.int .u32 (wi x), .int .i64 (-9)] w fun e w' => e = .returned (.int .u32 (wi (rl 23 x))) ∧ w = w' := by
  obtain ⟨hx0, hx1⟩ := wi_lt x
  have h1 : bits .and .u64 (IntKind.u64.wrap (-9)) 31 = 23 := by decide
  go_enter Try.func65, Try.ntmps65
  go_wp2
  go_ret
  exact ⟨congrArg (fun n => Ending.returned (.int .u32 n)) (or_rot23 x), rfl⟩
theorem rot_m6 (x : Wd) (w : World) : Calls Try.prog 65 #[.int .u32 (wi x), .int .i64 (-6)] w fun e w' => e = .returned (.int .u32 (wi (rl 26 x))) ∧ w = w' := by
  obtain ⟨hx0, hx1⟩ := wi_lt x
  have h1 : bits .and .u64 (IntKind.u64.wrap (-6)) 31 = 26 := by decide
  go_enter Try.func65, Try.ntmps65
  go_wp2
  go_ret
  exact ⟨congrArg (fun n => Ending.returned (.int .u32 n)) (or_rot26 x), rfl⟩

/-- The cells of four words. -/
def w4 (x : W4) : Array Value := #[.int .u32 (wi x.a), .int .u32 (wi x.b), .int .u32 (wi x.c), .int .u32 (wi x.d)]
def Box4 (w : World) (g : Nat) (t : TypeId) (x : W4) : Prop := w.heap[g]? = some (.cells (w4 x) t (0, 0))
theorem grown_more {w w' : World} {g : Nat} (h : w.grownBy w' (some g)) {i : Nat} (u : Value) : w.grownBy (w'.setCell ⟨g, i, none⟩ u) (some g) :=
  ⟨h.os, h.tape, h.output, by simpa [World.setCell] using h.size, fun k hk hne => (Below.heap_setCell _ _ _ _ (fun e => hne (by rw [e]))).trans (h.block k hk hne)⟩
theorem grown_set (w : World) (g i : Nat) (u : Value) : w.grownBy (w.setCell ⟨g, i, none⟩ u) (some g) :=
  ⟨rfl, rfl, rfl, by simp [World.setCell], fun k _ hne => Below.heap_setCell _ _ _ _ (fun e => hne (by rw [e]))⟩
theorem Box4.set {w : World} {g : Nat} {t : TypeId} {cs : Array Value} (h : w.heap[g]? = some (.cells cs t (0, 0))) (i : Nat) (u : Value) : (w.setCell ⟨g, i, none⟩ u).heap[g]? = some (.cells (cs.setIfInBounds i u) t (0, 0)) := by
  rw [setCell_eq_setRow w g i cs t (0, 0) u h, setRow_heap w g cs _ t _ h]
theorem half_15 (x : W4) (g : Nat) (t : TypeId) (w : World) (h : Box4 w g t x) :
    Calls Try.prog 66 #[.int .i64 15, .int .i64 11, .pointer (some ⟨g, 0, none⟩)] w fun e w' => e = .returned (.tuple #[]) ∧ Box4 w' g t (half 15 11 x) ∧ w.grownBy w' (some g) := by
  obtain ⟨a, b, c, d⟩ := x
  have c0 : w.cell? ⟨g, 0, none⟩ = some (.int .u32 (wi a)) := by unfold Box4 at h; simp [World.cell?, h, w4]
  have c1 : w.cell? ⟨g, 1, none⟩ = some (.int .u32 (wi b)) := by unfold Box4 at h; simp [World.cell?, h, w4]
  have c2 : w.cell? ⟨g, 2, none⟩ = some (.int .u32 (wi c)) := by unfold Box4 at h; simp [World.cell?, h, w4]
  have c3 : w.cell? ⟨g, 3, none⟩ = some (.int .u32 (wi d)) := by unfold Box4 at h; simp [World.cell?, h, w4]
  have fz : ∀ i, w.frozen? ⟨g, i, none⟩ = false := fun i => by unfold Box4 at h; simp [World.frozen?, h]
  have a1 := add_w a b
  have a2 := xor_w d (a + b)
  have a3 := add_w c (rl 15 (d ^^^ (a + b)))
  have a4 := xor_w b (c + rl 15 (d ^^^ (a + b)))
  have H := Lib.hid h
  clear h
  go_enter Try.func66, Try.ntmps66
  go_wp2_with fail
  refine (rot_15 _ _).mono ?_
  rintro e w1 ⟨rfl, rfl⟩
  go_wp2_with fail
  refine (rot_11 _ _).mono ?_
  rintro e w1 ⟨rfl, rfl⟩
  go_wp2
  go_end0
  have h0 : w.heap[g]? = some (.cells (w4 ⟨a, b, c, d⟩) t (0, 0)) := H.out
  refine ⟨rfl, ?_, ?_⟩
  · have h1 := Box4.set (Box4.set (Box4.set (Box4.set h0 0 (.int .u32 (wi (a + b)))) 3 (.int .u32 (wi (rl 15 (d ^^^ (a + b)))))) 2 (.int .u32 (wi (c + rl 15 (d ^^^ (a + b)))))) 1 (.int .u32 (wi (rl 11 (b ^^^ (c + rl 15 (d ^^^ (a + b)))))))
    exact h1
  · exact grown_more (grown_more (grown_more (grown_set w g 0 _) _) _) _
theorem half_9 (x : W4) (g : Nat) (t : TypeId) (w : World) (h : Box4 w g t x) :
    Calls Try.prog 66 #[.int .i64 9, .int .i64 6, .pointer (some ⟨g, 0, none⟩)] w fun e w' => e = .returned (.tuple #[]) ∧ Box4 w' g t (half 9 6 x) ∧ w.grownBy w' (some g) := by
  obtain ⟨a, b, c, d⟩ := x
  have c0 : w.cell? ⟨g, 0, none⟩ = some (.int .u32 (wi a)) := by unfold Box4 at h; simp [World.cell?, h, w4]
  have c1 : w.cell? ⟨g, 1, none⟩ = some (.int .u32 (wi b)) := by unfold Box4 at h; simp [World.cell?, h, w4]
  have c2 : w.cell? ⟨g, 2, none⟩ = some (.int .u32 (wi c)) := by unfold Box4 at h; simp [World.cell?, h, w4]
  have c3 : w.cell? ⟨g, 3, none⟩ = some (.int .u32 (wi d)) := by unfold Box4 at h; simp [World.cell?, h, w4]
  have fz : ∀ i, w.frozen? ⟨g, i, none⟩ = false := fun i => by unfold Box4 at h; simp [World.frozen?, h]
  have a1 := add_w a b
  have a2 := xor_w d (a + b)
  have a3 := add_w c (rl 9 (d ^^^ (a + b)))
  have a4 := xor_w b (c + rl 9 (d ^^^ (a + b)))
  have H := Lib.hid h
  clear h
  go_enter Try.func66, Try.ntmps66
  go_wp2_with fail
  refine (rot_9 _ _).mono ?_
  rintro e w1 ⟨rfl, rfl⟩
  go_wp2_with fail
  refine (rot_6 _ _).mono ?_
  rintro e w1 ⟨rfl, rfl⟩
  go_wp2
  go_end0
  have h0 : w.heap[g]? = some (.cells (w4 ⟨a, b, c, d⟩) t (0, 0)) := H.out
  refine ⟨rfl, ?_, ?_⟩
  · have h1 := Box4.set (Box4.set (Box4.set (Box4.set h0 0 (.int .u32 (wi (a + b)))) 3 (.int .u32 (wi (rl 9 (d ^^^ (a + b)))))) 2 (.int .u32 (wi (c + rl 9 (d ^^^ (a + b)))))) 1 (.int .u32 (wi (rl 6 (b ^^^ (c + rl 9 (d ^^^ (a + b)))))))
    exact h1
  · exact grown_more (grown_more (grown_more (grown_set w g 0 _) _) _) _

/-! ### the way back -/
theorem flah_15 (x : W4) (g : Nat) (t : TypeId) (w : World) (h : Box4 w g t x) :
    Calls Try.prog 64 #[.int .i64 15, .int .i64 11, .pointer (some ⟨g, 0, none⟩)] w fun e w' => e = .returned (.tuple #[]) ∧ Box4 w' g t (flah 17 21 x) ∧ w.grownBy w' (some g) := by
  obtain ⟨a, b, c, d⟩ := x
  have c0 : w.cell? ⟨g, 0, none⟩ = some (.int .u32 (wi a)) := by unfold Box4 at h; simp [World.cell?, h, w4]
  have c1 : w.cell? ⟨g, 1, none⟩ = some (.int .u32 (wi b)) := by unfold Box4 at h; simp [World.cell?, h, w4]
  have c2 : w.cell? ⟨g, 2, none⟩ = some (.int .u32 (wi c)) := by unfold Box4 at h; simp [World.cell?, h, w4]
  have c3 : w.cell? ⟨g, 3, none⟩ = some (.int .u32 (wi d)) := by unfold Box4 at h; simp [World.cell?, h, w4]
  have fz : ∀ i, w.frozen? ⟨g, i, none⟩ = false := fun i => by unfold Box4 at h; simp [World.frozen?, h]
  have a1 := xor_w (rl 21 b) c
  have a2 := sub_w c d
  have a3 := xor_w (rl 17 d) a
  have a4 := sub_w a (rl 21 b ^^^ c)
  have H := Lib.hid h
  clear h
  go_enter Try.func64, Try.ntmps64
  go_wp2
  refine wp_region_still_tail 9 (by kernel_rfl) (by kernel_rfl) ?_
  simp only [List.take_succ_cons, List.take_zero, List.drop_succ_cons, List.drop_zero]
  change wpStill _ _ w.drew _ _ _
  have d0 : w.drew.cell? ⟨g, 0, none⟩ = some (.int .u32 (wi a)) := c0
  have d1 : w.drew.cell? ⟨g, 1, none⟩ = some (.int .u32 (wi b)) := c1
  have d2 : w.drew.cell? ⟨g, 2, none⟩ = some (.int .u32 (wi c)) := c2
  have d3 : w.drew.cell? ⟨g, 3, none⟩ = some (.int .u32 (wi d)) := c3
  have dz : ∀ i, w.drew.frozen? ⟨g, i, none⟩ = false := fz
  have DH : w.drew.heap[g]? = some (.cells (w4 ⟨a, b, c, d⟩) t (0, 0)) := H.out
  have HB := Lib.hid DH
  have HG : Hid (w.grownBy w.drew (some g)) := Lib.hid ⟨rfl, rfl, rfl, Nat.le_refl _, fun _ _ _ => rfl⟩
  clear c0 c1 c2 c3 fz H DH
  obtain ⟨w2, hw2⟩ : ∃ w2, w2 = w.drew := ⟨_, rfl⟩
  have HW := Lib.hid hw2
  rw [← hw2] at d0 d1 d2 d3 dz HB HG ⊢
  clear hw2
  repeat still_step
  still_call ((rot_m11 b w2).mono fun _ _ h => ⟨h.1, h.2.symm⟩)
  repeat still_step
  refine wpStill_nil ?_
  change wpList _ _ _ _ _ w.drew
  rw [← HW.out]
  go_wp2
  refine wp_region_still_tail 9 (by kernel_rfl) (by kernel_rfl) ?_
  simp only [List.take_succ_cons, List.take_zero, List.drop_succ_cons, List.drop_zero]
  have h0 : w2.heap[g]? = some (.cells (w4 ⟨a, b, c, d⟩) t (0, 0)) := HB.out
  have h1 := Box4.set (Box4.set h0 1 (.int .u32 (wi (rl 21 b ^^^ c)))) 2 (.int .u32 (wi (c - d)))
  have g1 := grown_more (i := 2) (grown_more (i := 1) HG.out (.int .u32 (wi (rl 21 b ^^^ c)))) (.int .u32 (wi (c - d)))
  clear d0 d1 d2 d3 dz h0 HB HG
  change wpStill _ _ ((w2.setCell ⟨g, 1, none⟩ (.int .u32 (wi (rl 21 b ^^^ c)))).setCell ⟨g, 2, none⟩ (.int .u32 (wi (c - d)))).drew _ _ _
  obtain ⟨w3, hw3⟩ : ∃ w3, w3 = ((w2.setCell ⟨g, 1, none⟩ (.int .u32 (wi (rl 21 b ^^^ c)))).setCell ⟨g, 2, none⟩ (.int .u32 (wi (c - d)))).drew := ⟨_, rfl⟩
  have h3 : w3.heap[g]? = some (.cells #[.int .u32 (wi a), .int .u32 (wi (rl 21 b ^^^ c)), .int .u32 (wi (c - d)), .int .u32 (wi d)] t (0, 0)) := by rw [hw3]; exact h1
  have g3 : w.grownBy w3 (some g) := by rw [hw3]; exact ⟨g1.os, g1.tape, g1.output, g1.size, g1.block⟩
  have HW3 := Lib.hid hw3
  rw [← hw3]
  clear hw3 h1 g1
  have d0 : w3.cell? ⟨g, 0, none⟩ = some (.int .u32 (wi a)) := by simp [World.cell?, h3]
  have d1 : w3.cell? ⟨g, 1, none⟩ = some (.int .u32 (wi (rl 21 b ^^^ c))) := by simp [World.cell?, h3]
  have d2 : w3.cell? ⟨g, 2, none⟩ = some (.int .u32 (wi (c - d))) := by simp [World.cell?, h3]
  have d3 : w3.cell? ⟨g, 3, none⟩ = some (.int .u32 (wi d)) := by simp [World.cell?, h3]
  have dz : ∀ i, w3.frozen? ⟨g, i, none⟩ = false := fun i => by simp [World.frozen?, h3]
  have H3 := Lib.hid h3
  have G3 := Lib.hid g3
  clear h3 g3
  repeat still_step
  still_call ((rot_m15 d w3).mono fun _ _ h => ⟨h.1, h.2.symm⟩)
  repeat still_step
  refine wpStill_nil ?_
  change wpList _ _ _ _ _ ((w2.setCell ⟨g, 1, none⟩ (.int .u32 (wi (rl 21 b ^^^ c)))).setCell ⟨g, 2, none⟩ (.int .u32 (wi (c - d)))).drew
  rw [← HW3.out]
  go_wp2
  go_end0
  refine ⟨rfl, ?_, grown_more (grown_more G3.out _) _⟩
  exact Box4.set (Box4.set H3.out 3 _) 0 _
theorem flah_9 (x : W4) (g : Nat) (t : TypeId) (w : World) (h : Box4 w g t x) :
    Calls Try.prog 64 #[.int .i64 9, .int .i64 6, .pointer (some ⟨g, 0, none⟩)] w fun e w' => e = .returned (.tuple #[]) ∧ Box4 w' g t (flah 23 26 x) ∧ w.grownBy w' (some g) := by
  obtain ⟨a, b, c, d⟩ := x
  have c0 : w.cell? ⟨g, 0, none⟩ = some (.int .u32 (wi a)) := by unfold Box4 at h; simp [World.cell?, h, w4]
  have c1 : w.cell? ⟨g, 1, none⟩ = some (.int .u32 (wi b)) := by unfold Box4 at h; simp [World.cell?, h, w4]
  have c2 : w.cell? ⟨g, 2, none⟩ = some (.int .u32 (wi c)) := by unfold Box4 at h; simp [World.cell?, h, w4]
  have c3 : w.cell? ⟨g, 3, none⟩ = some (.int .u32 (wi d)) := by unfold Box4 at h; simp [World.cell?, h, w4]
  have fz : ∀ i, w.frozen? ⟨g, i, none⟩ = false := fun i => by unfold Box4 at h; simp [World.frozen?, h]
  have a1 := xor_w (rl 26 b) c
  have a2 := sub_w c d
  have a3 := xor_w (rl 23 d) a
  have a4 := sub_w a (rl 26 b ^^^ c)
  have H := Lib.hid h
  clear h
  go_enter Try.func64, Try.ntmps64
  go_wp2
  refine wp_region_still_tail 9 (by kernel_rfl) (by kernel_rfl) ?_
  simp only [List.take_succ_cons, List.take_zero, List.drop_succ_cons, List.drop_zero]
  change wpStill _ _ w.drew _ _ _
  have d0 : w.drew.cell? ⟨g, 0, none⟩ = some (.int .u32 (wi a)) := c0
  have d1 : w.drew.cell? ⟨g, 1, none⟩ = some (.int .u32 (wi b)) := c1
  have d2 : w.drew.cell? ⟨g, 2, none⟩ = some (.int .u32 (wi c)) := c2
  have d3 : w.drew.cell? ⟨g, 3, none⟩ = some (.int .u32 (wi d)) := c3
  have dz : ∀ i, w.drew.frozen? ⟨g, i, none⟩ = false := fz
  have DH : w.drew.heap[g]? = some (.cells (w4 ⟨a, b, c, d⟩) t (0, 0)) := H.out
  have HB := Lib.hid DH
  have HG : Hid (w.grownBy w.drew (some g)) := Lib.hid ⟨rfl, rfl, rfl, Nat.le_refl _, fun _ _ _ => rfl⟩
  clear c0 c1 c2 c3 fz H DH
  obtain ⟨w2, hw2⟩ : ∃ w2, w2 = w.drew := ⟨_, rfl⟩
  have HW := Lib.hid hw2
  rw [← hw2] at d0 d1 d2 d3 dz HB HG ⊢
  clear hw2
  repeat still_step
  still_call ((rot_m6 b w2).mono fun _ _ h => ⟨h.1, h.2.symm⟩)
  repeat still_step
  refine wpStill_nil ?_
  change wpList _ _ _ _ _ w.drew
  rw [← HW.out]
  go_wp2
  refine wp_region_still_tail 9 (by kernel_rfl) (by kernel_rfl) ?_
  simp only [List.take_succ_cons, List.take_zero, List.drop_succ_cons, List.drop_zero]
  have h0 : w2.heap[g]? = some (.cells (w4 ⟨a, b, c, d⟩) t (0, 0)) := HB.out
  have h1 := Box4.set (Box4.set h0 1 (.int .u32 (wi (rl 26 b ^^^ c)))) 2 (.int .u32 (wi (c - d)))
  have g1 := grown_more (i := 2) (grown_more (i := 1) HG.out (.int .u32 (wi (rl 26 b ^^^ c)))) (.int .u32 (wi (c - d)))
  clear d0 d1 d2 d3 dz h0 HB HG
  change wpStill _ _ ((w2.setCell ⟨g, 1, none⟩ (.int .u32 (wi (rl 26 b ^^^ c)))).setCell ⟨g, 2, none⟩ (.int .u32 (wi (c - d)))).drew _ _ _
  obtain ⟨w3, hw3⟩ : ∃ w3, w3 = ((w2.setCell ⟨g, 1, none⟩ (.int .u32 (wi (rl 26 b ^^^ c)))).setCell ⟨g, 2, none⟩ (.int .u32 (wi (c - d)))).drew := ⟨_, rfl⟩
  have h3 : w3.heap[g]? = some (.cells #[.int .u32 (wi a), .int .u32 (wi (rl 26 b ^^^ c)), .int .u32 (wi (c - d)), .int .u32 (wi d)] t (0, 0)) := by rw [hw3]; exact h1
  have g3 : w.grownBy w3 (some g) := by rw [hw3]; exact ⟨g1.os, g1.tape, g1.output, g1.size, g1.block⟩
  have HW3 := Lib.hid hw3
  rw [← hw3]
  clear hw3 h1 g1
  have d0 : w3.cell? ⟨g, 0, none⟩ = some (.int .u32 (wi a)) := by simp [World.cell?, h3]
  have d1 : w3.cell? ⟨g, 1, none⟩ = some (.int .u32 (wi (rl 26 b ^^^ c))) := by simp [World.cell?, h3]
  have d2 : w3.cell? ⟨g, 2, none⟩ = some (.int .u32 (wi (c - d))) := by simp [World.cell?, h3]
  have d3 : w3.cell? ⟨g, 3, none⟩ = some (.int .u32 (wi d)) := by simp [World.cell?, h3]
  have dz : ∀ i, w3.frozen? ⟨g, i, none⟩ = false := fun i => by simp [World.frozen?, h3]
  have H3 := Lib.hid h3
  have G3 := Lib.hid g3
  clear h3 g3
  repeat still_step
  still_call ((rot_m9 d w3).mono fun _ _ h => ⟨h.1, h.2.symm⟩)
  repeat still_step
  refine wpStill_nil ?_
  change wpList _ _ _ _ _ ((w2.setCell ⟨g, 1, none⟩ (.int .u32 (wi (rl 26 b ^^^ c)))).setCell ⟨g, 2, none⟩ (.int .u32 (wi (c - d)))).drew
  rw [← HW3.out]
  go_wp2
  go_end0
  refine ⟨rfl, ?_, grown_more (grown_more G3.out _) _⟩
  exact Box4.set (Box4.set H3.out 3 _) 0 _
end Go.Proofs.Ytfjjkkakhfgdhaa
