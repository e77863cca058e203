/-
  Contracts of package mix: rotations, halves of a turn, Turn, Back.
-/
import Derived.Test.YtoggpnncmgcgoaaCode
import Derived.Test.YtoggpnncmgcgoaaMathM
import Derived.StillTailTactics
import Derived.Deep.RegionHeld3
namespace Go.Proofs.Ytoggpnncmgcgoaa
open Go.RowKit
set_option linter.unusedVariables false
set_option maxRecDepth 100000

theorem rot_15 (x : Wd) (w : World) : Calls Try.prog 102 #[.int .u32 (wi x), .int .i64 15] w fun e w' => e = .returned (.int .u32 (wi (rl 15 x))) ∧ w = w' := by
  obtain ⟨hx0, hx1⟩ := wi_lt x
  have h1 : bits .and .u64 15 31 = 15 := by decide
  go_enter Try.func102, Try.ntmps102
  go_wp2
  go_ret
  exact ⟨congrArg (fun n => Ending.returned (.int .u32 n)) (or_rot15 x), rfl⟩
theorem rot_11 (x : Wd) (w : World) : Calls Try.prog 102 #[.int .u32 (wi x), .int .i64 11] w fun e w' => e = .returned (.int .u32 (wi (rl 11 x))) ∧ w = w' := by
  obtain ⟨hx0, hx1⟩ := wi_lt x
  have h1 : bits .and .u64 11 31 = 11 := by decide
  go_enter Try.func102, Try.ntmps102
  go_wp2
  go_ret
  exact ⟨congrArg (fun n => Ending.returned (.int .u32 n)) (or_rot11 x), rfl⟩
theorem rot_9 (x : Wd) (w : World) : Calls Try.prog 102 #[.int .u32 (wi x), .int .i64 9] w fun e w' => e = .returned (.int .u32 (wi (rl 9 x))) ∧ w = w' := by
  obtain ⟨hx0, hx1⟩ := wi_lt x
  have h1 : bits .and .u64 9 31 = 9 := by decide
  go_enter Try.func102, Try.ntmps102
  go_wp2
  go_ret
  exact ⟨congrArg (fun n => Ending.returned (.int .u32 n)) (or_rot9 x), rfl⟩
theorem rot_6 (x : Wd) (w : World) : Calls Try.prog 102 #[.int .u32 (wi x), .int .i64 6] w fun e w' => e = .returned (.int .u32 (wi (rl 6 x))) ∧ w = w' := by
  obtain ⟨hx0, hx1⟩ := wi_lt x
  have h1 : bits .and .u64 6 31 = 6 := by decide
  go_enter Try.func102, Try.ntmps102
  go_wp2
  go_ret
  exact ⟨congrArg (fun n => Ending.returned (.int .u32 n)) (or_rot6 x), rfl⟩
theorem rot_m15 (x : Wd) (w : World) : Calls Try.prog 102 #[.int .u32 (wi x), .int .i64 (-15)] w fun e w' => e = .returned (.int .u32 (wi (rl 17 x))) ∧ w = w' := by
  obtain ⟨hx0, hx1⟩ := wi_lt x
  have h1 : bits .and .u64 (IntKind.u64.wrap (-15)) 31 = 17 := by decide
  go_enter Try.func102, Try.ntmps102
  go_wp2
  go_ret
  exact ⟨congrArg (fun n => Ending.returned (.int .u32 n)) (or_rot17 x), rfl⟩
theorem rot_m11 (x : Wd) (w : World) : Calls Try.prog 102 #[.int .u32 (wi x), .int .i64 (-11)] w fun e w' => e = .returned (.int .u32 (wi (rl 21 x))) ∧ w = w' := by
  obtain ⟨hx0, hx1⟩ := wi_lt x
  have h1 : bits .and .u64 (IntKind.u64.wrap (-11)) 31 = 21 := by decide
  go_enter Try.func102, Try.ntmps102
  go_wp2
  go_ret
  exact ⟨congrArg (fun n => Ending.returned (.int .u32 n)) (or_rot21 x), rfl⟩
theorem rot_m9 (x : Wd) (w : World) : Calls Try.prog 102 #[.int .u32 (wi x), .int .i64 (-9)] w fun e w' => e = .returned (.int .u32 (wi (rl 23 x))) ∧ w = w' := by
  obtain ⟨hx0, hx1⟩ := wi_lt x
  have h1 : bits .and .u64 (IntKind.u64.wrap (-9)) 31 = 23 := by decide
  go_enter Try.func102, Try.ntmps102
  go_wp2
  go_ret
  exact ⟨congrArg (fun n => Ending.returned (.int .u32 n)) (or_rot23 x), rfl⟩
theorem rot_m6 (x : Wd) (w : World) : Calls Try.prog 102 #[.int .u32 (wi x), .int .i64 (-6)] w fun e w' => e = .returned (.int .u32 (wi (rl 26 x))) ∧ w = w' := by
  obtain ⟨hx0, hx1⟩ := wi_lt x
  have h1 : bits .and .u64 (IntKind.u64.wrap (-6)) 31 = 26 := by decide
  go_enter Try.func102, Try.ntmps102
  go_wp2
  go_ret
  exact ⟨congrArg (fun n => Ending.returned (.int .u32 n)) (or_rot26 x), rfl⟩

/-- The cells of four words. -/
def w4 (x : W4) : Array Value := #[.int .u32 (wi x.a), .int .u32 (wi x.b), .int .u32 (wi x.c), .int .u32 (wi x.d)]
def Box4 (w : World) (g : Nat) (t : TypeId) (x : W4) : Prop := w.heap[g]? = some (.cells (w4 x) t (0, 0))
theorem grown_more {w w' : World} {g : Nat} (h : w.grownBy w' (some g)) {i : Nat} (u : Value) : w.grownBy (w'.setCell ⟨g, i, none⟩ u) (some g) :=
  ⟨h.os, h.tape, h.output, by simpa [World.setCell] using h.size, fun k hk hne => (Below.heap_setCell _ _ _ _ (fun e => hne (by rw [e]))).trans (h.block k hk hne)⟩
theorem grown_set (w : World) (g i : Nat) (u : Value) : w.grownBy (w.setCell ⟨g, i, none⟩ u) (some g) :=
  ⟨rfl, rfl, rfl, by simp [World.setCell], fun k _ hne => Below.heap_setCell _ _ _ _ (fun e => hne (by rw [e]))⟩
theorem Box4.set {w : World} {g : Nat} {t : TypeId} {cs : Array Value} (h : w.heap[g]? = some (.cells cs t (0, 0))) (i : Nat) (u : Value) : (w.setCell ⟨g, i, none⟩ u).heap[g]? = some (.cells (cs.setIfInBounds i u) t (0, 0)) := by
  rw [setCell_eq_setRow w g i cs t (0, 0) u h, setRow_heap w g cs _ t _ h]
theorem half_15 (x : W4) (g : Nat) (t : TypeId) (w : World) (h : Box4 w g t x) :
    Calls Try.prog 101 #[.int .i64 15, .int .i64 11, .pointer (some ⟨g, 0, none⟩)] w fun e w' => e = .returned (.tuple #[]) ∧ Box4 w' g t (half 15 11 x) ∧ w.grownBy w' (some g) := by
  obtain ⟨a, b, c, d⟩ := x
  have c0 : w.cell? ⟨g, 0, none⟩ = some (.int .u32 (wi a)) := by unfold Box4 at h; simp [World.cell?, h, w4]
  have c1 : w.cell? ⟨g, 1, none⟩ = some (.int .u32 (wi b)) := by unfold Box4 at h; simp [World.cell?, h, w4]
  have c2 : w.cell? ⟨g, 2, none⟩ = some (.int .u32 (wi c)) := by unfold Box4 at h; simp [World.cell?, h, w4]
  have c3 : w.cell? ⟨g, 3, none⟩ = some (.int .u32 (wi d)) := by unfold Box4 at h; simp [World.cell?, h, w4]
  have fz : ∀ i, w.frozen? ⟨g, i, none⟩ = false := fun i => by unfold Box4 at h; simp [World.frozen?, h]
  have a1 := add_w a b
  have a2 := xor_w d (a + b)
  have a3 := add_w c (rl 15 (d ^^^ (a + b)))
  have a4 := xor_w b (c + rl 15 (d ^^^ (a + b)))
  have H := Lib.hid h
  clear h
  go_enter Try.func101, Try.ntmps101
  go_wp2_with fail
  refine (rot_15 _ _).mono ?_
  rintro e w1 ⟨rfl, rfl⟩
  go_wp2_with fail
  refine (rot_11 _ _).mono ?_
  rintro e w1 ⟨rfl, rfl⟩
  go_wp2
  go_end0
  have h0 : w.heap[g]? = some (.cells (w4 ⟨a, b, c, d⟩) t (0, 0)) := H.out
  refine ⟨rfl, ?_, ?_⟩
  · have h1 := Box4.set (Box4.set (Box4.set (Box4.set h0 0 (.int .u32 (wi (a + b)))) 3 (.int .u32 (wi (rl 15 (d ^^^ (a + b)))))) 2 (.int .u32 (wi (c + rl 15 (d ^^^ (a + b)))))) 1 (.int .u32 (wi (rl 11 (b ^^^ (c + rl 15 (d ^^^ (a + b)))))))
    exact h1
  · exact grown_more (grown_more (grown_more (grown_set w g 0 _) _) _) _
theorem half_9 (x : W4) (g : Nat) (t : TypeId) (w : World) (h : Box4 w g t x) :
    Calls Try.prog 101 #[.int .i64 9, .int .i64 6, .pointer (some ⟨g, 0, none⟩)] w fun e w' => e = .returned (.tuple #[]) ∧ Box4 w' g t (half 9 6 x) ∧ w.grownBy w' (some g) := by
  obtain ⟨a, b, c, d⟩ := x
  have c0 : w.cell? ⟨g, 0, none⟩ = some (.int .u32 (wi a)) := by unfold Box4 at h; simp [World.cell?, h, w4]
  have c1 : w.cell? ⟨g, 1, none⟩ = some (.int .u32 (wi b)) := by unfold Box4 at h; simp [World.cell?, h, w4]
  have c2 : w.cell? ⟨g, 2, none⟩ = some (.int .u32 (wi c)) := by unfold Box4 at h; simp [World.cell?, h, w4]
  have c3 : w.cell? ⟨g, 3, none⟩ = some (.int .u32 (wi d)) := by unfold Box4 at h; simp [World.cell?, h, w4]
  have fz : ∀ i, w.frozen? ⟨g, i, none⟩ = false := fun i => by unfold Box4 at h; simp [World.frozen?, h]
  have a1 := add_w a b
  have a2 := xor_w d (a + b)
  have a3 := add_w c (rl 9 (d ^^^ (a + b)))
  have a4 := xor_w b (c + rl 9 (d ^^^ (a + b)))
  have H := Lib.hid h
  clear h
  go_enter Try.func101, Try.ntmps101
  go_wp2_with fail
  refine (rot_9 _ _).mono ?_
  rintro e w1 ⟨rfl, rfl⟩
  go_wp2_with fail
  refine (rot_6 _ _).mono ?_
  rintro e w1 ⟨rfl, rfl⟩
  go_wp2
  go_end0
  have h0 : w.heap[g]? = some (.cells (w4 ⟨a, b, c, d⟩) t (0, 0)) := H.out
  refine ⟨rfl, ?_, ?_⟩
  · have h1 := Box4.set (Box4.set (Box4.set (Box4.set h0 0 (.int .u32 (wi (a + b)))) 3 (.int .u32 (wi (rl 9 (d ^^^ (a + b)))))) 2 (.int .u32 (wi (c + rl 9 (d ^^^ (a + b)))))) 1 (.int .u32 (wi (rl 6 (b ^^^ (c + rl 9 (d ^^^ (a + b)))))))
    exact h1
  · exact grown_more (grown_more (grown_more (grown_set w g 0 _) _) _) _

/-! ### the way back -/
end Go.Proofs.Ytoggpnncmgcgoaa
