/-
  Contracts of package ptr: Check, sizes.
-/
import Derived.Test.YtgcagenhfddpgaaGet
namespace Go.Proofs.Ytgcagenhfddpgaa
open Go.RowKit
set_option linter.unusedVariables false
set_option maxRecDepth 100000

/-- Two pointers, number by number. -/
def ptEq (a b i t s a' b' i' t' s' : Int) : Bool := (a == a') && ((b == b') && ((i == i') && ((t == t') && (s == s'))))
theorem run_ptr_eq (w : World) (a b i t s a' b' i' t' s' : Int) :
    (binOp .eql 31 (.agg #[.int .i64 a, .int .u32 b, .int .u32 i, .int .u32 t, .int .u32 s]) (.agg #[.int .i64 a', .int .u32 b', .int .u32 i', .int .u32 t', .int .u32 s'])).run Try.prog w = .ok (.bool (ptEq a b i t s a' b' i' t' s')) w := by
  unfold ptEq
  by_cases h1 : a = a' <;> by_cases h2 : b = b' <;> by_cases h3 : i = i' <;> by_cases h4 : t = t' <;> by_cases h5 : s = s' <;> simp [go_sem, h1, h2, h3, h4, h5]

/-- May a pointer be? -/
def PtMay (a b i t s : Int) : Prop := (a = 0 ∧ b = 0 ∧ i = 0 ∧ t = 0 ∧ s = 0) ∨ (12 ≤ a ∧ a ≤ 255 ∧ 1 ≤ b ∧ b ≤ 16777215)
instance (a b i t s : Int) : Decidable (PtMay a b i t s) := by unfold PtMay; infer_instance
def chk (a b i t s : Int) : Int := if PtMay a b i t s then 0 else 8
theorem ptEq_iff (a b i t s a' b' i' t' s' : Int) : ptEq a b i t s a' b' i' t' s' = true ↔ a = a' ∧ b = b' ∧ i = i' ∧ t = t' ∧ s = s' := by
  unfold ptEq
  simp [Bool.and_eq_true]

theorem ptr_check (a b i t s : Int) (w : World) : Calls Try.prog 28 #[.agg #[.int .i64 a, .int .u32 b, .int .u32 i, .int .u32 t, .int .u32 s]] w fun e w' => e = .returned (.int .i64 (chk a b i t s)) ∧ Below w.heap.size w w' := by
  have hb : Below w.heap.size w (w.alloc (.cells #[.int .i64 a, .int .u32 b, .int .u32 i, .int .u32 t, .int .u32 s] 31)) := (Below.refl _ w).alloc (Nat.le_refl _) _
  have hq := fun W => run_ptr_eq W a b i t s 0 0 0 0 0
  by_cases h0 : ptEq a b i t s 0 0 0 0 0 = true
  · have hc : chk a b i t s = 0 := if_pos (.inl ((ptEq_iff ..).1 h0))
    rw [hc]
    go_enter Try.func28, Try.ntmps28
    go_wp2
    go_ret
    exact ⟨rfl, hb⟩
  · have h0' : ptEq a b i t s 0 0 0 0 0 = false := by simpa using h0
    have hne : ¬ (a = 0 ∧ b = 0 ∧ i = 0 ∧ t = 0 ∧ s = 0) := fun hh => h0 ((ptEq_iff ..).2 hh)
    clear h0
    by_cases h1 : a < 12
    · have hc : chk a b i t s = 8 := if_neg (by unfold PtMay; omega)
      rw [hc]
      clear hne hc
      go_enter Try.func28, Try.ntmps28
      go_wp2
      go_ret
      exact ⟨rfl, hb⟩
    · by_cases h2 : 256 ≤ a
      · have hc : chk a b i t s = 8 := if_neg (by unfold PtMay; omega)
        rw [hc]
        clear hne hc
        go_enter Try.func28, Try.ntmps28
        go_wp2
        go_ret
        exact ⟨rfl, hb⟩
      · by_cases h3 : b < 1
        · have hc : chk a b i t s = 8 := if_neg (by unfold PtMay; omega)
          rw [hc]
          clear hne hc
          go_enter Try.func28, Try.ntmps28
          go_wp2
          go_ret
          exact ⟨rfl, hb⟩
        · by_cases h4 : 16777215 < b
          · have hc : chk a b i t s = 8 := if_neg (by unfold PtMay; omega)
            rw [hc]
            clear hne hc
            go_enter Try.func28, Try.ntmps28
            go_wp2
            go_ret
            exact ⟨rfl, hb⟩
          · have hc : chk a b i t s = 0 := if_pos (by unfold PtMay; omega)
            rw [hc]
            clear hne hc
            go_enter Try.func28, Try.ntmps28
            go_wp2
            go_ret
            exact ⟨rfl, hb⟩

theorem ptr_sizes (w : World) : Calls Try.prog 47 #[] w fun e w' => e = .returned (.agg #[.int .i64 1, .int .i64 3, .int .i64 4, .int .i64 4, .int .i64 4]) ∧ Below w.heap.size w w' := by
  go_enter Try.func47, Try.ntmps47
  go_wp2
  exact bodyPost_ret (v := .agg #[.int .i64 1, .int .i64 3, .int .i64 4, .int .i64 4, .int .i64 4]) (by simp [results, Try.results47, go_sem]) rfl ⟨rfl, (Below.refl _ _).alloc (Nat.le_refl _) _⟩

end Go.Proofs.Ytgcagenhfddpgaa
