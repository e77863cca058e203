/-
  charterhouseref07: Same, of two rows with one list.
-/
import Derived.Test.YtoggpnncmgcgoaaRef07d
namespace Go.Proofs.Ytoggpnncmgcgoaa
open Go.RowKit
set_option linter.unusedVariables false
set_option linter.unusedSimpArgs false
set_option maxRecDepth 100000

def QsRel (w : World) (n : Nat) (i : Value) (wr : World) : Prop := ∃ k N : Nat, k ≤ n ∧ i = .int .i64 (k : Int) ∧ wr = w.drewN N
theorem q_same (A : Option Addr) (n c : Nat) (D : Option Addr) (d : Nat) (l : List Nat) (w : World) (hl : l.length = n) (hn : n ≤ 1000) (hr : Rd w w.heap.size 1 A n (ivs l)) (hr2 : Rd w w.heap.size 1 D n (ivs l)) :
    Calls Try.prog 27 #[.slice A n c, .slice D n d] w fun e w' => e = .returned (.bool true) ∧ Below w.heap.size w w' := by
  go_enter Try.func27, Try.ntmps27
  go_wp2
  go_loopw [5] (fun i wr => QsRel w n i wr) (fun i _ => n - (intOf i).toNat)
  case atStart => exact ⟨0, 0, Nat.zero_le _, rfl, rfl⟩
  case round =>
    obtain ⟨k, N, hk, rfl, rfl⟩ := hrel
    by_cases hlt : k < n
    · obtain ⟨g, o, rfl, hg, cx⟩ := hr.num hlt
      obtain ⟨g', o', rfl, hg', cy⟩ := hr2.num hlt
      have h0 : ¬ ((k : Int) < 0) := by omega
      have h1 : (k : Int) < (n : Int) := by omega
      clear hg hg' hr hr2
      generalize l.getD k 0 = x at *
      go_wp2
      go_quiet (fail)
      go_wp2
      go_roundw
      case rel => exact ⟨k + 1, _, by omega, by simp, rfl⟩
      case measure => simp [intOf]; omega
    · obtain rfl : k = n := by omega
      clear hr hr2
      go_wp2
      go_ret
      exact ⟨rfl, below_drewN (Below.refl _ _) _⟩
end Go.Proofs.Ytoggpnncmgcgoaa
