/-
  The statement DevPairs: the walk is carried to the given row: every argument is opened, and reads behind the call as it read before.
-/
import Derived.Test.YtkaklppkmokffaaRows
import Derived.Test.YtkaklppkmokffaaOpenU
import Derived.Test.YtkaklppkmokffaaOpen
import Derived.Test.YtkaklppkmokffaaInit
import Derived.WalkKit
import Derived.ProofKit
import Derived.OpenShut
import Derived.ShutString
import Derived.ChangeOld
import Derived.Below
import Derived.JoinedCond
namespace Go.Proofs.Ytkaklppkmokffaa.devPairsUptoDone
open Go.ChangeShapes Go.WideShapes Go.ChangeAt Go.RowKit
open Go.ChangeMaps (open_string shut_string)
set_option linter.unusedVariables false
set_option linter.unusedSimpArgs false
set_option maxRecDepth 100000 in
set_option maxHeartbeats 2000000 in
theorem lifted (os : Os) (started : os.Started) (H : Type) (enc : TypeId × Value → H) (F : Stop.Interp) :
    ReturnsInHanded {} Try.checked os 5 .any ((Rows.OpenSpec.upto Rows.devPairsSpec).pre6 enc Try.prog Try.f5 Rows.devPairsUptoRow.domain false) (((Rows.OpenSpec.upto Rows.devPairsSpec).at F).post enc Try.prog Try.f5 false true false false) := by
  refine returnsInHanded_of_cond (C := Try.checked) (k := Rows.uptoSmall) rfl own started (by kernel_rfl) Try.func5
    (OpenSpec.witness (enc := enc) (C := Try.checked) (k := Rows.uptoSmall) rfl false ⟨#[], #[.agg #[.slice none 0 0, .slice none 0 0], .agg #[.slice none 0 0, .slice none 0 0]], []⟩ 8 (by kernel_rfl) (by kernel_rfl) (by kernel_rfl) (x := ([.agg [.nil, .nil], .agg [.nil, .nil]], [], [])) (by kernel_rfl) (by kernel_rfl) (by simp [Rows.uptoSmall, Rows.uptoBulk, Rows.uptoBulkAll])) ?_
  intro W base args ds gs before hval0 hW hcnd hsmall _
  have hval : ∀ (j : Nat) t v, Try.f5.params[j]? = some t → args[j]? = some v → Value.okWide Try.prog W .any base t v := hval0
  have hW' := hW
  obtain ⟨p, q, hA0, hV, rfl, hfz, hnd⟩ := hW
  have hA : DataW.TrodAll enc Try.prog W 0 (fun _ => true) true Try.f5.params.toList args.toList ds p := hA0
  rw [Try.params5] at hA hval
  obtain ⟨v0, vs0, d0, ds0, p0, q0, hargs, rfl, rfl, h0, r0⟩ := trodAll_cons hA
  obtain ⟨v1, vs1, d1, ds1, p1, q1, rfl, rfl, rfl, h1, r1⟩ := trodAll_cons r0
  obtain ⟨rfl, rfl, rfl⟩ := trodAll_nil r1
  obtain rfl : args = #[v0, v1] := by cases args; simp_all
  obtain ⟨rfl, rfl⟩ := trodVars_none hV
  have k0 := h0
  have lt0 : ∀ x ∈ p0, x.block < W.heap.size := by obtain ⟨m, hm⟩ := k0; exact DataW.trod_lt m _ _ _ hm
  have y0 := hval 0 25 v0 rfl rfl
  have k1 := h1
  have lt1 : ∀ x ∈ p1, x.block < W.heap.size := by obtain ⟨m, hm⟩ := k1; exact DataW.trod_lt m _ _ _ hm
  have y1 := hval 1 25 v1 rfl rfl
  obtain ⟨dk0, rfl, ok0, sm0⟩ := open_diskU Try.underlying25 (by kernel_rfl) (by kernel_rfl) Try.underlying22 Try.underlying41 (by kernel_rfl) Try.underlying23 Try.underlying54 (by kernel_rfl) (by kernel_rfl) Try.underlying3 Try.underlying41 Try.underlying5 (by kernel_rfl) y0 h0
  replace sm0 := sm0 (by have hsm : Rows.uptoBulkAll _ ≤ 1048576 := of_decide_eq_true hsmall; simp only [List.append_nil, List.cons_append, List.nil_append, Rows.uptoBulkAll] at hsm; omega)
  obtain ⟨dk1, rfl, ok1, sm1⟩ := open_diskU Try.underlying25 (by kernel_rfl) (by kernel_rfl) Try.underlying22 Try.underlying41 (by kernel_rfl) Try.underlying23 Try.underlying54 (by kernel_rfl) (by kernel_rfl) Try.underlying3 Try.underlying41 Try.underlying5 (by kernel_rfl) y1 h1
  replace sm1 := sm1 (by have hsm : Rows.uptoBulkAll _ ≤ 1048576 := of_decide_eq_true hsmall; simp only [List.append_nil, List.cons_append, List.nil_append, Rows.uptoBulkAll] at hsm; omega)
  clear hA0 hval0 hval
  refine (devPairs_walk dk0 dk1 W ok0 ok1 sm0).mono fun e W' ⟨he, bel⟩ => ?_
  subst he
  exact ⟨_, rfl, _, _, _, [], _, [], hW', trodAll_mk1 (shut_bool Try.underlying4 _), (trodAll_cons_mk (Below.trod laidOut (by kernel_rfl) (of_decide_eq_true (by kernel_rfl)) k0 bel lt0) (trodAll_cons_mk (Below.trod laidOut (by kernel_rfl) (of_decide_eq_true (by kernel_rfl)) k1 bel lt1) trodAll_mk0)), rfl, bel.frame _, fun h => by cases h⟩

theorem over : Rows.devPairsUptoRow.holds Try.pinned (Rows.OpenSpec.upto Rows.devPairsSpec) :=
  OpenClaim.holds_of_cond 5 Try.f5 rfl rfl rfl rfl rfl rfl rfl ⟨rfl, rfl, rfl, rfl, rfl⟩ rfl rfl rfl rfl rfl (by kernel_rfl) Try.func5 (by unfold joinedFacts; rw [entersT, finalT, makeT, laidT, mapsT]; kernel_rfl)
    (of_decide_eq_true (by kernel_rfl)) (by unfold Func.isWrapper; first | (rw [if_pos (by decide +kernel)]; kernel_rfl) | (rw [if_neg (by decide +kernel)]; exact ⟨rfl, rfl⟩))
    (fun os started H enc _ F => lifted os started H enc F)

/-- THE STATEMENT. -/
theorem proved : Rows.DevPairsUptoSaid := over
#print axioms proved
end Go.Proofs.Ytkaklppkmokffaa.devPairsUptoDone
