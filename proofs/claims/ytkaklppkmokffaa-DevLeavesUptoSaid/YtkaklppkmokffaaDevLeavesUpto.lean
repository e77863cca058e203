/-
  The statement DevLeaves: the walk is carried to the given row: every argument is opened, and reads behind the call as it read before.
-/
import Derived.Test.YtkaklppkmokffaaRows
import Derived.Test.YtkaklppkmokffaaLaw09q
import Derived.Test.YtkaklppkmokffaaOpenU
import Derived.Test.YtkaklppkmokffaaOpenD
import Derived.Test.YtkaklppkmokffaaOpen
import Derived.Test.YtkaklppkmokffaaInit
import Derived.WalkKit
import Derived.ProofKit
import Derived.OpenShut
import Derived.ShutString
import Derived.ChangeOld
import Derived.Below
import Derived.JoinedCond
namespace Go.Proofs.Ytkaklppkmokffaa.devLeavesUptoDone
open Go.ChangeShapes Go.WideShapes Go.ChangeAt Go.RowKit
open Go.ChangeMaps (open_string shut_string)
set_option linter.unusedVariables false
set_option linter.unusedSimpArgs false
set_option maxRecDepth 100000 in
set_option maxHeartbeats 2000000 in
theorem lifted (os : Os) (started : os.Started) (H : Type) (enc : TypeId × Value → H) (F : Stop.Interp) :
    ReturnsInHanded {} Try.checked os 3 .any ((Rows.OpenSpec.upto Rows.devLeavesSpec).pre6 enc Try.prog Try.f3 Rows.devLeavesUptoRow.domain false) (((Rows.OpenSpec.upto Rows.devLeavesSpec).at F).post enc Try.prog Try.f3 false true false false) := by
  refine returnsInHanded_of_cond (C := Try.checked) (k := Rows.uptoSmall) rfl own started (by kernel_rfl) Try.func3
    (OpenSpec.witness (enc := enc) (C := Try.checked) (k := Rows.uptoSmall) rfl false ⟨#[], #[.agg #[.slice none 0 0, .slice none 0 0], .slice none 0 0, .int .i64 0, .int .i64 0, .int .u8 0], []⟩ 8 (by kernel_rfl) (by kernel_rfl) (by kernel_rfl) (x := ([.agg [.nil, .nil], .nil, .lit (.int .i64 0), .lit (.int .i64 0), .lit (.int .u8 0)], [], [])) (by kernel_rfl) (by kernel_rfl) (by simp [Rows.uptoSmall, Rows.uptoBulk, Rows.uptoBulkAll])) ?_
  intro W base args ds gs before hval0 hW hcnd hsmall _
  have hval : ∀ (j : Nat) t v, Try.f3.params[j]? = some t → args[j]? = some v → Value.okWide Try.prog W .any base t v := hval0
  have hW' := hW
  obtain ⟨p, q, hA0, hV, rfl, hfz, hnd⟩ := hW
  have hA : DataW.TrodAll enc Try.prog W 0 (fun _ => true) true Try.f3.params.toList args.toList ds p := hA0
  rw [Try.params3] at hA hval
  obtain ⟨v0, vs0, d0, ds0, p0, q0, hargs, rfl, rfl, h0, r0⟩ := trodAll_cons hA
  obtain ⟨v1, vs1, d1, ds1, p1, q1, rfl, rfl, rfl, h1, r1⟩ := trodAll_cons r0
  obtain ⟨v2, vs2, d2, ds2, p2, q2, rfl, rfl, rfl, h2, r2⟩ := trodAll_cons r1
  obtain ⟨v3, vs3, d3, ds3, p3, q3, rfl, rfl, rfl, h3, r3⟩ := trodAll_cons r2
  obtain ⟨v4, vs4, d4, ds4, p4, q4, rfl, rfl, rfl, h4, r4⟩ := trodAll_cons r3
  obtain ⟨rfl, rfl, rfl⟩ := trodAll_nil r4
  obtain rfl : args = #[v0, v1, v2, v3, v4] := by cases args; simp_all
  obtain ⟨rfl, rfl⟩ := trodVars_none hV
  have k0 := h0
  have lt0 : ∀ x ∈ p0, x.block < W.heap.size := by obtain ⟨m, hm⟩ := k0; exact DataW.trod_lt m _ _ _ hm
  have y0 := hval 0 25 v0 rfl rfl
  have k1 := h1
  have lt1 : ∀ x ∈ p1, x.block < W.heap.size := by obtain ⟨m, hm⟩ := k1; exact DataW.trod_lt m _ _ _ hm
  have y1 := hval 1 26 v1 rfl rfl
  have k2 := h2
  have lt2 : ∀ x ∈ p2, x.block < W.heap.size := by obtain ⟨m, hm⟩ := k2; exact DataW.trod_lt m _ _ _ hm
  have y2 := hval 2 3 v2 rfl rfl
  have k3 := h3
  have lt3 : ∀ x ∈ p3, x.block < W.heap.size := by obtain ⟨m, hm⟩ := k3; exact DataW.trod_lt m _ _ _ hm
  have y3 := hval 3 3 v3 rfl rfl
  have k4 := h4
  have lt4 : ∀ x ∈ p4, x.block < W.heap.size := by obtain ⟨m, hm⟩ := k4; exact DataW.trod_lt m _ _ _ hm
  have y4 := hval 4 5 v4 rfl rfl
  obtain ⟨dk0, rfl, ok0, sm0⟩ := open_diskU Try.underlying25 (by kernel_rfl) (by kernel_rfl) Try.underlying22 Try.underlying41 (by kernel_rfl) Try.underlying23 Try.underlying54 (by kernel_rfl) (by kernel_rfl) Try.underlying3 Try.underlying41 Try.underlying5 (by kernel_rfl) y0 h0
  replace sm0 := sm0 (by have hsm : Rows.uptoBulkAll _ ≤ 1048576 := of_decide_eq_true hsmall; simp only [List.append_nil, List.cons_append, List.nil_append, Rows.uptoBulkAll] at hsm; omega)
  obtain ⟨A1, n1, c1, rfl⟩ := okWide_slice Try.underlying26 y1
  obtain ⟨bl1, hb1, R1, nc1, cm1⟩ : ∃ L : List Bool, L.length = n1 ∧ Rd W W.heap.size 1 A1 n1 (bos L) ∧ n1 ≤ c1 ∧ c1 ≤ maxLen := by obtain ⟨_, hf⟩ := h1; exact open_bools Try.underlying26 Try.underlying4 (by kernel_rfl) hf
  obtain ⟨a2, rfl, e2, f2, x2⟩ := open_int Try.underlying3 y2 h2
  obtain ⟨a3, rfl, e3, f3, x3⟩ := open_int Try.underlying3 y3 h3
  obtain ⟨z4, rfl, e4, f4, x4⟩ := open_int Try.underlying5 y4 h4
  obtain ⟨a4, rfl⟩ := Int.eq_ofNat_of_zero_le (Go.bounds_u8 x4).1
  obtain ⟨u4, rfl⟩ : ∃ u : UInt8, u.toNat = a4 := ⟨UInt8.ofNat a4, by have := (Go.bounds_u8 x4).2; rw [UInt8.toNat_ofNat']; omega⟩
  clear hA0 hval0 hval
  refine (devLeaves_walk dk0 A1 n1 c1 bl1 a2 a3 u4 W ok0 sm0 hb1 R1 (Go.bounds_i64 x2) (Go.bounds_i64 x3)).mono fun e W' ⟨he, bel⟩ => ?_
  subst he
  exact ⟨_, rfl, _, _, _, [], _, [], hW', trodAll_mk1 (shut_bool Try.underlying4 _), (trodAll_cons_mk (Below.trod laidOut (by kernel_rfl) (of_decide_eq_true (by kernel_rfl)) k0 bel lt0) (trodAll_cons_mk (Below.trod laidOut (by kernel_rfl) (of_decide_eq_true (by kernel_rfl)) k1 bel lt1) (trodAll_cons_mk (Below.trod laidOut (by kernel_rfl) (of_decide_eq_true (by kernel_rfl)) k2 bel lt2) (trodAll_cons_mk (Below.trod laidOut (by kernel_rfl) (of_decide_eq_true (by kernel_rfl)) k3 bel lt3) (trodAll_cons_mk (Below.trod laidOut (by kernel_rfl) (of_decide_eq_true (by kernel_rfl)) k4 bel lt4) trodAll_mk0))))), rfl, bel.frame _, fun h => by cases h⟩

theorem over : Rows.devLeavesUptoRow.holds Try.pinned (Rows.OpenSpec.upto Rows.devLeavesSpec) :=
  OpenClaim.holds_of_cond 3 Try.f3 rfl rfl rfl rfl rfl rfl rfl ⟨rfl, rfl, rfl, rfl, rfl⟩ rfl rfl rfl rfl rfl (by kernel_rfl) Try.func3 (by unfold joinedFacts; rw [entersT, finalT, makeT, laidT, mapsT]; kernel_rfl)
    (of_decide_eq_true (by kernel_rfl)) (by unfold Func.isWrapper; first | (rw [if_pos (by decide +kernel)]; kernel_rfl) | (rw [if_neg (by decide +kernel)]; exact ⟨rfl, rfl⟩))
    (fun os started H enc _ F => lifted os started H enc F)

/-- THE STATEMENT. -/
theorem proved : Rows.DevLeavesUptoSaid := over
#print axioms proved
end Go.Proofs.Ytkaklppkmokffaa.devLeavesUptoDone
