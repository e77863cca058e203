/-
  The statement ObjBlocks: the walk is carried to the given row: every argument is opened, and reads behind the call as it read before.
-/
import Derived.Test.YtgcagenhfddpgaaRows
import Derived.Test.YtgcagenhfddpgaaLaw14e
import Derived.Test.YtgcagenhfddpgaaOpenP
import Derived.Test.YtgcagenhfddpgaaOpen
import Derived.Test.YtgcagenhfddpgaaInit
import Derived.WalkKit
import Derived.ProofKit
import Derived.OpenShut
import Derived.ShutString
import Derived.ChangeOld
import Derived.Below
namespace Go.Proofs.Ytgcagenhfddpgaa.objBlocksDone
open Go.ChangeShapes Go.WideShapes Go.ChangeAt Go.RowKit
open Go.ChangeMaps (open_string shut_string)
set_option linter.unusedVariables false
set_option maxRecDepth 100000 in
set_option maxHeartbeats 2000000 in
theorem lifted (os : Os) (started : os.Started) (H : Type) (enc : TypeId × Value → H) :
    ReturnsInHanded {} Try.checked os 17 .any (Rows.objBlocksSpec.pre6 enc Try.prog Try.f17 Rows.objBlocksRow.domain false) (Rows.objBlocksSpec.post enc Try.prog Try.f17 false true false false) := by
  refine returnsInHanded_of_change (C := Try.checked) own started (by kernel_rfl) Try.func17
    (ChangeSpec.witness6 (enc := enc) (C := Try.checked) false ⟨#[], #[.agg #[.int .u8 0, .int .i64 0, .int .i64 0, .slice none 0 0], .agg #[.int .u8 0, .int .i64 0, .int .i64 0, .slice none 0 0], .slice none 0 0], []⟩ 8 (by kernel_rfl) (by kernel_rfl) (by kernel_rfl) (by kernel_rfl)) ?_
  intro W base args ds gs before hval0 hW hcnd _
  have hval : ∀ (j : Nat) t v, Try.f17.params[j]? = some t → args[j]? = some v → Value.okWide Try.prog W .any base t v := hval0
  have hW' := hW
  obtain ⟨p, q, hA0, hV, rfl, hfz, hnd⟩ := hW
  have hA : DataW.TrodAll enc Try.prog W 0 (fun _ => true) true Try.f17.params.toList args.toList ds p := hA0
  rw [Try.params17] at hA hval
  obtain ⟨v0, vs0, d0, ds0, p0, q0, hargs, rfl, rfl, h0, r0⟩ := trodAll_cons hA
  obtain ⟨v1, vs1, d1, ds1, p1, q1, rfl, rfl, rfl, h1, r1⟩ := trodAll_cons r0
  obtain ⟨v2, vs2, d2, ds2, p2, q2, rfl, rfl, rfl, h2, r2⟩ := trodAll_cons r1
  obtain ⟨rfl, rfl, rfl⟩ := trodAll_nil r2
  obtain rfl : args = #[v0, v1, v2] := by cases args; simp_all
  obtain ⟨rfl, rfl⟩ := trodVars_none hV
  have k0 := h0
  have lt0 : ∀ x ∈ p0, x.block < W.heap.size := by obtain ⟨m, hm⟩ := k0; exact DataW.trod_lt m _ _ _ hm
  have y0 := hval 0 50 v0 rfl rfl
  have k1 := h1
  have lt1 : ∀ x ∈ p1, x.block < W.heap.size := by obtain ⟨m, hm⟩ := k1; exact DataW.trod_lt m _ _ _ hm
  have y1 := hval 1 50 v1 rfl rfl
  have k2 := h2
  have lt2 : ∀ x ∈ p2, x.block < W.heap.size := by obtain ⟨m, hm⟩ := k2; exact DataW.trod_lt m _ _ _ hm
  have y2 := hval 2 23 v2 rfl rfl
  obtain ⟨K0, L0, S0, A0, n0, c0, l0, rfl, wk0, wl0, ws0, hl0, R0, nc0, cm0, U0⟩ := open_obj Try.underlying50 (by kernel_rfl) (by kernel_rfl) Try.underlying5 Try.underlying3 Try.underlying3 Try.underlying42 Try.underlying31 (by kernel_rfl) (by kernel_rfl) Try.underlying3 Try.underlying29 Try.underlying29 Try.underlying29 Try.underlying29 y0 h0
  have rk0 := Go.bounds_u8 wk0
  obtain ⟨K1, L1, S1, A1, n1, c1, l1, rfl, wk1, wl1, ws1, hl1, R1, nc1, cm1, U1⟩ := open_obj Try.underlying50 (by kernel_rfl) (by kernel_rfl) Try.underlying5 Try.underlying3 Try.underlying3 Try.underlying42 Try.underlying31 (by kernel_rfl) (by kernel_rfl) Try.underlying3 Try.underlying29 Try.underlying29 Try.underlying29 Try.underlying29 y1 h1
  have rk1 := Go.bounds_u8 wk1
  obtain ⟨A2, n2, c2, rfl⟩ := okWide_slice Try.underlying23 y2
  obtain ⟨bs2, hb2, R2, nc2, cm2⟩ : ∃ bs : List UInt8, bs.length = n2 ∧ Rd W W.heap.size 1 A2 n2 (bvs bs) ∧ n2 ≤ c2 ∧ c2 ≤ maxLen := open_bytes Try.underlying23 Try.underlying5 (by kernel_rfl) h2
  clear hA0 hval0 hval
  refine (objBlocks_walk K0 L0 S0 A0 n0 c0 l0 K1 L1 S1 A1 n1 c1 l1 A2 n2 c2 bs2 W hl0 U0 R0 rk0 hl1 U1 R1 rk1 hb2 nc2 R2).mono fun e W' ⟨he, bel⟩ => ?_
  subst he
  exact ⟨_, rfl, _, _, _, [], _, [], hW', trodAll_mk1 (shut_bool Try.underlying4 _), (trodAll_cons_mk (Below.trod laidOut (by kernel_rfl) (of_decide_eq_true (by kernel_rfl)) k0 bel lt0) (trodAll_cons_mk (Below.trod laidOut (by kernel_rfl) (of_decide_eq_true (by kernel_rfl)) k1 bel lt1) (trodAll_cons_mk (Below.trod laidOut (by kernel_rfl) (of_decide_eq_true (by kernel_rfl)) k2 bel lt2) trodAll_mk0))), rfl, bel.frame _, fun h => by cases h⟩

theorem over : Rows.objBlocksRow.holds Try.pinned (OpenSpec.ofChange Rows.objBlocksSpec) :=
  OpenClaim.holds_of_wide 17 Try.f17 rfl rfl rfl rfl rfl rfl rfl ⟨rfl, rfl, rfl, rfl, rfl⟩ rfl rfl rfl rfl rfl (by kernel_rfl) Try.func17 (by unfold joinedFacts; rw [entersT, finalT, makeT, laidT, mapsT]; kernel_rfl)
    (of_decide_eq_true (by kernel_rfl)) (by unfold Func.isWrapper; first | (rw [if_pos (by decide +kernel)]; kernel_rfl) | (rw [if_neg (by decide +kernel)]; exact ⟨rfl, rfl⟩))
    (fun os started H enc _ => lifted os started H enc)

/-- THE STATEMENT. -/
theorem proved : Rows.ObjBlocksSaid := over
#print axioms proved
end Go.Proofs.Ytgcagenhfddpgaa.objBlocksDone
