/-
  The statement SealTells: the walk is carried to the given row: every argument is opened, and reads behind the call as it read before.
-/
import Derived.Test.YtfjjkkakhfgdhaaRows
import Derived.Test.YtfjjkkakhfgdhaaLaw06c
import Derived.Test.YtfjjkkakhfgdhaaOpen
import Derived.Test.YtfjjkkakhfgdhaaInit
import Derived.WalkKit
import Derived.ProofKit
import Derived.OpenShut
import Derived.ShutString
import Derived.ChangeOld
import Derived.Below
namespace Go.Proofs.Ytfjjkkakhfgdhaa.sealTellsDone
open Go.ChangeShapes Go.WideShapes Go.ChangeAt Go.RowKit
open Go.ChangeMaps (open_string shut_string)
set_option linter.unusedVariables false
set_option maxRecDepth 100000 in
set_option maxHeartbeats 2000000 in
theorem lifted (os : Os) (started : os.Started) (H : Type) (enc : TypeId × Value → H) :
    ReturnsInHanded {} Try.checked os 18 .any (Rows.sealTellsSpec.pre6 enc Try.prog Try.f18 Rows.sealTellsRow.domain false) (Rows.sealTellsSpec.post enc Try.prog Try.f18 false true false false) := by
  refine returnsInHanded_of_change (C := Try.checked) own started (by kernel_rfl) Try.func18
    (ChangeSpec.witness6 (enc := enc) (C := Try.checked) false ⟨#[], #[.slice none 0 0, .int .u32 0, .slice none 0 0, .int .u32 0], []⟩ 8 (by kernel_rfl) (by kernel_rfl) (by kernel_rfl) (by kernel_rfl)) ?_
  intro W base args ds gs before hval0 hW hcnd _
  have hval : ∀ (j : Nat) t v, Try.f18.params[j]? = some t → args[j]? = some v → Value.okWide Try.prog W .any base t v := hval0
  have hW' := hW
  obtain ⟨p, q, hA0, hV, rfl, hfz, hnd⟩ := hW
  have hA : DataW.TrodAll enc Try.prog W 0 (fun _ => true) true Try.f18.params.toList args.toList ds p := hA0
  rw [Try.params18] at hA hval
  obtain ⟨v0, vs0, d0, ds0, p0, q0, hargs, rfl, rfl, h0, r0⟩ := trodAll_cons hA
  obtain ⟨v1, vs1, d1, ds1, p1, q1, rfl, rfl, rfl, h1, r1⟩ := trodAll_cons r0
  obtain ⟨v2, vs2, d2, ds2, p2, q2, rfl, rfl, rfl, h2, r2⟩ := trodAll_cons r1
  obtain ⟨v3, vs3, d3, ds3, p3, q3, rfl, rfl, rfl, h3, r3⟩ := trodAll_cons r2
  obtain ⟨rfl, rfl, rfl⟩ := trodAll_nil r3
  obtain rfl : args = #[v0, v1, v2, v3] := by cases args; simp_all
  obtain ⟨rfl, rfl⟩ := trodVars_none hV
  have k0 := h0
  have lt0 : ∀ x ∈ p0, x.block < W.heap.size := by obtain ⟨m, hm⟩ := k0; exact DataW.trod_lt m _ _ _ hm
  have y0 := hval 0 28 v0 rfl rfl
  have k1 := h1
  have lt1 : ∀ x ∈ p1, x.block < W.heap.size := by obtain ⟨m, hm⟩ := k1; exact DataW.trod_lt m _ _ _ hm
  have y1 := hval 1 22 v1 rfl rfl
  have k2 := h2
  have lt2 : ∀ x ∈ p2, x.block < W.heap.size := by obtain ⟨m, hm⟩ := k2; exact DataW.trod_lt m _ _ _ hm
  have y2 := hval 2 28 v2 rfl rfl
  have k3 := h3
  have lt3 : ∀ x ∈ p3, x.block < W.heap.size := by obtain ⟨m, hm⟩ := k3; exact DataW.trod_lt m _ _ _ hm
  have y3 := hval 3 22 v3 rfl rfl
  obtain ⟨A0, n0, c0, rfl⟩ := okWide_slice Try.underlying28 y0
  obtain ⟨bs0, hb0, R0, nc0, cm0⟩ : ∃ bs : List UInt8, bs.length = n0 ∧ Rd W W.heap.size 1 A0 n0 (bvs bs) ∧ n0 ≤ c0 ∧ c0 ≤ maxLen := open_bytes Try.underlying28 Try.underlying5 (by kernel_rfl) h0
  obtain ⟨z1, rfl, e1, f1, x1⟩ := open_int Try.underlying22 y1 h1
  obtain ⟨a1, rfl⟩ := Int.eq_ofNat_of_zero_le (Go.bounds_u32 x1).1
  have b1 : (a1 : Int) < 4294967296 := by have := (Go.bounds_u32 x1).2; omega
  obtain ⟨A2, n2, c2, rfl⟩ := okWide_slice Try.underlying28 y2
  obtain ⟨bs2, hb2, R2, nc2, cm2⟩ : ∃ bs : List UInt8, bs.length = n2 ∧ Rd W W.heap.size 1 A2 n2 (bvs bs) ∧ n2 ≤ c2 ∧ c2 ≤ maxLen := open_bytes Try.underlying28 Try.underlying5 (by kernel_rfl) h2
  obtain ⟨a3, rfl, e3, f3, x3⟩ := open_int Try.underlying22 y3 h3
  clear hA0 hval0 hval
  refine (sealTells_walk A0 n0 c0 bs0 a1 b1 A2 n2 c2 bs2 a3 W hb0 R0 hb2 R2).mono fun e W' ⟨he, bel⟩ => ?_
  subst he
  exact ⟨_, rfl, _, _, _, [], _, [], hW', trodAll_mk1 (shut_bool Try.underlying4 _), (trodAll_cons_mk (Below.trod laidOut (by kernel_rfl) (of_decide_eq_true (by kernel_rfl)) k0 bel lt0) (trodAll_cons_mk (Below.trod laidOut (by kernel_rfl) (of_decide_eq_true (by kernel_rfl)) k1 bel lt1) (trodAll_cons_mk (Below.trod laidOut (by kernel_rfl) (of_decide_eq_true (by kernel_rfl)) k2 bel lt2) (trodAll_cons_mk (Below.trod laidOut (by kernel_rfl) (of_decide_eq_true (by kernel_rfl)) k3 bel lt3) trodAll_mk0)))), rfl, bel.frame _, fun h => by cases h⟩

theorem over : Rows.sealTellsRow.holds Try.pinned (OpenSpec.ofChange Rows.sealTellsSpec) :=
  OpenClaim.holds_of_wide 18 Try.f18 rfl rfl rfl rfl rfl rfl rfl ⟨rfl, rfl, rfl, rfl, rfl⟩ rfl rfl rfl rfl rfl (by kernel_rfl) Try.func18 (by unfold joinedFacts; rw [entersT, finalT, makeT, laidT, mapsT]; kernel_rfl)
    (of_decide_eq_true (by kernel_rfl)) (by unfold Func.isWrapper; first | (rw [if_pos (by decide +kernel)]; kernel_rfl) | (rw [if_neg (by decide +kernel)]; exact ⟨rfl, rfl⟩))
    (fun os started H enc _ => lifted os started H enc)

/-- THE STATEMENT. -/
theorem proved : Rows.SealTellsSaid := over
#print axioms proved
end Go.Proofs.Ytfjjkkakhfgdhaa.sealTellsDone
