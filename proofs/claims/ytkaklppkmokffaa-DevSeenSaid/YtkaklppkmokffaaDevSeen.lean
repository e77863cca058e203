/-
  The statement DevSeen: the walk is carried to the given row: every argument is opened, and reads behind the call as it read before.
-/
import Derived.Test.YtkaklppkmokffaaRows
import Derived.Test.YtkaklppkmokffaaLaw09f
import Derived.Test.YtkaklppkmokffaaOpenD
import Derived.Test.YtkaklppkmokffaaOpen
import Derived.Test.YtkaklppkmokffaaInit
import Derived.WalkKit
import Derived.ProofKit
import Derived.OpenShut
import Derived.ShutString
import Derived.ChangeOld
import Derived.Below
namespace Go.Proofs.Ytkaklppkmokffaa.devSeenDone
open Go.ChangeShapes Go.WideShapes Go.ChangeAt Go.RowKit
open Go.ChangeMaps (open_string shut_string)
set_option linter.unusedVariables false
set_option maxRecDepth 100000 in
set_option maxHeartbeats 2000000 in
theorem lifted (os : Os) (started : os.Started) (H : Type) (enc : TypeId × Value → H) :
    ReturnsInHanded {} Try.checked os 8 .any (Rows.devSeenSpec.pre6 enc Try.prog Try.f8 Rows.devSeenRow.domain false) (Rows.devSeenSpec.post enc Try.prog Try.f8 false true false false) := by
  refine returnsInHanded_of_change (C := Try.checked) own started (by kernel_rfl) Try.func8
    (ChangeSpec.witness6 (enc := enc) (C := Try.checked) false ⟨#[], #[.agg #[.slice none 0 0, .slice none 0 0], .int .i64 0, .int .u8 0, .slice none 0 0], []⟩ 8 (by kernel_rfl) (by kernel_rfl) (by kernel_rfl) (by kernel_rfl)) ?_
  intro W base args ds gs before hval0 hW hcnd _
  have hval : ∀ (j : Nat) t v, Try.f8.params[j]? = some t → args[j]? = some v → Value.okWide Try.prog W .any base t v := hval0
  have hW' := hW
  obtain ⟨p, q, hA0, hV, rfl, hfz, hnd⟩ := hW
  have hA : DataW.TrodAll enc Try.prog W 0 (fun _ => true) true Try.f8.params.toList args.toList ds p := hA0
  rw [Try.params8] at hA hval
  obtain ⟨v0, vs0, d0, ds0, p0, q0, hargs, rfl, rfl, h0, r0⟩ := trodAll_cons hA
  obtain ⟨v1, vs1, d1, ds1, p1, q1, rfl, rfl, rfl, h1, r1⟩ := trodAll_cons r0
  obtain ⟨v2, vs2, d2, ds2, p2, q2, rfl, rfl, rfl, h2, r2⟩ := trodAll_cons r1
  obtain ⟨v3, vs3, d3, ds3, p3, q3, rfl, rfl, rfl, h3, r3⟩ := trodAll_cons r2
  obtain ⟨rfl, rfl, rfl⟩ := trodAll_nil r3
  obtain rfl : args = #[v0, v1, v2, v3] := by cases args; simp_all
  obtain ⟨rfl, rfl⟩ := trodVars_none hV
  have k0 := h0
  have lt0 : ∀ x ∈ p0, x.block < W.heap.size := by obtain ⟨m, hm⟩ := k0; exact DataW.trod_lt m _ _ _ hm
  have y0 := hval 0 25 v0 rfl rfl
  have k1 := h1
  have lt1 : ∀ x ∈ p1, x.block < W.heap.size := by obtain ⟨m, hm⟩ := k1; exact DataW.trod_lt m _ _ _ hm
  have y1 := hval 1 3 v1 rfl rfl
  have k2 := h2
  have lt2 : ∀ x ∈ p2, x.block < W.heap.size := by obtain ⟨m, hm⟩ := k2; exact DataW.trod_lt m _ _ _ hm
  have y2 := hval 2 5 v2 rfl rfl
  have k3 := h3
  have lt3 : ∀ x ∈ p3, x.block < W.heap.size := by obtain ⟨m, hm⟩ := k3; exact DataW.trod_lt m _ _ _ hm
  have y3 := hval 3 41 v3 rfl rfl
  obtain ⟨dk0, rfl, ok0⟩ := open_disk Try.underlying25 (by kernel_rfl) (by kernel_rfl) Try.underlying22 Try.underlying41 (by kernel_rfl) Try.underlying23 Try.underlying54 (by kernel_rfl) (by kernel_rfl) Try.underlying3 Try.underlying41 Try.underlying5 (by kernel_rfl) y0 h0
  obtain ⟨a1, rfl, e1, f1, x1⟩ := open_int Try.underlying3 y1 h1
  obtain ⟨z2, rfl, e2, f2, x2⟩ := open_int Try.underlying5 y2 h2
  obtain ⟨a2, rfl⟩ := Int.eq_ofNat_of_zero_le (Go.bounds_u8 x2).1
  obtain ⟨u2, rfl⟩ : ∃ u : UInt8, u.toNat = a2 := ⟨UInt8.ofNat a2, by have := (Go.bounds_u8 x2).2; rw [UInt8.toNat_ofNat']; omega⟩
  obtain ⟨A3, n3, c3, rfl⟩ := okWide_slice Try.underlying41 y3
  obtain ⟨bs3, hb3, R3, nc3, cm3⟩ : ∃ bs : List UInt8, bs.length = n3 ∧ Rd W W.heap.size 1 A3 n3 (bvs bs) ∧ n3 ≤ c3 ∧ c3 ≤ maxLen := open_bytes Try.underlying41 Try.underlying5 (by kernel_rfl) h3
  clear hA0 hval0 hval
  refine (devSeen_walk dk0 a1 u2 ⟨A3, n3, c3, bs3⟩ W ok0 (Go.bounds_i64 x1) ⟨hb3, R3, nc3, cm3⟩).mono fun e W' ⟨he, bel⟩ => ?_
  subst he
  exact ⟨_, rfl, _, _, _, [], _, [], hW', trodAll_mk1 (shut_bool Try.underlying4 _), (trodAll_cons_mk (Below.trod laidOut (by kernel_rfl) (of_decide_eq_true (by kernel_rfl)) k0 bel lt0) (trodAll_cons_mk (Below.trod laidOut (by kernel_rfl) (of_decide_eq_true (by kernel_rfl)) k1 bel lt1) (trodAll_cons_mk (Below.trod laidOut (by kernel_rfl) (of_decide_eq_true (by kernel_rfl)) k2 bel lt2) (trodAll_cons_mk (Below.trod laidOut (by kernel_rfl) (of_decide_eq_true (by kernel_rfl)) k3 bel lt3) trodAll_mk0)))), rfl, bel.frame _, fun h => by cases h⟩

theorem over : Rows.devSeenRow.holds Try.pinned (OpenSpec.ofChange Rows.devSeenSpec) :=
  OpenClaim.holds_of_wide 8 Try.f8 rfl rfl rfl rfl rfl rfl rfl ⟨rfl, rfl, rfl, rfl, rfl⟩ rfl rfl rfl rfl rfl (by kernel_rfl) Try.func8 (by unfold joinedFacts; rw [entersT, finalT, makeT, laidT, mapsT]; kernel_rfl)
    (of_decide_eq_true (by kernel_rfl)) (by unfold Func.isWrapper; first | (rw [if_pos (by decide +kernel)]; kernel_rfl) | (rw [if_neg (by decide +kernel)]; exact ⟨rfl, rfl⟩))
    (fun os started H enc _ => lifted os started H enc)

/-- THE STATEMENT. -/
theorem proved : Rows.DevSeenSaid := over
#print axioms proved
end Go.Proofs.Ytkaklppkmokffaa.devSeenDone
