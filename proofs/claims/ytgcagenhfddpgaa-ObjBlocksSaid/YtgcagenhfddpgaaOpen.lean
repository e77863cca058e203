/-
  Arguments opened: structs by value.
-/
import Derived.Test.YtgcagenhfddpgaaBase
import Derived.Lib.SmallJoins
import Derived.OpenShut
namespace Go.Proofs.Ytgcagenhfddpgaa
open Go.RowKit
/-- A struct of five integers, by value. -/
theorem open_five {H : Type} {enc : TypeId × Value → H} {P : Program} {w : World} {base : Nat} {spare : Nat → Bool} {held : Bool} {r : Reach} {b0 : Nat} {t : TypeId} {f0 f1 f2 f3 f4 : Field} {k0 k1 k2 k3 k4 : IntKind} {v : Value} {d : DataW H} {p : List MemPlace}
    (hs : P.underlying t = some (.struct #[f0, f1, f2, f3, f4])) (hone : Go.Deep.oneCellFields P #[f0, f1, f2, f3, f4] = true) (hC : P.cellsOf t = 5)
    (u0 : P.underlying f0.type = some (.int k0)) (u1 : P.underlying f1.type = some (.int k1)) (u2 : P.underlying f2.type = some (.int k2)) (u3 : P.underlying f3.type = some (.int k3)) (u4 : P.underlying f4.type = some (.int k4))
    (hv : Value.okWide P w r b0 t v) (h : DataW.Trod enc P w base spare held t v d p) :
    ∃ n0 n1 n2 n3 n4 : Int, v = .agg #[.int k0 n0, .int k1 n1, .int k2 n2, .int k3 n3, .int k4 n4] ∧ (Lit.int k0 n0).wf = true ∧ (Lit.int k1 n1).wf = true ∧ (Lit.int k2 n2).wf = true ∧ (Lit.int k3 n3).wf = true ∧ (Lit.int k4 n4).wf = true := by
  obtain ⟨cs, rfl, hsz⟩ := Go.WideShapes.okWide_struct hs hv
  obtain ⟨l⟩ := cs
  match l, hsz.trans hC with
  | [c0, c1, c2, c3, c4], _ =>
    obtain ⟨fuel, hf⟩ := h
    obtain ⟨xs, n, _, _, _, hlen, hg⟩ := DataW.trod_struct hs hf
    have one : ∀ (j : Nat) (f : Field) (k : IntKind) (c : Value), #[f0, f1, f2, f3, f4][j]? = some f → P.underlying f.type = some (.int k) → [c0, c1, c2, c3, c4][j]? = some c → ∃ m, c = .int k m ∧ (Lit.int k m).wf = true := by
      intro j f k c hj hu hc
      obtain ⟨o, q⟩ := Go.Deep.hone_of hone j f hj
      have hgj := hg j f hj
      simp only [Value.cells] at hgj
      rw [o, q] at hgj
      have hd : ([c0, c1, c2, c3, c4].drop j).take 1 = [c] := by
        have hjl : j < [c0, c1, c2, c3, c4].length := (List.getElem?_eq_some_iff.1 hc).1
        rw [List.drop_eq_getElem_cons hjl]
        have := (List.getElem?_eq_some_iff.1 hc).2
        simp [this]
      have hxs : ∃ y, xs[j]? = some y := by
        have : j < xs.length := by
          rw [hlen]
          exact (Array.getElem?_eq_some_iff.1 hj).1
        exact ⟨_, List.getElem?_eq_getElem this⟩
      obtain ⟨y, hy⟩ := hxs
      simp only [hd, hy] at hgj
      obtain ⟨m, hm, _, hw⟩ := DataW.trod_int hu hgj
      simp only [List.cons.injEq, and_true] at hm
      exact ⟨m, hm, hw⟩
    obtain ⟨n0, rfl, w0⟩ := one 0 f0 k0 c0 rfl u0 rfl
    obtain ⟨n1, rfl, w1⟩ := one 1 f1 k1 c1 rfl u1 rfl
    obtain ⟨n2, rfl, w2⟩ := one 2 f2 k2 c2 rfl u2 rfl
    obtain ⟨n3, rfl, w3⟩ := one 3 f3 k3 c3 rfl u3 rfl
    obtain ⟨n4, rfl, w4⟩ := one 4 f4 k4 c4 rfl u4 rfl
    exact ⟨n0, n1, n2, n3, n4, rfl, w0, w1, w2, w3, w4⟩
/-- An array of integers, by value. -/
theorem open_ints {H : Type} {enc : TypeId × Value → H} {P : Program} {w : World} {base : Nat} {spare : Nat → Bool} {held : Bool} {r : Reach} {b0 : Nat} {t e : TypeId} {n : Nat} {k : IntKind} {v : Value} {d : DataW H} {p : List MemPlace}
    (ha : P.underlying t = some (.array n e)) (hC : P.cellsOf t = n) (he : P.cellsOf e = 1) (ue : P.underlying e = some (.int k))
    (hv : Value.okWide P w r b0 t v) (h : DataW.Trod enc P w base spare held t v d p) :
    ∃ l : List Int, l.length = n ∧ v = .agg (l.map (Value.int k)).toArray ∧ ∀ m ∈ l, (Lit.int k m).wf = true := by
  have hx : ∃ cs, v = .agg cs ∧ cs.size = P.cellsOf t := by
    simp only [Value.okWide, ha] at hv
    obtain ⟨cs, h1, h2, _⟩ := hv
    exact ⟨cs, h1, h2⟩
  obtain ⟨cs, rfl, hsz⟩ := hx
  obtain ⟨fuel, hf⟩ := h
  obtain ⟨xs, m, _, _, hl, hlen, hg⟩ := DataW.trod_array ha hf
  rw [he, hC] at *
  have one : ∀ (i : Nat) (hi : i < cs.size), ∃ z : Int, cs[i] = .int k z ∧ (Lit.int k z).wf = true := by
    intro i hi
    have hin : i < n := by omega
    have hgi := hg i hin
    rw [List.getElem?_eq_getElem (show i < xs.length by omega)] at hgi
    simp only [Value.cells, Nat.mul_one] at hgi
    obtain ⟨z, hm, _, hw⟩ := DataW.trod_int ue hgi
    rw [List.drop_eq_getElem_cons (by simpa using hi)] at hm
    simp only [List.take_succ_cons, List.take_zero, List.cons.injEq, and_true] at hm
    exact ⟨z, by simpa using hm, hw⟩
  refine ⟨cs.toList.map (fun c => match c with | .int _ z => z | _ => 0), by simp [hsz], ?_, ?_⟩
  · congr 1
    apply Array.ext
    · simp
    · intro i h1 h2
      obtain ⟨z, hz, _⟩ := one i h1
      simp [hz]
  · intro y hy
    obtain ⟨c, hc, rfl⟩ := List.mem_map.1 hy
    obtain ⟨i, hi, rfl⟩ := List.mem_iff_getElem.1 hc
    obtain ⟨z, hz, hw⟩ := one i (by simpa using hi)
    simp only [Array.length_toList] at hi
    simp only [Array.getElem_toList, hz]
    exact hw
end Go.Proofs.Ytgcagenhfddpgaa
