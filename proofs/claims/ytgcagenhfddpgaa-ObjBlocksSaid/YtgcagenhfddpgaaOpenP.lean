/-
  Arguments opened: slices of structs of five integers.
-/
import Derived.Test.YtgcagenhfddpgaaMathQ
import Derived.Test.YtgcagenhfddpgaaOpen
import Derived.Deep.Slices
namespace Go.Proofs.Ytgcagenhfddpgaa
open Go.RowKit
set_option linter.unusedVariables false
theorem five_cells {H : Type} {enc : TypeId × Value → H} {P : Program} {w : World} {base : Nat} {spare : Nat → Bool} {held : Bool} {t : TypeId} {f0 f1 f2 f3 f4 : Field} {cs : List Value} {fuel : Nat} {x : DataW H × List MemPlace}
    (hs : P.underlying t = some (.struct #[f0, f1, f2, f3, f4])) (hone : Go.Deep.oneCellFields P #[f0, f1, f2, f3, f4] = true) (hC : P.cellsOf t = 5)
    (u0 : P.underlying f0.type = some (.int .i64)) (u1 : P.underlying f1.type = some (.int .u32)) (u2 : P.underlying f2.type = some (.int .u32)) (u3 : P.underlying f3.type = some (.int .u32)) (u4 : P.underlying f4.type = some (.int .u32))
    (hf : DataW.trod enc P w base spare held fuel t cs = some x) : ∃ p : Pt, cs = p.cs ∧ p.U ∧ (Lit.int .i64 p.a).wf = true := by
  obtain ⟨xs, n, _, _, hsz, hlen, hg⟩ := DataW.trod_struct hs hf
  match cs, hsz.trans hC with
  | [c0, c1, c2, c3, c4], _ =>
    have one : ∀ (j : Nat) (f : Field) (k : IntKind) (c : Value), #[f0, f1, f2, f3, f4][j]? = some f → P.underlying f.type = some (.int k) → [c0, c1, c2, c3, c4][j]? = some c → ∃ m, c = .int k m ∧ (Lit.int k m).wf = true := by
      intro j f k c hj hu hc
      obtain ⟨o, q⟩ := Go.Deep.hone_of hone j f hj
      have hgj := hg j f hj
      rw [o, q] at hgj
      have hd : ([c0, c1, c2, c3, c4].drop j).take 1 = [c] := by
        have hjl : j < [c0, c1, c2, c3, c4].length := (List.getElem?_eq_some_iff.1 hc).1
        rw [List.drop_eq_getElem_cons hjl]
        have := (List.getElem?_eq_some_iff.1 hc).2
        simp [this]
      have hxs : ∃ y, xs[j]? = some y := by
        have : j < xs.length := by
          rw [hlen]
          exact (Array.getElem?_eq_some_iff.1 hj).1
        exact ⟨_, List.getElem?_eq_getElem this⟩
      obtain ⟨y, hy⟩ := hxs
      simp only [hd, hy] at hgj
      obtain ⟨m, hm, _, hw⟩ := DataW.trod_int hu hgj
      simp only [List.cons.injEq, and_true] at hm
      exact ⟨m, hm, hw⟩
    obtain ⟨n0, rfl, w0⟩ := one 0 f0 .i64 c0 rfl u0 rfl
    obtain ⟨n1, rfl, w1⟩ := one 1 f1 .u32 c1 rfl u1 rfl
    obtain ⟨n2, rfl, w2⟩ := one 2 f2 .u32 c2 rfl u2 rfl
    obtain ⟨n3, rfl, w3⟩ := one 3 f3 .u32 c3 rfl u3 rfl
    obtain ⟨n4, rfl, w4⟩ := one 4 f4 .u32 c4 rfl u4 rfl
    exact ⟨⟨n0, n1, n2, n3, n4⟩, rfl, ⟨Go.bounds_u32 w1, Go.bounds_u32 w2, Go.bounds_u32 w3, Go.bounds_u32 w4⟩, w0⟩
theorem pcs_get_of (l : List Pt) {i : Nat} {u : Value} (hu : (pcs l)[i]? = some u) : ∃ k j, ∃ hk : k < l.length, j < 5 ∧ i = k * 5 + j ∧ (l[k]).cs[j]? = some u := by
  have hi : i < (pcs l).length := (List.getElem?_eq_some_iff.1 hu).1
  rw [pcs_len] at hi
  have hk : i / 5 < l.length := by omega
  refine ⟨i / 5, i % 5, hk, by omega, by omega, ?_⟩
  rw [← pcs_get l (i / 5) (i % 5) hk (by omega), show i / 5 * 5 + i % 5 = i by omega]
  exact hu
theorem open_ptrs {H : Type} {enc : TypeId × Value → H} {P : Program} {w : World} {spare : Nat → Bool} {held : Bool} {t e : TypeId} {f0 f1 f2 f3 f4 : Field} (ht : P.underlying t = some (.slice e))
    (hs : P.underlying e = some (.struct #[f0, f1, f2, f3, f4])) (hone : Go.Deep.oneCellFields P #[f0, f1, f2, f3, f4] = true) (hC : P.cellsOf e = 5)
    (u0 : P.underlying f0.type = some (.int .i64)) (u1 : P.underlying f1.type = some (.int .u32)) (u2 : P.underlying f2.type = some (.int .u32)) (u3 : P.underlying f3.type = some (.int .u32)) (u4 : P.underlying f4.type = some (.int .u32))
    {A : Option Addr} {n c : Nat} {fuel : Nat} {x : DataW H × List MemPlace} (hf : DataW.trod enc P w 0 spare held fuel t [.slice A n c] = some x) :
    ∃ l : List Pt, l.length = n ∧ Rd w w.heap.size 5 A n (pcs l) ∧ n ≤ c ∧ c ≤ maxLen ∧ AllU l := by
  rcases Go.Deep.open_slice ht hf with ⟨hcs, _⟩ | ⟨a, len, cap, m, k, D, Pl, hcs, _, hl, hm, hmm, _, hx⟩
  · simp at hcs
    obtain ⟨rfl, rfl, rfl⟩ := hcs
    exact ⟨[], rfl, Rd.nil_, Nat.le_refl _, Nat.zero_le _, fun p hp => by cases hp⟩
  · simp at hcs
    obtain ⟨rfl, rfl, rfl⟩ := hcs
    have hnm : n ≤ m := by rw [hmm]; split <;> omega
    rw [hC] at hx
    haveI : Inhabited Pt := ⟨Pt.zero⟩
    obtain ⟨V, hV⟩ := Go.Deep.choose_lt (α := Pt) (n := n) (p := fun i q => (∀ j u, q.cs[j]? = some u → w.cell? ((a.add (i * 5)).add j) = some u) ∧ q.U) (fun i hi => by
      obtain ⟨cs', h1, h2⟩ := hx i (by omega)
      obtain ⟨q, rfl, hU, _⟩ := five_cells hs hone hC u0 u1 u2 u3 u4 h2
      obtain ⟨_, hlen, hc⟩ := World.cells?_some h1
      exact ⟨q, fun j u hu => by
        have hj : j < 5 := (List.getElem?_eq_some_iff.1 hu).1
        rw [hc j hj, hu], hU⟩)
    refine ⟨upto V n, upto_length V n, ⟨by rw [pcs_len, upto_length], fun hn => ?_⟩, hl, hm, fun p hp => ?_⟩
    · have h0 := (hV 0 hn).1 0 _ rfl
      have hspot : a.spot = none := by
        have := World.cell?_spot h0
        simpa [Addr.add] using this
      obtain ⟨b, off, spot⟩ := a
      simp only at hspot
      subst hspot
      refine ⟨b, off, rfl, ?_, fun i u hu => ?_⟩
      · rw [add_lit, add_lit] at h0
        exact World.block_lt_of_cell? w _ h0
      · obtain ⟨k', j, hk', hj, rfl, hu'⟩ := pcs_get_of _ hu
        rw [upto_get] at hu'
        have := (hV k' (by rwa [upto_length] at hk')).1 j u hu'
        rwa [add_lit, add_lit, Nat.add_assoc] at this
    · obtain ⟨i, hi, rfl⟩ := List.mem_map.1 hp
      exact (hV i (List.mem_range.1 hi)).2
/-- A struct of a byte, two integers and a slice of structs of five integers. -/
theorem open_obj {H : Type} {enc : TypeId × Value → H} {P : Program} {w : World} {spare : Nat → Bool} {held : Bool} {r : Reach} {b0 : Nat} {t e : TypeId} {g0 g1 g2 g3 f0 f1 f2 f3 f4 : Field} {v : Value} {d : DataW H} {p : List MemPlace}
    (hg : P.underlying t = some (.struct #[g0, g1, g2, g3])) (hgone : Go.Deep.oneCellFields P #[g0, g1, g2, g3] = true) (hgC : P.cellsOf t = 4)
    (v0 : P.underlying g0.type = some (.int .u8)) (v1 : P.underlying g1.type = some (.int .i64)) (v2 : P.underlying g2.type = some (.int .i64)) (v3 : P.underlying g3.type = some (.slice e))
    (hs : P.underlying e = some (.struct #[f0, f1, f2, f3, f4])) (hone : Go.Deep.oneCellFields P #[f0, f1, f2, f3, f4] = true) (hC : P.cellsOf e = 5)
    (u0 : P.underlying f0.type = some (.int .i64)) (u1 : P.underlying f1.type = some (.int .u32)) (u2 : P.underlying f2.type = some (.int .u32)) (u3 : P.underlying f3.type = some (.int .u32)) (u4 : P.underlying f4.type = some (.int .u32))
    (hv : Value.okWide P w r b0 t v) (h : DataW.Trod enc P w 0 spare held t v d p) :
    ∃ (K L S : Int) (A : Option Addr) (n c : Nat) (l : List Pt), v = .agg #[.int .u8 K, .int .i64 L, .int .i64 S, .slice A n c] ∧ (Lit.int .u8 K).wf = true ∧ (Lit.int .i64 L).wf = true ∧ (Lit.int .i64 S).wf = true ∧
      l.length = n ∧ Rd w w.heap.size 5 A n (pcs l) ∧ n ≤ c ∧ c ≤ maxLen ∧ AllU l := by
  obtain ⟨cs, rfl, hsz⟩ := Go.WideShapes.okWide_struct hg hv
  obtain ⟨l⟩ := cs
  match l, hsz.trans hgC with
  | [c0, c1, c2, c3], _ =>
    obtain ⟨fuel, hf⟩ := h
    obtain ⟨xs, n, _, _, _, hlen, hgg⟩ := DataW.trod_struct hg hf
    have at_ : ∀ (j : Nat) (f : Field) (c : Value), #[g0, g1, g2, g3][j]? = some f → [c0, c1, c2, c3][j]? = some c → ∃ y, DataW.trod enc P w 0 spare held n f.type [c] = some y := by
      intro j f c hj hc
      obtain ⟨o, q⟩ := Go.Deep.hone_of hgone j f hj
      have hgj := hgg j f hj
      simp only [Value.cells] at hgj
      rw [o, q] at hgj
      have hd : ([c0, c1, c2, c3].drop j).take 1 = [c] := by
        have hjl : j < [c0, c1, c2, c3].length := (List.getElem?_eq_some_iff.1 hc).1
        rw [List.drop_eq_getElem_cons hjl]
        have := (List.getElem?_eq_some_iff.1 hc).2
        simp [this]
      have hxs : ∃ y, xs[j]? = some y := by
        have : j < xs.length := by
          rw [hlen]
          exact (Array.getElem?_eq_some_iff.1 hj).1
        exact ⟨_, List.getElem?_eq_getElem this⟩
      obtain ⟨y, hy⟩ := hxs
      rw [hy] at hgj
      simp only [hd] at hgj
      exact ⟨y, hgj⟩
    have one : ∀ (f : Field) (k : IntKind) (c : Value) (y : DataW H × List MemPlace), P.underlying f.type = some (.int k) → DataW.trod enc P w 0 spare held n f.type [c] = some y → ∃ m, c = .int k m ∧ (Lit.int k m).wf = true := by
      intro f k c y hu hy
      obtain ⟨m, hm, _, hw⟩ := DataW.trod_int hu hy
      simp only [List.cons.injEq, and_true] at hm
      exact ⟨m, hm, hw⟩
    obtain ⟨y0, h0⟩ := at_ 0 g0 c0 rfl rfl
    obtain ⟨y1, h1⟩ := at_ 1 g1 c1 rfl rfl
    obtain ⟨y2, h2⟩ := at_ 2 g2 c2 rfl rfl
    obtain ⟨y3, h3⟩ := at_ 3 g3 c3 rfl rfl
    obtain ⟨K, rfl, w0⟩ := one g0 _ _ _ v0 h0
    obtain ⟨L, rfl, w1⟩ := one g1 _ _ _ v1 h1
    obtain ⟨S, rfl, w2⟩ := one g2 _ _ _ v2 h2
    have hsl : ∃ A n c, c3 = .slice A n c := by
      rcases Go.Deep.open_slice v3 h3 with ⟨hcs, _⟩ | ⟨a, len, cap, m, k, D, Pl, hcs, _⟩
      · simp at hcs
        exact ⟨_, _, _, hcs⟩
      · simp at hcs
        exact ⟨_, _, _, hcs⟩
    obtain ⟨A, n', c', rfl⟩ := hsl
    obtain ⟨l, hl, hR, hnc, hcm, hU⟩ := open_ptrs v3 hs hone hC u0 u1 u2 u3 u4 h3
    exact ⟨K, L, S, A, n', c', l, rfl, w0, w1, w2, hl, hR, hnc, hcm, hU⟩
end Go.Proofs.Ytgcagenhfddpgaa
