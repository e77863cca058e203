/-
  Arguments opened: a struct of bytes and an integer; a slice of slices of bytes.
-/
import Derived.Test.YtoggpnncmgcgoaaCat
import Derived.Test.YtoggpnncmgcgoaaOpen
import Derived.Deep.Slices
namespace Go.Proofs.Ytoggpnncmgcgoaa
open Go.RowKit
set_option linter.unusedVariables false
theorem open_signer {H : Type} {enc : TypeId × Value → H} {P : Program} {w : World} {spare : Nat → Bool} {held : Bool} {r : Reach} {b0 : Nat} {t e : TypeId} {g0 g1 : Field} {v : Value} {d : DataW H} {p : List MemPlace}
    (hg : P.underlying t = some (.struct #[g0, g1])) (hgone : Go.Deep.oneCellFields P #[g0, g1] = true) (hgC : P.cellsOf t = 2)
    (v0 : P.underlying g0.type = some (.slice e)) (v1 : P.underlying g1.type = some (.int .i64)) (he : P.underlying e = some (.int .u8)) (hc : P.cellsOf e = 1)
    (hv : Value.okWide P w r b0 t v) (h : DataW.Trod enc P w 0 spare held t v d p) :
    ∃ (A : Option Addr) (n c : Nat) (l : List UInt8) (K : Int), v = .agg #[.slice A n c, .int .i64 K] ∧ (Lit.int .i64 K).wf = true ∧ l.length = n ∧ Rd w w.heap.size 1 A n (bvs l) ∧ n ≤ c ∧ c ≤ maxLen := by
  obtain ⟨cs, rfl, hsz⟩ := Go.WideShapes.okWide_struct hg hv
  obtain ⟨l⟩ := cs
  match l, hsz.trans hgC with
  | [c0, c1], _ =>
    obtain ⟨fuel, hf⟩ := h
    obtain ⟨xs, n, _, _, _, hlen, hgg⟩ := DataW.trod_struct hg hf
    have at_ : ∀ (j : Nat) (f : Field) (c : Value), #[g0, g1][j]? = some f → [c0, c1][j]? = some c → ∃ y, DataW.trod enc P w 0 spare held n f.type [c] = some y := by
      intro j f c hj hc
      obtain ⟨o, q⟩ := Go.Deep.hone_of hgone j f hj
      have hgj := hgg j f hj
      simp only [Value.cells] at hgj
      rw [o, q] at hgj
      have hd : ([c0, c1].drop j).take 1 = [c] := by
        have hjl : j < [c0, c1].length := (List.getElem?_eq_some_iff.1 hc).1
        rw [List.drop_eq_getElem_cons hjl]
        have := (List.getElem?_eq_some_iff.1 hc).2
        simp [this]
      have hxs : ∃ y, xs[j]? = some y := by
        have : j < xs.length := by
          rw [hlen]
          exact (Array.getElem?_eq_some_iff.1 hj).1
        exact ⟨_, List.getElem?_eq_getElem this⟩
      obtain ⟨y, hy⟩ := hxs
      rw [hy] at hgj
      simp only [hd] at hgj
      exact ⟨y, hgj⟩
    obtain ⟨y0, h0⟩ := at_ 0 g0 c0 rfl rfl
    obtain ⟨y1, h1⟩ := at_ 1 g1 c1 rfl rfl
    obtain ⟨K, hK, _, wK⟩ := DataW.trod_int v1 h1
    simp only [List.cons.injEq, and_true] at hK
    subst hK
    have hsl : ∃ A n c, c0 = .slice A n c := by
      rcases Go.Deep.open_slice v0 h0 with ⟨hcs, _⟩ | ⟨a, len, cap, m, k, D, Pl, hcs, _⟩
      · simp at hcs
        exact ⟨_, _, _, hcs⟩
      · simp at hcs
        exact ⟨_, _, _, hcs⟩
    obtain ⟨A, n', c', rfl⟩ := hsl
    obtain ⟨bs, hl, hR, hnc, hcm⟩ := open_bytes (d := y0.1) (p := y0.2) v0 he hc ⟨_, h0⟩
    exact ⟨A, n', c', bs, K, rfl, wK, hl, hR, hnc, hcm⟩
/-- What is known of a slice of bytes that came in. -/
def Sl.came (s : Sl) (w : World) : Prop := s.l.length = s.n ∧ Rd w w.heap.size 1 s.A s.n (bvs s.l) ∧ s.n ≤ s.c ∧ s.c ≤ maxLen
theorem open_bss {H : Type} {enc : TypeId × Value → H} {P : Program} {w : World} {spare : Nat → Bool} {held : Bool} {t e u : TypeId} (ht : P.underlying t = some (.slice e)) (he : P.underlying e = some (.slice u)) (hce : P.cellsOf e = 1) (hu : P.underlying u = some (.int .u8)) (hcu : P.cellsOf u = 1)
    {A : Option Addr} {n c : Nat} {fuel : Nat} {x : DataW H × List MemPlace} (hf : DataW.trod enc P w 0 spare held fuel t [.slice A n c] = some x) :
    ∃ L : List Sl, L.length = n ∧ Rd w w.heap.size 1 A n (L.map Sl.v) ∧ n ≤ c ∧ c ≤ maxLen ∧ ∀ s ∈ L, s.came w := by
  rcases Go.Deep.open_slice1 ht hce hf with ⟨hcs, _⟩ | ⟨a, len, cap, m, k, U, D, Pl, hcs, _, hl, hm, hmm, _, hx⟩
  · simp at hcs
    obtain ⟨rfl, rfl, rfl⟩ := hcs
    exact ⟨[], rfl, Rd.nil_, Nat.le_refl _, Nat.zero_le _, fun s hs => by cases hs⟩
  · simp at hcs
    obtain ⟨rfl, rfl, rfl⟩ := hcs
    have hnm : n ≤ m := by rw [hmm]; split <;> omega
    haveI : Inhabited Sl := ⟨⟨none, 0, 0, []⟩⟩
    obtain ⟨V, hV⟩ := Go.Deep.choose_lt (α := Sl) (n := n) (p := fun i s => w.cell? (a.add i) = some s.v ∧ s.came w) (fun i hi => by
      obtain ⟨h1, h2⟩ := hx i (by omega)
      have hsl : ∃ A n c, U i = .slice A n c := by
        rcases Go.Deep.open_slice he h2 with ⟨hcs, _⟩ | ⟨a, len, cap, m, k, D, Pl, hcs, _⟩
        · simp at hcs
          exact ⟨_, _, _, hcs⟩
        · simp at hcs
          exact ⟨_, _, _, hcs⟩
      obtain ⟨A', n', c', e1⟩ := hsl
      rw [e1] at h1 h2
      obtain ⟨bs, hl', hR, hnc, hcm⟩ := open_bytes he hu hcu (d := D i) (p := Pl i) ⟨_, h2⟩
      exact ⟨⟨A', n', c', bs⟩, h1, hl', hR, hnc, hcm⟩)
    refine ⟨(List.range n).map V, by simp, ⟨by simp, fun hn => ?_⟩, hl, hm, fun s hs => ?_⟩
    · have h0 := (hV 0 hn).1
      have hspot : a.spot = none := by
        have := World.cell?_spot h0
        simpa [Addr.add] using this
      obtain ⟨b, off, spot⟩ := a
      simp only at hspot
      subst hspot
      refine ⟨b, off, rfl, ?_, fun i u hu => ?_⟩
      · rw [add_lit] at h0
        exact World.block_lt_of_cell? w _ h0
      · have hi : i < n := by
          have := (List.getElem?_eq_some_iff.1 hu).1
          simpa using this
        rw [List.getElem?_map, List.getElem?_map, List.getElem?_range hi] at hu
        have := (hV i hi).1
        rw [add_lit] at this
        rw [this]
        exact hu
    · obtain ⟨i, hi, rfl⟩ := List.mem_map.1 hs
      exact (hV i (List.mem_range.1 hi)).2
end Go.Proofs.Ytoggpnncmgcgoaa
