/-
  Arguments opened: disks; slices of truth values.
-/
import Derived.Test.YtkaklppkmokffaaDevE
import Derived.Test.YtkaklppkmokffaaOpen
import Derived.Deep.Slices
namespace Go.Proofs.Ytkaklppkmokffaa
open Go.RowKit
set_option linter.unusedVariables false
set_option linter.unusedSimpArgs false
theorem open_bss {H : Type} {enc : TypeId × Value → H} {P : Program} {w : World} {spare : Nat → Bool} {held : Bool} {t e u : TypeId} (ht : P.underlying t = some (.slice e)) (he : P.underlying e = some (.slice u)) (hce : P.cellsOf e = 1) (hu : P.underlying u = some (.int .u8)) (hcu : P.cellsOf u = 1)
    {A : Option Addr} {n c : Nat} {fuel : Nat} {x : DataW H × List MemPlace} (hf : DataW.trod enc P w 0 spare held fuel t [.slice A n c] = some x) :
    ∃ L : List Sl, L.length = n ∧ Rd w w.heap.size 1 A n (L.map Sl.v) ∧ n ≤ c ∧ c ≤ maxLen ∧ ∀ s ∈ L, s.came w := by
  rcases Go.Deep.open_slice1 ht hce hf with ⟨hcs, _⟩ | ⟨a, len, cap, m, k, U, D, Pl, hcs, _, hl, hm, hmm, _, hx⟩
  · simp at hcs
    obtain ⟨rfl, rfl, rfl⟩ := hcs
    exact ⟨[], rfl, Rd.nil_, Nat.le_refl _, Nat.zero_le _, fun s hs => by cases hs⟩
  · simp at hcs
    obtain ⟨rfl, rfl, rfl⟩ := hcs
    have hnm : n ≤ m := by rw [hmm]; split <;> omega
    haveI : Inhabited Sl := ⟨⟨none, 0, 0, []⟩⟩
    obtain ⟨V, hV⟩ := Go.Deep.choose_lt (α := Sl) (n := n) (p := fun i s => w.cell? (a.add i) = some s.v ∧ s.came w) (fun i hi => by
      obtain ⟨h1, h2⟩ := hx i (by omega)
      have hsl : ∃ A n c, U i = .slice A n c := by
        rcases Go.Deep.open_slice he h2 with ⟨hcs, _⟩ | ⟨a, len, cap, m, k, D, Pl, hcs, _⟩
        · simp at hcs
          exact ⟨_, _, _, hcs⟩
        · simp at hcs
          exact ⟨_, _, _, hcs⟩
      obtain ⟨A', n', c', e1⟩ := hsl
      rw [e1] at h1 h2
      obtain ⟨bs, hl', hR, hnc, hcm⟩ := open_bytes he hu hcu (d := D i) (p := Pl i) ⟨_, h2⟩
      exact ⟨⟨A', n', c', bs⟩, h1, hl', hR, hnc, hcm⟩)
    refine ⟨(List.range n).map V, by simp, ⟨by simp, fun hn => ?_⟩, hl, hm, fun s hs => ?_⟩
    · have h0 := (hV 0 hn).1
      have hspot : a.spot = none := by
        have := World.cell?_spot h0
        simpa [Addr.add] using this
      obtain ⟨b, off, spot⟩ := a
      simp only at hspot
      subst hspot
      refine ⟨b, off, rfl, ?_, fun i u hu => ?_⟩
      · rw [add_lit] at h0
        exact World.block_lt_of_cell? w _ h0
      · have hi : i < n := by
          have := (List.getElem?_eq_some_iff.1 hu).1
          simpa using this
        rw [List.getElem?_map, List.getElem?_map, List.getElem?_range hi] at hu
        have := (hV i hi).1
        rw [add_lit] at this
        rw [this]
        exact hu
    · obtain ⟨i, hi, rfl⟩ := List.mem_map.1 hs
      exact (hV i (List.mem_range.1 hi)).2
theorem open_bools {H : Type} {enc : TypeId × Value → H} {P : Program} {w : World} {spare : Nat → Bool} {held : Bool} {t e : TypeId} (ht : P.underlying t = some (.slice e)) (he : P.underlying e = some .bool) (hce : P.cellsOf e = 1)
    {A : Option Addr} {n c : Nat} {fuel : Nat} {x : DataW H × List MemPlace} (hf : DataW.trod enc P w 0 spare held fuel t [.slice A n c] = some x) :
    ∃ L : List Bool, L.length = n ∧ Rd w w.heap.size 1 A n (bos L) ∧ n ≤ c ∧ c ≤ maxLen := by
  rcases Go.Deep.open_slice1 ht hce hf with ⟨hcs, _⟩ | ⟨a, len, cap, m, k, U, D, Pl, hcs, _, hl, hm, hmm, _, hx⟩
  · simp at hcs
    obtain ⟨rfl, rfl, rfl⟩ := hcs
    exact ⟨[], rfl, Rd.nil_, Nat.le_refl _, Nat.zero_le _⟩
  · simp at hcs
    obtain ⟨rfl, rfl, rfl⟩ := hcs
    have hnm : n ≤ m := by rw [hmm]; split <;> omega
    obtain ⟨V, hV⟩ := Go.Deep.choose_lt (α := Bool) (n := n) (p := fun i s => w.cell? (a.add i) = some (.bool s)) (fun i hi => by
      obtain ⟨h1, h2⟩ := hx i (by omega)
      obtain ⟨b, hb, _⟩ := DataW.trod_bool he h2
      simp only [List.cons.injEq, and_true] at hb
      exact ⟨b, by rw [← hb]; exact h1⟩)
    refine ⟨(List.range n).map V, by simp, ⟨by simp [bos], fun hn => ?_⟩, hl, hm⟩
    have h0 := hV 0 hn
    have hspot : a.spot = none := by
      have := World.cell?_spot h0
      simpa [Addr.add] using this
    obtain ⟨b, off, spot⟩ := a
    simp only at hspot
    subst hspot
    refine ⟨b, off, rfl, ?_, fun i u hu => ?_⟩
    · rw [add_lit] at h0
      exact World.block_lt_of_cell? w _ h0
    · have hi : i < n := by
        have := (List.getElem?_eq_some_iff.1 hu).1
        simpa [bos] using this
      rw [bos, List.getElem?_map, List.getElem?_map, List.getElem?_range hi] at hu
      have := hV i hi
      rw [add_lit] at this
      rw [this]
      exact hu
theorem open_sl {H : Type} {enc : TypeId × Value → H} {P : Program} {w : World} {spare : Nat → Bool} {held : Bool} {t e : TypeId} (ht : P.underlying t = some (.slice e)) {c0 : Value} {fuel : Nat} {x : DataW H × List MemPlace} (hf : DataW.trod enc P w 0 spare held fuel t [c0] = some x) :
    ∃ A n c, c0 = .slice A n c := by
  rcases Go.Deep.open_slice ht hf with ⟨hcs, _⟩ | ⟨a, len, cap, m, k, D, Pl, hcs, _⟩
  · simp at hcs
    exact ⟨_, _, _, hcs⟩
  · simp at hcs
    exact ⟨_, _, _, hcs⟩
/-- The fields of a struct of two fields of one cell each. -/
theorem two_fields {H : Type} {enc : TypeId × Value → H} {P : Program} {w : World} {spare : Nat → Bool} {held : Bool} {t : TypeId} {g0 g1 : Field} {cs : List Value} {fuel : Nat} {x : DataW H × List MemPlace}
    (hg : P.underlying t = some (.struct #[g0, g1])) (hgone : Go.Deep.oneCellFields P #[g0, g1] = true) (hC : P.cellsOf t = 2) (hf : DataW.trod enc P w 0 spare held fuel t cs = some x) :
    ∃ c0 c1 n y0 y1, cs = [c0, c1] ∧ DataW.trod enc P w 0 spare held n g0.type [c0] = some y0 ∧ DataW.trod enc P w 0 spare held n g1.type [c1] = some y1 := by
  obtain ⟨xs, n, _, _, hsz, hlen, hgg⟩ := DataW.trod_struct hg hf
  match cs, hsz.trans hC with
  | [c0, c1], _ =>
    have at_ : ∀ (j : Nat) (f : Field) (c : Value), #[g0, g1][j]? = some f → [c0, c1][j]? = some c → ∃ y, DataW.trod enc P w 0 spare held n f.type [c] = some y := by
      intro j f c hj hc
      obtain ⟨o, q⟩ := Go.Deep.hone_of hgone j f hj
      have hgj := hgg j f hj
      rw [o, q] at hgj
      have hd : ([c0, c1].drop j).take 1 = [c] := by
        have hjl : j < [c0, c1].length := (List.getElem?_eq_some_iff.1 hc).1
        rw [List.drop_eq_getElem_cons hjl]
        have := (List.getElem?_eq_some_iff.1 hc).2
        simp [this]
      have hxs : ∃ y, xs[j]? = some y := by
        have : j < xs.length := by
          rw [hlen]
          exact (Array.getElem?_eq_some_iff.1 hj).1
        exact ⟨_, List.getElem?_eq_getElem this⟩
      obtain ⟨y, hy⟩ := hxs
      rw [hy] at hgj
      simp only [hd] at hgj
      exact ⟨y, hgj⟩
    obtain ⟨y0, h0⟩ := at_ 0 g0 c0 rfl rfl
    obtain ⟨y1, h1⟩ := at_ 1 g1 c1 rfl rfl
    exact ⟨c0, c1, n, y0, y1, rfl, h0, h1⟩
def Wt.cs (x : Wt) : List Value := [.int .i64 x.a, x.s.v]
theorem wcs_get_of (l : List Wt) {i : Nat} {u : Value} (hu : (wcs l)[i]? = some u) : ∃ k j, ∃ hk : k < l.length, j < 2 ∧ i = k * 2 + j ∧ (l[k]).cs[j]? = some u := by
  have hi : i < (wcs l).length := (List.getElem?_eq_some_iff.1 hu).1
  rw [wcs_len] at hi
  have hk : i / 2 < l.length := by omega
  obtain ⟨h1, h2⟩ := wcs_get hk
  have e : i = i / 2 * 2 + i % 2 := by omega
  rcases Nat.mod_two_eq_zero_or_one i with h | h
  · rw [h] at e
    rw [e, Nat.add_zero, h1] at hu
    exact ⟨i / 2, 0, hk, by omega, e, hu⟩
  · rw [h] at e
    rw [e, h2] at hu
    exact ⟨i / 2, 1, hk, by omega, e, hu⟩
theorem open_writes {H : Type} {enc : TypeId × Value → H} {P : Program} {w : World} {spare : Nat → Bool} {held : Bool} {t e u : TypeId} {f0 f1 : Field} (ht : P.underlying t = some (.slice e))
    (hs : P.underlying e = some (.struct #[f0, f1])) (hone : Go.Deep.oneCellFields P #[f0, f1] = true) (hC : P.cellsOf e = 2)
    (u0 : P.underlying f0.type = some (.int .i64)) (u1 : P.underlying f1.type = some (.slice u)) (hu : P.underlying u = some (.int .u8)) (hcu : P.cellsOf u = 1)
    {A : Option Addr} {n c : Nat} {fuel : Nat} {x : DataW H × List MemPlace} (hf : DataW.trod enc P w 0 spare held fuel t [.slice A n c] = some x) :
    ∃ l : List Wt, l.length = n ∧ Rd w w.heap.size 2 A n (wcs l) ∧ n ≤ c ∧ c ≤ maxLen ∧ ∀ x ∈ l, x.s.came w ∧ I64 x.a := by
  rcases Go.Deep.open_slice ht hf with ⟨hcs, _⟩ | ⟨a, len, cap, m, k, D, Pl, hcs, _, hl, hm, hmm, _, hx⟩
  · simp at hcs
    obtain ⟨rfl, rfl, rfl⟩ := hcs
    exact ⟨[], rfl, Rd.nil_, Nat.le_refl _, Nat.zero_le _, fun p hp => by cases hp⟩
  · simp at hcs
    obtain ⟨rfl, rfl, rfl⟩ := hcs
    have hnm : n ≤ m := by rw [hmm]; split <;> omega
    rw [hC] at hx
    haveI : Inhabited Wt := ⟨⟨0, ⟨none, 0, 0, []⟩⟩⟩
    obtain ⟨V, hV⟩ := Go.Deep.choose_lt (α := Wt) (n := n) (p := fun i q => (∀ j u, q.cs[j]? = some u → w.cell? ((a.add (i * 2)).add j) = some u) ∧ q.s.came w ∧ I64 q.a) (fun i hi => by
      obtain ⟨cs', h1, h2⟩ := hx i (by omega)
      obtain ⟨c0, c1, n', y0, y1, rfl, h3, h4⟩ := two_fields hs hone hC h2
      obtain ⟨z, hz, _, hw⟩ := DataW.trod_int u0 h3
      simp only [List.cons.injEq, and_true] at hz
      subst hz
      obtain ⟨A', m', k', rfl⟩ := open_sl u1 h4
      obtain ⟨bs, hl', hR, hnc, hcm⟩ := open_bytes u1 hu hcu (d := y1.1) (p := y1.2) ⟨_, h4⟩
      obtain ⟨_, hlen, hc⟩ := World.cells?_some h1
      exact ⟨⟨z, ⟨A', m', k', bs⟩⟩, fun j u hu => by
        have hj : j < 2 := (List.getElem?_eq_some_iff.1 hu).1
        rw [hc j hj]
        exact hu, ⟨hl', hR, hnc, hcm⟩, Go.bounds_i64 hw⟩)
    refine ⟨(List.range n).map V, by simp, ⟨by simp [wcs_len], fun hn => ?_⟩, hl, hm, fun p hp => ?_⟩
    · have h0 := (hV 0 hn).1 0 _ rfl
      have hspot : a.spot = none := by
        have := World.cell?_spot h0
        simpa [Addr.add] using this
      obtain ⟨b, off, spot⟩ := a
      simp only at hspot
      subst hspot
      refine ⟨b, off, rfl, ?_, fun i u hu => ?_⟩
      · rw [add_lit, add_lit] at h0
        exact World.block_lt_of_cell? w _ h0
      · obtain ⟨k', j, hk', hj, rfl, hu'⟩ := wcs_get_of _ hu
        simp only [List.getElem_map, List.getElem_range] at hu'
        have := (hV k' (by simpa using hk')).1 j u hu'
        rwa [add_lit, add_lit, Nat.add_assoc] at this
    · obtain ⟨i, hi, rfl⟩ := List.mem_map.1 hp
      exact (hV i (List.mem_range.1 hi)).2
/-- A disk. -/
theorem open_disk {H : Type} {enc : TypeId × Value → H} {P : Program} {w : World} {spare : Nat → Bool} {held : Bool} {r : Reach} {b0 : Nat} {t e e2 u : TypeId} {g0 g1 f0 f1 : Field} {v : Value} {d : DataW H} {p : List MemPlace}
    (hg : P.underlying t = some (.struct #[g0, g1])) (hgone : Go.Deep.oneCellFields P #[g0, g1] = true) (hgC : P.cellsOf t = 2)
    (v0 : P.underlying g0.type = some (.slice e)) (he : P.underlying e = some (.slice u)) (hce : P.cellsOf e = 1)
    (v1 : P.underlying g1.type = some (.slice e2)) (hs : P.underlying e2 = some (.struct #[f0, f1])) (hone : Go.Deep.oneCellFields P #[f0, f1] = true) (hC : P.cellsOf e2 = 2)
    (u0 : P.underlying f0.type = some (.int .i64)) (u1 : P.underlying f1.type = some (.slice u)) (hu : P.underlying u = some (.int .u8)) (hcu : P.cellsOf u = 1)
    (hv : Value.okWide P w r b0 t v) (h : DataW.Trod enc P w 0 spare held t v d p) : ∃ d : Dk, v = d.v ∧ d.ok w := by
  obtain ⟨cs, rfl, hsz⟩ := Go.WideShapes.okWide_struct hg hv
  obtain ⟨l⟩ := cs
  obtain ⟨fuel, hf⟩ := h
  obtain ⟨c0, c1, n, y0, y1, e0, h0, h1⟩ := two_fields hg hgone hgC hf
  obtain ⟨A, nB, cB, rfl⟩ := open_sl v0 h0
  obtain ⟨W, nW, cW, rfl⟩ := open_sl v1 h1
  simp only [Value.cells] at e0
  subst e0
  obtain ⟨bs, hl, hR, hnc, hcm, hcame⟩ := open_bss v0 he hce hu hcu h0
  obtain ⟨ws, hl', hR', hnc', hcm', hcame'⟩ := open_writes v1 hs hone hC u0 u1 hu hcu h1
  exact ⟨⟨A, nB, cB, bs, W, nW, cW, ws⟩, rfl, ⟨hl, hR, hcame, hl', hR', hcame', ⟨hnc, hcm⟩, ⟨hnc', hcm'⟩⟩⟩
end Go.Proofs.Ytkaklppkmokffaa
