/-
  Arguments opened: disks whose reading is of small bulk.
-/
import Derived.Test.YtkaklppkmokffaaRows
import Derived.Test.YtkaklppkmokffaaLaw09p
import Derived.Test.YtkaklppkmokffaaOpenD
namespace Go.Proofs.Ytkaklppkmokffaa
open Go.RowKit
set_option linter.unusedVariables false
set_option linter.unusedSimpArgs false
theorem bulk_pos {H : Type} (d : DataW H) : 1 ≤ Rows.uptoBulk d := by
  cases d with
  | lit l => cases l <;> simp [Rows.uptoBulk]
  | nil => simp [Rows.uptoBulk]
  | ptr d => simp [Rows.uptoBulk]
  | slice a b => simp [Rows.uptoBulk]
  | agg a => simp [Rows.uptoBulk]
  | iface a b => simp [Rows.uptoBulk]
  | map a => simp [Rows.uptoBulk]
  | held a => simp [Rows.uptoBulk]
theorem bulkAll_map {H : Type} (D : Nat → DataW H) (f : Nat → Nat) : ∀ l : List Nat, (∀ i ∈ l, f i ≤ Rows.uptoBulk (D i)) → (l.map f).sum ≤ Rows.uptoBulkAll (l.map D)
  | [], _ => by simp [Rows.uptoBulkAll]
  | i :: l, h => by
    have h1 := h i (by simp)
    have h2 := bulkAll_map D f l (fun j hj => h j (by simp [hj]))
    simp only [List.map_cons, List.sum_cons, Rows.uptoBulkAll]
    omega
theorem le_sum : ∀ {l : List Nat} {a : Nat}, a ∈ l → a ≤ l.sum
  | b :: l, a, h => by
    rw [List.sum_cons]
    rcases List.mem_cons.1 h with rfl | h1
    · omega
    · have := le_sum h1
      omega
theorem sum_ones (n : Nat) : ((List.range n).map fun _ => 1).sum = n := by
  rw [List.map_const', List.sum_replicate_nat, List.length_range, Nat.mul_one]
theorem bulk_slice {H : Type} (n m : Nat) (D : Nat → DataW H) (r : List (DataW H)) (f : Nat → Nat) (h : ∀ i, i < n → f i ≤ Rows.uptoBulk (D i)) : ((List.range n).map f).sum ≤ Rows.uptoBulk (.slice ((List.range n).map D) r) := by
  have := bulkAll_map D f (List.range n) (fun i hi => h i (List.mem_range.1 hi))
  simp only [Rows.uptoBulk]
  omega
theorem bulk_bytes {H : Type} {enc : TypeId × Value → H} {P : Program} {w : World} {spare : Nat → Bool} {held : Bool} {t u : TypeId} (ht : P.underlying t = some (.slice u)) (hcu : P.cellsOf u = 1)
    {A : Option Addr} {n c : Nat} {fuel : Nat} {x : DataW H × List MemPlace} (hf : DataW.trod enc P w 0 spare held fuel t [.slice A n c] = some x) : n ≤ Rows.uptoBulk x.1 := by
  rcases Go.Deep.open_slice1 ht hcu hf with ⟨hcs, rfl⟩ | ⟨a, len, cap, m, k, U, D, Pl, hcs, _, hl, hm, hmm, rfl, hx⟩
  · simp at hcs
    obtain ⟨rfl, rfl, rfl⟩ := hcs
    exact Nat.zero_le _
  · simp at hcs
    obtain ⟨rfl, rfl, rfl⟩ := hcs
    have := bulk_slice n m D ((List.range (m - n)).map fun j => D (n + j)) (fun _ => 1) (fun i _ => bulk_pos _)
    rw [sum_ones] at this
    exact this
theorem open_bssU {H : Type} {enc : TypeId × Value → H} {P : Program} {w : World} {spare : Nat → Bool} {held : Bool} {t e u : TypeId} (ht : P.underlying t = some (.slice e)) (he : P.underlying e = some (.slice u)) (hce : P.cellsOf e = 1) (hu : P.underlying u = some (.int .u8)) (hcu : P.cellsOf u = 1)
    {A : Option Addr} {n c : Nat} {fuel : Nat} {x : DataW H × List MemPlace} (hf : DataW.trod enc P w 0 spare held fuel t [.slice A n c] = some x) :
    ∃ L : List Sl, L.length = n ∧ Rd w w.heap.size 1 A n (L.map Sl.v) ∧ n ≤ c ∧ c ≤ maxLen ∧ (∀ s ∈ L, s.came w) ∧ (L.map Sl.l).flatten.length ≤ Rows.uptoBulk x.1 := by
  rcases Go.Deep.open_slice1 ht hce hf with ⟨hcs, rfl⟩ | ⟨a, len, cap, m, k, U, D, Pl, hcs, _, hl, hm, hmm, rfl, hx⟩
  · simp at hcs
    obtain ⟨rfl, rfl, rfl⟩ := hcs
    exact ⟨[], rfl, Rd.nil_, Nat.le_refl _, Nat.zero_le _, fun s hs => (by cases hs), Nat.zero_le _⟩
  · simp at hcs
    obtain ⟨rfl, rfl, rfl⟩ := hcs
    have hnm : n ≤ m := by rw [hmm]; split <;> omega
    haveI : Inhabited Sl := ⟨⟨none, 0, 0, []⟩⟩
    obtain ⟨V, hV⟩ := Go.Deep.choose_lt (α := Sl) (n := n) (p := fun i s => w.cell? (a.add i) = some s.v ∧ s.came w ∧ s.n ≤ Rows.uptoBulk (D i)) (fun i hi => by
      obtain ⟨h1, h2⟩ := hx i (by omega)
      obtain ⟨A', n', c', e1⟩ := open_sl he h2
      rw [e1] at h1 h2
      obtain ⟨bs, hl', hR, hnc, hcm⟩ := open_bytes he hu hcu (d := D i) (p := Pl i) ⟨_, h2⟩
      exact ⟨⟨A', n', c', bs⟩, h1, ⟨hl', hR, hnc, hcm⟩, bulk_bytes he hcu h2⟩)
    refine ⟨(List.range n).map V, by simp, ⟨by simp, fun hn => ?_⟩, hl, hm, fun s hs => ?_, ?_⟩
    · have h0 := (hV 0 hn).1
      have hspot : a.spot = none := by
        have := World.cell?_spot h0
        simpa [Addr.add] using this
      obtain ⟨b, off, spot⟩ := a
      simp only at hspot
      subst hspot
      refine ⟨b, off, rfl, ?_, fun i u hu => ?_⟩
      · rw [add_lit] at h0
        exact World.block_lt_of_cell? w _ h0
      · have hi : i < n := by
          have := (List.getElem?_eq_some_iff.1 hu).1
          simpa using this
        rw [List.getElem?_map, List.getElem?_map, List.getElem?_range hi] at hu
        have := (hV i hi).1
        rw [add_lit] at this
        rw [this]
        exact hu
    · obtain ⟨i, hi, rfl⟩ := List.mem_map.1 hs
      exact (hV i (List.mem_range.1 hi)).2.1
    · have hb := bulk_slice n m D ((List.range (m - n)).map fun j => D (n + j)) (fun i => (V i).n) (fun i hi => (hV i hi).2.2)
      rw [List.length_flatten, List.map_map, List.map_map]
      refine Nat.le_trans (Nat.le_of_eq ?_) hb
      congr 1
      apply List.map_congr_left
      intro i hi
      exact (hV i (List.mem_range.1 hi)).2.1.1
theorem two_fieldsU {H : Type} {enc : TypeId × Value → H} {P : Program} {w : World} {spare : Nat → Bool} {held : Bool} {t : TypeId} {g0 g1 : Field} {cs : List Value} {fuel : Nat} {x : DataW H × List MemPlace}
    (hg : P.underlying t = some (.struct #[g0, g1])) (hgone : Go.Deep.oneCellFields P #[g0, g1] = true) (hC : P.cellsOf t = 2) (hf : DataW.trod enc P w 0 spare held fuel t cs = some x) :
    ∃ c0 c1 n y0 y1, cs = [c0, c1] ∧ DataW.trod enc P w 0 spare held n g0.type [c0] = some y0 ∧ DataW.trod enc P w 0 spare held n g1.type [c1] = some y1 ∧ x.1 = .agg [y0.1, y1.1] := by
  obtain ⟨xs, n, _, hxx, hsz, hlen, hgg⟩ := DataW.trod_struct hg hf
  match cs, hsz.trans hC, xs, hlen, hxx, hgg with
  | [c0, c1], _, [z0, z1], _, hxx, hgg =>
    have at_ : ∀ (j : Nat) (f : Field) (c : Value), #[g0, g1][j]? = some f → [c0, c1][j]? = some c → DataW.trod enc P w 0 spare held n f.type [c] = [z0, z1][j]? := by
      intro j f c hj hc
      obtain ⟨o, q⟩ := Go.Deep.hone_of hgone j f hj
      have hgj := hgg j f hj
      rw [o, q] at hgj
      have hd : ([c0, c1].drop j).take 1 = [c] := by
        have hjl : j < [c0, c1].length := (List.getElem?_eq_some_iff.1 hc).1
        rw [List.drop_eq_getElem_cons hjl]
        have := (List.getElem?_eq_some_iff.1 hc).2
        simp [this]
      rw [hd] at hgj
      exact hgj
    exact ⟨c0, c1, n, z0, z1, rfl, at_ 0 g0 c0 rfl rfl, at_ 1 g1 c1 rfl rfl, by rw [hxx]; rfl⟩
theorem open_writesU {H : Type} {enc : TypeId × Value → H} {P : Program} {w : World} {spare : Nat → Bool} {held : Bool} {t e u : TypeId} {f0 f1 : Field} (ht : P.underlying t = some (.slice e))
    (hs : P.underlying e = some (.struct #[f0, f1])) (hone : Go.Deep.oneCellFields P #[f0, f1] = true) (hC : P.cellsOf e = 2)
    (u0 : P.underlying f0.type = some (.int .i64)) (u1 : P.underlying f1.type = some (.slice u)) (hu : P.underlying u = some (.int .u8)) (hcu : P.cellsOf u = 1)
    {A : Option Addr} {n c : Nat} {fuel : Nat} {x : DataW H × List MemPlace} (hf : DataW.trod enc P w 0 spare held fuel t [.slice A n c] = some x) :
    ∃ l : List Wt, l.length = n ∧ Rd w w.heap.size 2 A n (wcs l) ∧ n ≤ c ∧ c ≤ maxLen ∧ (∀ x ∈ l, x.s.came w ∧ I64 x.a) ∧ ∀ y ∈ l, y.s.n ≤ Rows.uptoBulk x.1 := by
  rcases Go.Deep.open_slice ht hf with ⟨hcs, rfl⟩ | ⟨a, len, cap, m, k, D, Pl, hcs, _, hl, hm, hmm, rfl, hx⟩
  · simp at hcs
    obtain ⟨rfl, rfl, rfl⟩ := hcs
    exact ⟨[], rfl, Rd.nil_, Nat.le_refl _, Nat.zero_le _, fun p hp => (by cases hp), fun p hp => (by cases hp)⟩
  · simp at hcs
    obtain ⟨rfl, rfl, rfl⟩ := hcs
    have hnm : n ≤ m := by rw [hmm]; split <;> omega
    rw [hC] at hx
    haveI : Inhabited Wt := ⟨⟨0, ⟨none, 0, 0, []⟩⟩⟩
    obtain ⟨V, hV⟩ := Go.Deep.choose_lt (α := Wt) (n := n) (p := fun i q => (∀ j u, q.cs[j]? = some u → w.cell? ((a.add (i * 2)).add j) = some u) ∧ (q.s.came w ∧ I64 q.a) ∧ q.s.n ≤ Rows.uptoBulk (D i)) (fun i hi => by
      obtain ⟨cs', h1, h2⟩ := hx i (by omega)
      obtain ⟨c0, c1, n', y0, y1, rfl, h3, h4, h5⟩ := two_fieldsU hs hone hC h2
      obtain ⟨z, hz, _, hw⟩ := DataW.trod_int u0 h3
      simp only [List.cons.injEq, and_true] at hz
      subst hz
      obtain ⟨A', m', k', rfl⟩ := open_sl u1 h4
      obtain ⟨bs, hl', hR, hnc, hcm⟩ := open_bytes u1 hu hcu (d := y1.1) (p := y1.2) ⟨_, h4⟩
      obtain ⟨_, hlen, hc⟩ := World.cells?_some h1
      have hbk := bulk_bytes u1 hcu h4
      exact ⟨⟨z, ⟨A', m', k', bs⟩⟩, fun j u hu => by
        have hj : j < 2 := (List.getElem?_eq_some_iff.1 hu).1
        rw [hc j hj]
        exact hu, ⟨⟨hl', hR, hnc, hcm⟩, Go.bounds_i64 hw⟩, by
          simp only at h5
          rw [h5]
          simp only [Rows.uptoBulk, Rows.uptoBulkAll]
          omega⟩)
    refine ⟨(List.range n).map V, by simp, ⟨by simp [wcs_len], fun hn => ?_⟩, hl, hm, fun p hp => ?_, fun p hp => ?_⟩
    · have h0 := (hV 0 hn).1 0 _ rfl
      have hspot : a.spot = none := by
        have := World.cell?_spot h0
        simpa [Addr.add] using this
      obtain ⟨b, off, spot⟩ := a
      simp only at hspot
      subst hspot
      refine ⟨b, off, rfl, ?_, fun i u hu => ?_⟩
      · rw [add_lit, add_lit] at h0
        exact World.block_lt_of_cell? w _ h0
      · obtain ⟨k', j, hk', hj, rfl, hu'⟩ := wcs_get_of _ hu
        simp only [List.getElem_map, List.getElem_range] at hu'
        have := (hV k' (by simpa using hk')).1 j u hu'
        rwa [add_lit, add_lit, Nat.add_assoc] at this
    · obtain ⟨i, hi, rfl⟩ := List.mem_map.1 hp
      exact (hV i (List.mem_range.1 hi)).2.1
    · obtain ⟨i, hi, rfl⟩ := List.mem_map.1 hp
      have h1 := (hV i (List.mem_range.1 hi)).2.2
      have h2 := bulk_slice n m D ((List.range (m - n)).map fun j => D (n + j)) (fun i => (V i).s.n) (fun i hi => (hV i hi).2.2)
      have h3 : (V i).s.n ≤ ((List.range n).map fun i => (V i).s.n).sum := le_sum (List.mem_map_of_mem hi)
      exact Nat.le_trans h3 h2
theorem mem_flat {L : List Sl} {s : Sl} (h : s ∈ L) : s.l.length ≤ (L.map Sl.l).flatten.length := by
  rw [List.length_flatten]
  exact le_sum (List.mem_map_of_mem (List.mem_map_of_mem h))
/-- A disk of small bulk. -/
theorem open_diskU {H : Type} {enc : TypeId × Value → H} {P : Program} {w : World} {spare : Nat → Bool} {held : Bool} {r : Reach} {b0 : Nat} {t e e2 u : TypeId} {g0 g1 f0 f1 : Field} {v : Value} {d : DataW H} {p : List MemPlace}
    (hg : P.underlying t = some (.struct #[g0, g1])) (hgone : Go.Deep.oneCellFields P #[g0, g1] = true) (hgC : P.cellsOf t = 2)
    (v0 : P.underlying g0.type = some (.slice e)) (he : P.underlying e = some (.slice u)) (hce : P.cellsOf e = 1)
    (v1 : P.underlying g1.type = some (.slice e2)) (hs : P.underlying e2 = some (.struct #[f0, f1])) (hone : Go.Deep.oneCellFields P #[f0, f1] = true) (hC : P.cellsOf e2 = 2)
    (u0 : P.underlying f0.type = some (.int .i64)) (u1 : P.underlying f1.type = some (.slice u)) (hu : P.underlying u = some (.int .u8)) (hcu : P.cellsOf u = 1)
    (hv : Value.okWide P w r b0 t v) (h : DataW.Trod enc P w 0 spare held t v d p) : ∃ k : Dk, v = k.v ∧ k.ok w ∧ (Rows.uptoBulk d ≤ 1048576 → Small k) := by
  obtain ⟨cs, rfl, hsz⟩ := Go.WideShapes.okWide_struct hg hv
  obtain ⟨l⟩ := cs
  obtain ⟨fuel, hf⟩ := h
  obtain ⟨c0, c1, n, y0, y1, e0, h0, h1, h5⟩ := two_fieldsU hg hgone hgC hf
  obtain ⟨A, nB, cB, rfl⟩ := open_sl v0 h0
  obtain ⟨W, nW, cW, rfl⟩ := open_sl v1 h1
  simp only [Value.cells] at e0
  subst e0
  obtain ⟨bs, hl, hR, hnc, hcm, hcame, hfl⟩ := open_bssU v0 he hce hu hcu h0
  obtain ⟨ws, hl', hR', hnc', hcm', hcame', hwn⟩ := open_writesU v1 hs hone hC u0 u1 hu hcu h1
  refine ⟨⟨A, nB, cB, bs, W, nW, cW, ws⟩, rfl, ⟨hl, hR, hcame, hl', hR', hcame', ⟨hnc, hcm⟩, ⟨hnc', hcm'⟩⟩, fun hbk => ?_⟩
  simp only at h5
  rw [h5] at hbk
  simp only [Rows.uptoBulk, Rows.uptoBulkAll] at hbk
  refine ⟨fun s hs => ?_, ?_, fun x hx => ?_⟩
  · have h6 := mem_flat hs
    have h7 := (hcame s hs).1
    simp only at h6
    omega
  · show (((bs.map Sl.l).flatten.length : Nat) : Int) ≤ _
    omega
  · have := hwn x hx
    omega
end Go.Proofs.Ytkaklppkmokffaa
