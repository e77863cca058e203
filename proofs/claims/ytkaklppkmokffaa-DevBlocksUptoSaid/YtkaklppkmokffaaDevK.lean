/-
  Contract of dev.Tamper.
-/
import Derived.Test.YtkaklppkmokffaaDevJ
namespace Go.Proofs.Ytkaklppkmokffaa
open Go.RowKit
set_option linter.unusedVariables false
set_option linter.unusedSimpArgs false
set_option maxRecDepth 100000

/-- A byte turned. -/
def turnB (l : List UInt8) (b : Nat) (v : UInt8) : List UInt8 := l.set b (l.getD b 0 ^^^ v)
theorem turnB_len (l : List UInt8) (b : Nat) (v : UInt8) : (turnB l b v).length = l.length := by simp [turnB]
def Ct.tamper (c : Ct) (a b : Nat) (v : UInt8) : Ct := ⟨c.b.set a (turnB (c.b.getD a []) b v), c.w⟩
theorem offL_set {ls : List (List UInt8)} {a : Nat} {m : List UInt8} (ha : a < ls.length) (hm : m.length = (ls[a]).length) (k : Nat) : offL (ls.set a m) k = offL ls k := by
  unfold offL
  rw [List.length_flatten, List.length_flatten]
  congr 1
  apply List.ext_getElem
  · simp
  · intro j h1 h2
    simp only [List.getElem_map, List.getElem_take, List.getElem_set]
    split
    · rename_i h
      subst h
      exact hm
    · rfl
theorem flatten_set {ls : List (List UInt8)} {a b : Nat} (ha : a < ls.length) (hb : b < (ls[a]).length) (v : UInt8) : (ls.set a ((ls[a]).set b v)).flatten = ls.flatten.set (offL ls a + b) v := by
  have e : ls.flatten = (ls.take a).flatten ++ (ls[a] ++ (ls.drop (a + 1)).flatten) := by
    have h1 := congrArg List.flatten (List.take_append_drop a ls)
    rw [List.flatten_append, List.drop_eq_getElem_cons ha, List.flatten_cons] at h1
    exact h1.symm
  rw [List.set_eq_take_append_cons_drop, if_pos ha, List.flatten_append, List.flatten_cons, e, offL, List.set_append_right _ _ (by omega), Nat.add_sub_cancel_left, List.set_append_left _ _ hb]
def turnS (ps : List Sl) (a b : Nat) (v : UInt8) : List Sl := (List.range ps.length).map fun k => if k = a then ⟨(ps.getD k ⟨none, 0, 0, []⟩).A, (ps.getD k ⟨none, 0, 0, []⟩).n, (ps.getD k ⟨none, 0, 0, []⟩).c, turnB (ps.getD k ⟨none, 0, 0, []⟩).l b v⟩ else ps.getD k ⟨none, 0, 0, []⟩
theorem turnS_len (ps : List Sl) (a b : Nat) (v : UInt8) : (turnS ps a b v).length = ps.length := by simp [turnS]
theorem turnS_v (ps : List Sl) (a b : Nat) (v : UInt8) : (turnS ps a b v).map Sl.v = ps.map Sl.v := by
  apply List.ext_getElem
  · simp [turnS]
  · intro k h1 h2
    have hk : k < ps.length := by simpa using h2
    simp only [turnS, List.getElem_map, List.getElem_range, List.getD_eq_getElem?_getD, List.getElem?_eq_getElem hk, Option.getD_some]
    split <;> rfl
theorem turnS_l (ps : List Sl) (a b : Nat) (v : UInt8) : (turnS ps a b v).map Sl.l = (ps.map Sl.l).set a (turnB ((ps.map Sl.l).getD a []) b v) := by
  apply List.ext_getElem
  · simp [turnS]
  · intro k h1 h2
    have hk : k < ps.length := by simpa using h2
    simp only [turnS, List.getElem_map, List.getElem_range, List.getD_eq_getElem?_getD, List.getElem?_eq_getElem hk, Option.getD_some, List.getElem_set]
    by_cases e : k = a
    · subst e
      simp [List.getElem?_eq_getElem hk]
    · rw [if_neg e, if_neg (Ne.symm e)]
theorem Laid.turn {g : Nat} {ls : List (List UInt8)} {ps : List Sl} (h : Laid g ls ls.length ps) {a : Nat} (ha : a < ls.length) (b : Nat) (v : UInt8) : Laid g (ls.set a (turnB ls[a] b v)) ls.length (turnS ps a b v) := by
  refine ⟨by rw [turnS_len]; exact h.1, fun j hj p hp => ?_⟩
  have hjl : j < ls.length := by simpa using hj
  have hjp : j < ps.length := by rw [h.1]; exact hjl
  obtain ⟨h1, h2, h3, h4⟩ := h.2 j hjl ps[j] (List.getElem?_eq_getElem hjp)
  have hp2 : p = if j = a then ⟨(ps[j]).A, (ps[j]).n, (ps[j]).c, turnB (ps[j]).l b v⟩ else ps[j] := by
    simp only [turnS, List.getElem?_map, List.getElem?_range hjp, Option.map_some, Option.some.injEq, List.getD_eq_getElem?_getD, List.getElem?_eq_getElem hjp, Option.getD_some] at hp
    exact hp.symm
  rw [offL_set ha (turnB_len _ _ _)]
  simp only [List.getElem_set]
  by_cases e : j = a
  · subst e
    rw [if_pos rfl] at hp2
    subst hp2
    rw [if_pos rfl]
    exact ⟨by rw [turnB_len]; exact h1, by rw [turnB_len]; exact h2, by show turnB _ _ _ = _; rw [h3], h4⟩
  · rw [if_neg e] at hp2
    subst hp2
    rw [if_neg (Ne.symm e)]
    exact ⟨h1, h2, h3, h4⟩
theorem own_came_ne {s : Sl} {base : Nat} {w w' : World} {row : Option Nat} (h : s.came w) (o : Own w base s) (hg : w.grownBy w' row) (hne : 0 < s.n → ∀ a, s.A = some a → some a.block ≠ row) : s.came w' ∧ Own w' base s := by
  refine ⟨h.grown hg hne, fun hn => ?_⟩
  obtain ⟨g, off, cur, fz, h1, h2, h3, h4⟩ := o hn
  exact ⟨g, off, cur, fz, h1, h2, (hg.block g (Array.getElem?_eq_some_iff.1 h3).1 (hne hn _ h1)).trans h3, h4⟩
/-- What is needed to turn a byte of a disk of the call's own, and what comes of it. -/
theorem Tw.turn {c : Ct} {base : Nat} {d : Dk} {w : World} (h : Tw c base d w) (hm : c.May) {a b : Nat} (ha : a < 256) (hb : b < 256) (v : UInt8) :
    ∃ (gA g off k : Nat) (x : UInt8), d.A = some ⟨gA, 0, none⟩ ∧ gA < w.heap.size ∧ g < w.heap.size ∧ d.nB = 256 ∧ w.cell? ⟨gA, a, none⟩ = some (.slice (some ⟨g, off, none⟩) 256 k) ∧ w.cell? ⟨g, off + b, none⟩ = some (.int .u8 (x.toNat : Int)) ∧ w.frozen? ⟨g, off + b, none⟩ = false ∧ base ≤ g ∧
      Nw (c.tamper a b v) base ⟨d.A, d.nB, d.cB, turnS d.bs a b v, d.W, d.nW, d.cW, d.ws⟩ (w.setCell ⟨g, off + b, none⟩ (.int .u8 ((x ^^^ v).toNat : Int))) := by
  obtain ⟨hok, hcc, hfb, hfw, hob, how, g, hg, hl, hh, hne⟩ := h
  have hlen := hm.1
  have hnB : d.nB = c.b.length := by
    rw [← hcc, Dk.c_b, List.length_map, hok.lb]
  have ha' : a < c.b.length := by omega
  have hn256 : d.nB = 256 := by omega
  have hba : (c.b[a]).length = 256 := hm.2.1 _ (List.getElem_mem ha')
  have hl' := hl
  rw [hnB] at hl'
  have hbs : a < d.bs.length := by rw [hok.lb]; omega
  have hcB : 0 < d.cB := by have := hfb.nc; omega
  obtain ⟨gA, hA, hgA, hgAl⟩ := hfb.form hcB
  have hfb' := hfb
  rw [hA] at hfb'
  obtain ⟨u, hu, huc⟩ := hfb'.cell (i := a) (by omega)
  obtain ⟨h1, h2, h3, h4⟩ := hl'.2 a ha' d.bs[a] (List.getElem?_eq_getElem hbs)
  have h4' := h4 (by omega)
  have hu2 : u = .slice (some ⟨g, offL c.b a, none⟩) 256 (d.bs[a]).c := by
    rw [List.getElem?_map, List.getElem?_eq_getElem hbs] at hu
    have := Option.some.inj hu
    rw [← this, Sl.v, h4', h1, hba]
  have hfl := flat_at ha' (i := b) (by omega)
  have hbb : b < (c.b[a]).length := by omega
  rw [List.getElem?_eq_getElem hbb] at hfl
  have hcell : w.cell? ⟨g, offL c.b a + b, none⟩ = some (.int .u8 (((c.b[a])[b]).toNat : Int)) := by
    rw [cell_of_row w g _ _ _ _ hh]
    simp only [List.getElem?_toArray, bvs_get, hfl]
    rfl
  have hfz : w.frozen? ⟨g, offL c.b a + b, none⟩ = false := by simp [World.frozen?, hh]
  refine ⟨gA, g, offL c.b a, (d.bs[a]).c, (c.b[a])[b], hA, hgAl, (Array.getElem?_eq_some_iff.1 hh).1, hn256, by rw [huc, hu2], hcell, hfz, hg, ?_⟩
  have hset : (w.setCell ⟨g, offL c.b a + b, none⟩ (.int .u8 (((c.b[a])[b] ^^^ v).toNat : Int))).heap[g]? = some (.cells (bvs (c.b.set a (turnB c.b[a] b v)).flatten).toArray 5 (0, 0)) := by
    rw [setCell_eq_setRow w g _ _ _ _ _ hh, setRow_heap w g _ _ _ _ hh]
    congr 2
    rw [turnB, List.getD_eq_getElem?_getD, List.getElem?_eq_getElem hbb, Option.getD_some, flatten_set ha' hbb]
    apply Array.ext'
    simp [bvs, bv, List.map_set]
  have hgr := grown_setCell w ⟨g, offL c.b a + b, none⟩ (.int .u8 (((c.b[a])[b] ^^^ v).toNat : Int))
  have hother : ∀ j, rowOf d.A d.cB = some j → j ≠ g := by
    intro j hj e
    obtain ⟨cur, fz, hc⟩ := hfb.cells_ j hj
    rw [e, hh] at hc
    cases hc
  have hother2 : ∀ j, rowOf d.W d.cW = some j → j ≠ g := by
    intro j hj e
    obtain ⟨cur, fz, hc⟩ := hfw.cells_ j hj
    rw [e, hh] at hc
    cases hc
  have hlt := hl'.turn ha' b v
  have hgetD : c.b.getD a [] = c.b[a] := by rw [List.getD_eq_getElem?_getD, List.getElem?_eq_getElem ha', Option.getD_some]
  have hfb2 := hfb.setCell (p := ⟨g, offL c.b a + b, none⟩) (fun e => hother _ e rfl) (.int .u8 (((c.b[a])[b] ^^^ v).toNat : Int))
  have hfw2 := hfw.setCell (p := ⟨g, offL c.b a + b, none⟩) (fun e => hother2 _ e rfl) (.int .u8 (((c.b[a])[b] ^^^ v).toNat : Int))
  have hws := fun x hx => own_came_ne (hok.sw x hx).1 (how x hx) hgr (fun hn a' ha2 e => hne x hx hn a' ha2 (by injection e))
  have hltl : (c.b.set a (turnB c.b[a] b v)).length = c.b.length := by simp
  rw [← hltl] at hlt
  have htot : (c.b.set a (turnB c.b[a] b v)).flatten.length ≤ maxLen := by
    have h5 := flatten_le (l := c.b.set a (turnB c.b[a] b v)) (m := 256) (fun x hx => by
      obtain ⟨j, hj, rfl⟩ := List.mem_iff_getElem.1 hx
      rw [List.getElem_set]
      split
      · rw [turnB_len]; omega
      · exact Nat.le_of_eq (hm.2.1 _ (List.getElem_mem _)))
    rw [hltl, hlen] at h5
    unfold maxLen
    omega
  refine ⟨⟨by show (turnS _ _ _ _).length = _; rw [turnS_len]; exact hok.lb, by show Rd _ _ _ _ _ ((turnS _ _ _ _).map Sl.v); rw [turnS_v]; exact hfb2.rd, hlt.came hset htot, hok.lw, hfw2.rd, fun x hx => ⟨(hws x hx).1, (hok.sw x hx).2⟩, hok.cb, hok.cw⟩, ?_, by show Fr _ _ _ _ _ _ _ ((turnS _ _ _ _).map Sl.v); rw [turnS_v]; exact hfb2, hfw2, hlt.own hg hset (by simp [bvs_len]), fun x hx => (hws x hx).2⟩
  have hcb : d.bs.map Sl.l = c.b := by rw [← hcc]; rfl
  have hcw : d.ws.map Wt.c = c.w := by rw [← hcc]; rfl
  simp only [Dk.c, Ct.tamper, turnS_l, hcb, hcw]
end Go.Proofs.Ytkaklppkmokffaa
