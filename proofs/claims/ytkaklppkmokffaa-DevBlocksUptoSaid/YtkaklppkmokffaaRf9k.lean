/-
  A byte turned in a disk of the call's own, of which no two slices share a block (plain law for charterhouseref09.Tamper).
-/
import Derived.Test.YtkaklppkmokffaaRf9j
import Derived.Test.YtkaklppkmokffaaDevK
namespace Go.Proofs.Ytkaklppkmokffaa
open Go.RowKit
set_option linter.unusedVariables false
set_option linter.unusedSimpArgs false
set_option maxRecDepth 100000

/-- The slice with the byte turned, behind the store. -/
theorem sl_turn {s : Sl} {base : Nat} {w : World} (hs : s.came w) (ho : Own w base s) {b : Nat} (hb : b < s.n) (v : UInt8) :
    ∃ (g off : Nat) (x : UInt8), s.A = some ⟨g, off, none⟩ ∧ base ≤ g ∧ (∃ cur fz, w.heap[g]? = some (.cells cur 5 fz)) ∧ w.cell? ⟨g, off + b, none⟩ = some (.int .u8 (x.toNat : Int)) ∧ w.frozen? ⟨g, off + b, none⟩ = false ∧
      Sl.came ⟨s.A, s.n, s.c, turnB s.l b v⟩ (w.setCell ⟨g, off + b, none⟩ (.int .u8 ((x ^^^ v).toNat : Int))) ∧ Own (w.setCell ⟨g, off + b, none⟩ (.int .u8 ((x ^^^ v).toNat : Int))) base ⟨s.A, s.n, s.c, turnB s.l b v⟩ := by
  obtain ⟨h1, h2, h3⟩ := hs
  obtain ⟨g, off, cur, fz, hA, hg, hh, hf, hsz⟩ := ho (by omega)
  obtain ⟨g', off', hA', hlt, hc⟩ := h2.2 (by omega)
  rw [hA] at hA'
  cases hA'
  have hbl : b < s.l.length := by omega
  have hcb := hc b _ (by rw [bvs_get, List.getElem?_eq_getElem hbl]; rfl)
  have hfr : w.frozen? ⟨g, off + b, none⟩ = false := by
    have := hf (off + b) (by omega)
    obtain ⟨lo, hi⟩ := fz
    simp only [World.frozen?, hh]
    exact this
  have hset : (w.setCell ⟨g, off + b, none⟩ (.int .u8 (((s.l[b]) ^^^ v).toNat : Int))).heap[g]? = some (.cells (cur.setIfInBounds (off + b) (.int .u8 (((s.l[b]) ^^^ v).toNat : Int))) 5 fz) := by
    rw [setCell_eq_setRow w g _ cur _ fz _ hh]
    exact setRow_heap w g _ _ _ _ hh
  refine ⟨g, off, s.l[b], hA, hg, ⟨_, _, hh⟩, hcb, hfr, ⟨?_, ⟨?_, fun _ => ⟨g, off, hA, ?_, fun j u hu => ?_⟩⟩, h3⟩, fun _ => ⟨g, off, _, fz, hA, hg, hset, by simpa using hf, by simpa using hsz⟩⟩
  · show (turnB _ _ _).length = _
    rw [turnB_len]
    exact h1
  · show (bvs (turnB _ _ _)).length = _
    rw [bvs_len, turnB_len, h1, Nat.mul_one]
  · have := (Array.getElem?_eq_some_iff.1 hset).1
    exact this
  · change (bvs (turnB s.l b v))[j]? = some u at hu
    rw [bvs_get, turnB, List.getElem?_set] at hu
    by_cases e : b = j
    · subst e
      rw [if_pos rfl, if_pos hbl, List.getD_eq_getElem?_getD, List.getElem?_eq_getElem hbl] at hu
      cases hu
      exact World.cell?_setCell_same _ _ _ hcb
    · rw [if_neg e] at hu
      rw [World.cell?_setCell_other _ _ _ _ (by intro q; injection q with q1 q2; omega)]
      exact hc j u (by rw [bvs_get]; exact hu)
theorem Nw.turn {c : Ct} {base : Nat} {d : Dk} {w : World} (h : Nw c base d w) (hap : Ap d.bs d.ws) (hm : c.May) {a b : Nat} (ha : a < 256) (hb : b < 256) (v : UInt8) :
    ∃ (gA g off k : Nat) (x : UInt8), d.A = some ⟨gA, 0, none⟩ ∧ gA < w.heap.size ∧ g < w.heap.size ∧ d.nB = 256 ∧ w.cell? ⟨gA, a, none⟩ = some (.slice (some ⟨g, off, none⟩) 256 k) ∧ w.cell? ⟨g, off + b, none⟩ = some (.int .u8 (x.toNat : Int)) ∧ w.frozen? ⟨g, off + b, none⟩ = false ∧ base ≤ g ∧
      (∃ cur fz, w.heap[g]? = some (.cells cur 5 fz)) ∧
      Nw (c.tamper a b v) base ⟨d.A, d.nB, d.cB, turnS d.bs a b v, d.W, d.nW, d.cW, d.ws⟩ (w.setCell ⟨g, off + b, none⟩ (.int .u8 ((x ^^^ v).toNat : Int))) := by
  obtain ⟨hok, hcc, hfb, hfw, hob, how⟩ := h
  have hlen := hm.1
  have hnB : d.nB = c.b.length := by rw [← hcc, Dk.c_b, List.length_map, hok.lb]
  have ha' : a < c.b.length := by omega
  have hn256 : d.nB = 256 := by omega
  have hbs : a < d.bs.length := by rw [hok.lb]; omega
  have hcb : d.bs.map Sl.l = c.b := by rw [← hcc]; rfl
  have hcw : d.ws.map Wt.c = c.w := by rw [← hcc]; rfl
  have hcB : 0 < d.cB := by have := hfb.nc; omega
  obtain ⟨gA, hA, hgA, hgAl⟩ := hfb.form hcB
  have hfb' := hfb
  rw [hA] at hfb'
  obtain ⟨u, hu, huc⟩ := hfb'.cell (i := a) (by omega)
  have hsm : d.bs[a] ∈ d.bs := List.getElem_mem hbs
  have hl256 : (d.bs[a]).l.length = 256 := hm.2.1 _ (by rw [← hcb]; exact List.mem_map_of_mem hsm)
  have hn : (d.bs[a]).n = 256 := by rw [← (hok.sb _ hsm).1]; exact hl256
  obtain ⟨g, off, x, hsA, hg, ⟨cur, fz, hh⟩, hcell, hfz, hcm, hown⟩ := sl_turn (hok.sb _ hsm) (hob _ hsm) (by omega : b < (d.bs[a]).n) v
  have hu2 : u = .slice (some ⟨g, off, none⟩) 256 (d.bs[a]).c := by
    rw [List.getElem?_map, List.getElem?_eq_getElem hbs] at hu
    have := Option.some.inj hu
    rw [← this, Sl.v, hsA, hn]
  have hgr := grown_setCell w ⟨g, off + b, none⟩ (.int .u8 ((x ^^^ v).toNat : Int))
  have hother : ∀ j, rowOf d.A d.cB = some j → j ≠ g := by
    intro j hj e
    obtain ⟨cur, fz, hc⟩ := hfb.cells_ j hj
    rw [e, hh] at hc
    cases hc
  have hother2 : ∀ j, rowOf d.W d.cW = some j → j ≠ g := by
    intro j hj e
    obtain ⟨cur, fz, hc⟩ := hfw.cells_ j hj
    rw [e, hh] at hc
    cases hc
  have hfb2 := hfb.setCell (p := ⟨g, off + b, none⟩) (fun e => hother _ e rfl) (.int .u8 ((x ^^^ v).toNat : Int))
  have hfw2 := hfw.setCell (p := ⟨g, off + b, none⟩) (fun e => hother2 _ e rfl) (.int .u8 ((x ^^^ v).toNat : Int))
  have hws := fun x hx => own_came_ne (hok.sw x hx).1 (how x hx) hgr (fun hn2 a' ha2 e => hap.bw _ hsm x hx (by omega) hn2 (by
    rw [hsA, ha2]
    exact e.symm))
  have hbl : ∀ s ∈ turnS d.bs a b v, s.came (w.setCell ⟨g, off + b, none⟩ (.int .u8 ((x ^^^ v).toNat : Int))) ∧ Own (w.setCell ⟨g, off + b, none⟩ (.int .u8 ((x ^^^ v).toNat : Int))) base s := by
    intro s hs
    obtain ⟨j, hj, rfl⟩ := List.mem_iff_getElem.1 hs
    have hjp : j < d.bs.length := by rw [turnS_len] at hj; exact hj
    have hp2 : (turnS d.bs a b v)[j] = if j = a then ⟨(d.bs[j]).A, (d.bs[j]).n, (d.bs[j]).c, turnB (d.bs[j]).l b v⟩ else d.bs[j] := by
      simp only [turnS, List.getElem_map, List.getElem_range, List.getD_eq_getElem?_getD, List.getElem?_eq_getElem hjp, Option.getD_some]
    rw [hp2]
    by_cases e : j = a
    · subst e
      rw [if_pos rfl]
      exact ⟨hcm, hown⟩
    · rw [if_neg e]
      have hjm : d.bs[j] ∈ d.bs := List.getElem_mem hjp
      exact own_came_ne (hok.sb _ hjm) (hob _ hjm) hgr (fun hn2 a' ha2 e2 => hap.bb j a _ _ (List.getElem?_eq_getElem hjp) (List.getElem?_eq_getElem hbs) e hn2 (by omega) (by
        rw [hsA, ha2]
        exact e2))
  refine ⟨gA, g, off, (d.bs[a]).c, x, hA, hgAl, (Array.getElem?_eq_some_iff.1 hh).1, hn256, by rw [huc, hu2], hcell, hfz, hg, ⟨cur, fz, hh⟩, ?_⟩
  refine ⟨⟨by show (turnS _ _ _ _).length = _; rw [turnS_len]; exact hok.lb, by show Rd _ _ _ _ _ ((turnS _ _ _ _).map Sl.v); rw [turnS_v]; exact hfb2.rd, fun s hs => (hbl s hs).1, hok.lw, hfw2.rd, fun x hx => ⟨(hws x hx).1, (hok.sw x hx).2⟩, hok.cb, hok.cw⟩, ?_, ?_, hfw2, fun s hs => (hbl s hs).2, fun x hx => (hws x hx).2⟩
  · simp only [Dk.c, Ct.tamper, turnS_l, hcb, hcw]
  · show Fr _ _ _ _ _ _ _ ((turnS _ _ _ _).map Sl.v)
    rw [turnS_v]
    exact hfb2
end Go.Proofs.Ytkaklppkmokffaa
