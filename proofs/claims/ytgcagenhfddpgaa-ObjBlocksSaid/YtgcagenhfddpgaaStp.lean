/-
  One step of a region that draws its order, as a structure: elaboration does not open it.
-/
import Derived.Test.YtgcagenhfddpgaaArr
import Derived.Deep.RegionHeld
namespace Go.Proofs.Ytgcagenhfddpgaa
open Go.RowKit
set_option linter.unusedVariables false
set_option linter.unusedSimpArgs false

structure Stp (P : Program) (ops : Array Oper) (o : Oper) (a : Act) (w : World) (K : Act → World → Prop) (Q : Exit → Act → World → Prop) (E : Prop) : Prop where
  out : if Region.wanted o (yielded ops a.tmps) = true then Oper.wp P o a w K Q else E

section
variable {P : Program} {md : Region.Mode} {ops : Array Oper} {Q : Exit → Act → World → Prop}
theorem all_cons {fuel : Nat} {listed : Array Bool} {a : Act} {w : World} {i : Nat} {o : Oper} {rs : List Nat} (ho : ops[i]? = some o)
    (h : ∀ K' : Act → World → Prop, (∀ a w, wpAny P md ops Q fuel (listed.setIfInBounds i true) a w → K' a w) → Stp P ops o a w K' Q (K' (a.put o.dst undef) w))
    (hs : AllReady P md ops Q fuel listed a w rs) : AllReady P md ops Q fuel listed a w (i :: rs) :=
  AllReady.cons ho (fun K hK => (h K hK).out) hs
theorem all_consH {S : World → Prop} {fuel : Nat} {listed : Array Bool} {a : Act} {w : World} {i : Nat} {o : Oper} {rs : List Nat} (ho : ops[i]? = some o)
    (h : ∀ K' : Act → World → Prop, Shut (∀ a w, S w → (S w → wpAnyH P md ops Q S fuel (listed.setIfInBounds i true) a w) → K' a w) → Stp P ops o a w K' Q (K' (a.put o.dst undef) w))
    (hs : AllReadyH P md ops Q S fuel listed a w rs) : AllReadyH P md ops Q S fuel listed a w (i :: rs) :=
  AllReadyH.cons ho (fun K hK => (h K hK).out) hs

variable {o : Oper} {a : Act} {w : World} {K : Act → World → Prop} {E : Prop}
theorem stp_load_cell (hgd : o.guard = none) (ty : TypeId) (x : Operand) (ho : o.op = .load ty x)
    {k : IntKind} (hu : P.underlying ty = some (.int k)) (p : Addr) (hx : a.eval x = .pointer (some p)) (v : Value) (hc : w.cell? p = some v)
    (hK : K (a.put o.dst v) w) : Stp P ops o a w K Q E := by
  have hw : Region.wanted o (yielded ops a.tmps) = true := by simp [Region.wanted, hgd]
  refine ⟨?_⟩
  rw [if_pos hw]
  have hagg : (isAgg ty).run P w = .ok false w := by
    unfold isAgg
    rw [Sem.run_bind, run_underlying hu w]
    rfl
  have hl : (loadVar ty p).run P w = .ok v w := by simp [loadVar, Sem.run_bind, hagg, hc]
  unfold Oper.wp execOp
  simp only [ho, hx, Instr.loadAt, Instr.sureAddr, Sem.run_bind, Sem.run_pure, Result.andThen_ok, hl]
  exact hK
theorem stp_load_arr (hgd : o.guard = none) (ty : TypeId) (x : Operand) (ho : o.op = .load ty x)
    (b off : Nat) (hx : a.eval x = .pointer (some ⟨b, off, none⟩)) (cs : List Value) (d : TypeDesc) (hc : w.rangeAt b off cs)
    (hu : P.underlying ty = some d) (hd : d.isRow = true) (hi : (P.info? ty).map (·.size) = some cs.length)
    (hK : K (a.put o.dst (.agg cs.toArray)) w) : Stp P ops o a w K Q E :=
  ⟨step_load_arr hgd ty x ho b off hx cs d hc hu hd hi hK⟩
theorem stp_load_box (hgd : o.guard = none) (ty : TypeId) (x : Operand) (ho : o.op = .load ty x)
    (g : Nat) (cs : List Value) (t : TypeId) (fz : Nat × Nat) (hx : a.eval x = .pointer (some ⟨g, 0, none⟩)) (d : TypeDesc) (hc : w.heap[g]? = some (.cells cs.toArray t fz))
    (hu : P.underlying ty = some d) (hd : d.isRow = true) (hi : (P.info? ty).map (·.size) = some cs.length)
    (hK : K (a.put o.dst (.agg cs.toArray)) w) : Stp P ops o a w K Q E := by
  refine stp_load_arr hgd ty x ho g 0 hx cs d ?_ hu hd hi hK
  intro j v hv
  rw [cell_of_row w g (0 + j) _ t fz hc]
  simpa using hv
theorem stp_store_row (hgd : o.guard = none) (ty : TypeId) (x y : Operand) (ho : o.op = .store ty x y)
    (g : Nat) (t : TypeId) (c : Array Value) (hg : w.heap[g]? = some (.cells c t (0, 0))) (l : List UInt8) (hx : a.eval x = .pointer (some ⟨g, 0, none⟩)) (hy : a.eval y = .agg (bvs l).toArray)
    (hi : (P.info? ty).map (·.size) = some l.length) (hs : c.size = l.length)
    (hK : ∀ w', Hid (w'.heap[g]? = some (.cells (bvs l).toArray t (0, 0))) → Hid (w.grownBy w' (some g)) → w'.heap.size = w.heap.size → K (a.put o.dst undef) w') : Stp P ops o a w K Q E :=
  ⟨step_store_row hgd ty x y ho g t c hg l hx hy hi hs hK⟩
theorem stp_append_to {t e : TypeId} {sz bys : Nat} {z : Value} (hgd : o.guard = none) (s x : Operand)
    (ho : o.op = .call { callee := .builtin .append, args := #[s, x], argTypes := #[t, t] }) (ok : ElemOk P t e sz bys z)
    {base B : Nat} {A A' : Option Addr} {n c m c' : Nat} {xs ys : List Value} (hs : a.eval s = .slice A n c) (hfr : Fr w base e sz A n c xs) (hx : a.eval x = .slice A' m c') (hrd : Rd w B sz A' m ys) (h1 : ∀ u ∈ ys, u.oneCell' = true)
    (nm : Nat) (hnm : n + m = nm) (zs : List Value) (hzs : xs ++ ys = zs) (h63 : nm ≤ maxLen) (hb : nm * bys ≤ 140737488355328) (hbase : base ≤ w.heap.size)
    (hK : ∀ D d w', Hid (Fr w' base e sz D nm d zs) → Hid (w.grownBy w' (rowOf A c)) → K (a.put o.dst (.slice D nm d)) w') : Stp P ops o a w K Q E := by
  have hw : Region.wanted o (yielded ops a.tmps) = true := by simp [Region.wanted, hgd]
  refine ⟨?_⟩
  rw [if_pos hw]
  subst hnm hzs
  obtain ⟨D, d, w', hr, h2, h3, h4⟩ := run_append_fr ok o.type hfr hrd h1 h63 hb hbase
  unfold Oper.wp
  rw [exec_append ho hs hx hr]
  exact hK D d w' (Lib.hid h2) (Lib.hid h3)
theorem stp_append_full {t e : TypeId} {sz bys : Nat} {z : Value} (hgd : o.guard = none) (s x : Operand)
    (ho : o.op = .call { callee := .builtin .append, args := #[s, x], argTypes := #[t, t] }) (ok : ElemOk P t e sz bys z)
    {B B' : Nat} {A A' : Option Addr} {n c m c' : Nat} {xs ys : List Value} (hs : a.eval s = .slice A n c) (hxs : Rd w B sz A n xs) (hx : a.eval x = .slice A' m c') (hrd : Rd w B' sz A' m ys)
    (hg : c < n + m) (nm : Nat) (hnm : n + m = nm) (h63 : nm ≤ maxLen) (hb : nm * bys ≤ 140737488355328) (zs : List Value) (hzs : xs ++ ys = zs)
    (hK : ∀ D d w', Hid (Fr w' w.heap.size e sz D nm d zs) → Hid (Below w.heap.size w w') → w.heap.size < w'.heap.size → K (a.put o.dst (.slice D nm d)) w') : Stp P ops o a w K Q E := by
  subst hnm hzs
  have hw : Region.wanted o (yielded ops a.tmps) = true := by simp [Region.wanted, hgd]
  refine ⟨?_⟩
  rw [if_pos hw]
  have hr := run_append_more (w := w) (c' := c') ok o.type hxs hrd hg h63 hb
  unfold Oper.wp
  rw [exec_append ho hs hx hr]
  refine hK _ _ _ (fr_more ok hxs.1 hrd.1 h63 (Nat.le_refl _)) ?_ (by simp)
  exact ((Below.refl _ w).drew).alloc (Nat.le_refl _) _
end
end Go.Proofs.Ytgcagenhfddpgaa
