/-
  Whole arrays of bytes: read out of a slice, stored into a new box, compared.
-/
import Derived.Test.YtgcagenhfddpgaaCode
import Derived.Deep.MidRow
import Derived.Deep.WholeRow
import Derived.ChangeKeysEq
namespace Go.Proofs.Ytgcagenhfddpgaa
open Go.RowKit
set_option linter.unusedVariables false
set_option linter.unusedSimpArgs false
set_option maxRecDepth 100000

theorem Rd.range {w : World} {B n b o : Nat} {l : List UInt8} (h : Rd w B 1 (some ⟨b, o, none⟩) n (bvs l)) (at_ k : Nat) : w.rangeAt b (o + at_) (bvs ((l.drop at_).take k)) := by
  intro j v hv
  have hj := (List.getElem?_eq_some_iff.1 hv).1
  rw [bvs_len, List.length_take, List.length_drop] at hj
  have hn := h.1
  rw [bvs_len] at hn
  obtain ⟨b', o', e, -, hc⟩ := h.2 (by omega)
  cases e
  have := hc (at_ + j) v (by
    rw [bvs_get] at hv ⊢
    rw [List.getElem?_take_of_lt (by omega), List.getElem?_drop] at hv
    exact hv)
  rw [Nat.add_assoc]
  exact this
theorem wpList_store_new {P : Program} {ops : Array Oper} {rest : List Oper} {op : Oper} {a : Act} {w : World} {Q : Exit → Act → World → Prop} (hgd : op.guard = none) (ty : TypeId) (x y : Operand) (ho : op.op = .store ty x y)
    (c : Array Value) (l : List UInt8) (hx : a.eval x = .pointer (some ⟨w.heap.size, 0, none⟩)) (hy : a.eval y = .agg (bvs l).toArray)
    (hi : (P.info? ty).map (·.size) = some l.length) (hs : c.size = l.length)
    (h : wpList P ops Q rest (a.put op.dst undef) (w.alloc (.cells (bvs l).toArray ty))) : wpList P ops Q (op :: rest) a (w.alloc (.cells c ty)) :=
  wpList_plain hgd fun _ hK => by
    have hst := run_storeVar_new (P := P) w ty c (bvs l).toArray (by simpa [bvs_len] using hi) (by simpa [bvs_len] using hs) (all_oneCell_toArray (bvs_one l))
    unfold Oper.wp execOp
    simp only [ho, hx, hy, Instr.storeAt, Instr.sureAddr, Sem.run_bind, Sem.run_pure, Result.andThen_ok, hst]
    exact hK _ _ h

theorem run_bytes_items {P : Program} {e : TypeId} (hc : P.cellsOf e = 1) (hi : (P.info? e).isSome = true) (hu : P.underlying e = some (.int .u8)) (d : Nat) (w : World) (l m : List UInt8) : ∀ is : List Nat, (∀ i ∈ is, i < l.length ∧ i < m.length) →
    (Op.eqItems (d + 1) e (P.cellsOf e) (bvs l).toArray (bvs m).toArray is).run P w = .ok (is.all fun i => l[i]? == m[i]?) w := by
  intro is
  induction is with
  | nil => intro _; simp [Op.eqItems]
  | cons j is ih =>
    intro h
    obtain ⟨hj1, hj2⟩ := h j (by simp)
    have p1 : (part e (bvs l).toArray (j * P.cellsOf e)).run P w = .ok (bv l[j]) w := by
      obtain ⟨i, hi⟩ := Option.isSome_iff_exists.1 hi
      rw [hc]
      simp [part, bvs, typeInfo, isAgg, run_underlying hu, go_sem, hj1]
    have p2 : (part e (bvs m).toArray (j * P.cellsOf e)).run P w = .ok (bv m[j]) w := by
      rw [hc]
      simp [part, bvs, typeInfo, isAgg, run_underlying hu, go_sem, hj2]
    have p3 : (Op.equalIn (d + 1) e (bv l[j]) (bv m[j])).run P w = .ok (l[j] == m[j]) w := by
      unfold bv
      rw [run_equalIn_int w d _ _ _ _ _ hu]
      congr 1
      rw [Bool.eq_iff_iff]
      simp only [beq_iff_eq]
      exact ⟨fun h => UInt8.toNat_inj.1 (by omega), fun h => by rw [h]⟩
    simp only [Op.eqItems, Sem.run_bind, p1, p2, p3, Result.andThen_ok]
    have e1 := List.getElem?_eq_getElem hj1
    have e2 := List.getElem?_eq_getElem hj2
    by_cases hq : l[j] = m[j]
    · simp only [hq, beq_self_eq_true, Bool.not_true, Bool.false_eq_true, if_false, List.all_cons, e1, e2, Bool.true_and]
      exact ih fun i hi => h i (by simp [hi])
    · have hf : (l[j] == m[j]) = false := by simpa using hq
      simp [hf, e1, e2, hq]
theorem all_range {l m : List UInt8} {n : Nat} (hl : l.length = n) (hm : m.length = n) : ((List.range n).all fun i => l[i]? == m[i]?) = (l == m) := by
  rw [Bool.eq_iff_iff, List.all_eq_true, beq_iff_eq]
  constructor
  · intro h
    apply List.ext_getElem? 
    intro i
    by_cases hi : i < n
    · exact beq_iff_eq.1 (h i (List.mem_range.2 hi))
    · rw [List.getElem?_eq_none (by omega), List.getElem?_eq_none (by omega)]
  · rintro rfl i _
    simp
theorem run_bytes_in {P : Program} {t e : TypeId} {n : Nat} (ht : P.underlying t = some (.array n e)) (hc : P.cellsOf e = 1) (hi : (P.info? e).isSome = true) (hu : P.underlying e = some (.int .u8)) (d : Nat) (w : World) (l m : List UInt8) (hl : l.length = n) (hm : m.length = n) :
    (Op.equalIn (d + 2) t (.agg (bvs l).toArray) (.agg (bvs m).toArray)).run P w = .ok (l == m) w := by
  obtain ⟨i, hi'⟩ := Option.isSome_iff_exists.1 hi
  rw [run_equalIn_array w (d + 1) _ _ ht hi', run_bytes_items hc hi hu d w l m _ (fun i h => by have := List.mem_range.1 h; omega), all_range hl hm]
theorem run_bytes_neq {P : Program} {t e : TypeId} {n : Nat} (ht : P.underlying t = some (.array n e)) (hc : P.cellsOf e = 1) (hi : (P.info? e).isSome = true) (hu : P.underlying e = some (.int .u8)) (w : World) (l m : List UInt8) (hl : l.length = n) (hm : m.length = n) :
    (binOp .neq t (.agg (bvs l).toArray) (.agg (bvs m).toArray)).run P w = .ok (.bool (!(l == m))) w := by
  have := run_bytes_in ht hc hi hu 9998 w l m hl hm
  simp [go_sem, this]
theorem run_bytes_eql {P : Program} {t e : TypeId} {n : Nat} (ht : P.underlying t = some (.array n e)) (hc : P.cellsOf e = 1) (hi : (P.info? e).isSome = true) (hu : P.underlying e = some (.int .u8)) (w : World) (l m : List UInt8) (hl : l.length = n) (hm : m.length = n) :
    (binOp .eql t (.agg (bvs l).toArray) (.agg (bvs m).toArray)).run P w = .ok (.bool (l == m)) w := by
  have := run_bytes_in ht hc hi hu 9998 w l m hl hm
  simp [go_sem, this]
theorem run_arrayAt_slice {P : Program} {t e : TypeId} {n : Nat} (ht : P.underlying t = some (.array n e)) (a : Option Addr) (len cap : Nat) (h : n ≤ len) (w : World) : (Instr.arrayAt t (.slice a len cap)).run P w = .ok (.pointer a) w := by
  have hn : ¬ len < n := by omega
  simp [Instr.arrayAt, run_underlying ht, go_sem, hn]
/-- A whole array out of the middle of a block, at an operation that has a guard. -/
theorem wpList_load_mid_g {P : Program} {ops : Array Oper} {rest : List Oper} {op : Oper} {a : Act} {w : World} {Q : Exit → Act → World → Prop} (hw : Region.wanted op (yielded ops a.tmps) = true) (ty : TypeId) (x : Operand) (ho : op.op = .load ty x)
    (b o : Nat) (hx : a.eval x = .pointer (some ⟨b, o, none⟩)) (cs : List Value) (d : TypeDesc) (hc : w.rangeAt b o cs)
    (hu : P.underlying ty = some d) (hd : d.isRow = true) (hi : (P.info? ty).map (·.size) = some cs.length)
    (h : wpList P ops Q rest (a.put op.dst (.agg cs.toArray)) w) : wpList P ops Q (op :: rest) a w :=
  wpList_step fun K hK => by
    rw [if_pos hw]
    exact wp_load_mid ty x ho b o hx cs d hc hu hd hi (hK _ _ h)
theorem range_of_row {w : World} {g : Nat} {m : List UInt8} {t : TypeId} {fz : Nat × Nat} (h : w.heap[g]? = some (.cells (bvs m).toArray t fz)) (at_ : Nat) : w.rangeAt g at_ (bvs (m.drop at_)) := by
  intro j v hv
  rw [cell_of_row w g (at_ + j) _ t fz h]
  rw [bvs_drop, List.getElem?_drop] at hv
  simpa using hv
/-- A whole array into a box that holds one already. -/
theorem wpList_store_row {P : Program} {ops : Array Oper} {rest : List Oper} {op : Oper} {a : Act} {w : World} {Q : Exit → Act → World → Prop} (hgd : op.guard = none) (ty : TypeId) (x y : Operand) (ho : op.op = .store ty x y)
    (g : Nat) (t : TypeId) (c : Array Value) (hg : w.heap[g]? = some (.cells c t (0, 0))) (l : List UInt8) (hx : a.eval x = .pointer (some ⟨g, 0, none⟩)) (hy : a.eval y = .agg (bvs l).toArray)
    (hi : (P.info? ty).map (·.size) = some l.length) (hs : c.size = l.length)
    (h : ∀ w', w'.heap[g]? = some (.cells (bvs l).toArray t (0, 0)) → w.grownBy w' (some g) → w'.heap.size = w.heap.size → wpList P ops Q rest (a.put op.dst undef) w') : wpList P ops Q (op :: rest) a w :=
  wpList_plain hgd fun _ hK => by
    have hst := run_storeVar_row (P := P) w g t ty c (bvs l).toArray hg (by simpa [bvs_len] using hi) (by simpa [bvs_len] using hs) (all_oneCell_toArray (bvs_one l))
    unfold Oper.wp execOp
    simp only [ho, hx, hy, Instr.storeAt, Instr.sureAddr, Sem.run_bind, Sem.run_pure, Result.andThen_ok, hst]
    refine hK _ _ (h _ (setRow_heap w g _ _ t _ hg) ?_ ?_)
    · refine ⟨rfl, rfl, rfl, by simp [World.setRow], fun k hk hne => ?_⟩
      show (w.heap.modify g _)[k]? = _
      rw [Array.getElem?_modify, if_neg (fun e => hne (by rw [e]))]
    · simp [World.setRow]
/-! ### as steps of a region that draws its order -/
theorem step_load_arr {P : Program} {ops : Array Oper} {o : Oper} {a : Act} {w : World} {K : Act → World → Prop} {Q : Exit → Act → World → Prop} {E : Prop} (hgd : o.guard = none) (ty : TypeId) (x : Operand) (ho : o.op = .load ty x)
    (b off : Nat) (hx : a.eval x = .pointer (some ⟨b, off, none⟩)) (cs : List Value) (d : TypeDesc) (hc : w.rangeAt b off cs)
    (hu : P.underlying ty = some d) (hd : d.isRow = true) (hi : (P.info? ty).map (·.size) = some cs.length)
    (hK : K (a.put o.dst (.agg cs.toArray)) w) :
    if Region.wanted o (yielded ops a.tmps) = true then Oper.wp P o a w K Q else E := by
  have hw : Region.wanted o (yielded ops a.tmps) = true := by simp [Region.wanted, hgd]
  rw [if_pos hw]
  exact wp_load_mid ty x ho b off hx cs d hc hu hd hi hK
theorem step_store_row {P : Program} {ops : Array Oper} {op : Oper} {a : Act} {w : World} {K : Act → World → Prop} {Q : Exit → Act → World → Prop} {E : Prop} (hgd : op.guard = none) (ty : TypeId) (x y : Operand) (ho : op.op = .store ty x y)
    (g : Nat) (t : TypeId) (c : Array Value) (hg : w.heap[g]? = some (.cells c t (0, 0))) (l : List UInt8) (hx : a.eval x = .pointer (some ⟨g, 0, none⟩)) (hy : a.eval y = .agg (bvs l).toArray)
    (hi : (P.info? ty).map (·.size) = some l.length) (hs : c.size = l.length)
    (hK : ∀ w', Hid (w'.heap[g]? = some (.cells (bvs l).toArray t (0, 0))) → Hid (w.grownBy w' (some g)) → w'.heap.size = w.heap.size → K (a.put op.dst undef) w') :
    if Region.wanted op (yielded ops a.tmps) = true then Oper.wp P op a w K Q else E := by
  have hw : Region.wanted op (yielded ops a.tmps) = true := by simp [Region.wanted, hgd]
  rw [if_pos hw]
  have hst := run_storeVar_row (P := P) w g t ty c (bvs l).toArray hg (by simpa [bvs_len] using hi) (by simpa [bvs_len] using hs) (all_oneCell_toArray (bvs_one l))
  unfold Oper.wp execOp
  simp only [ho, hx, hy, Instr.storeAt, Instr.sureAddr, Sem.run_bind, Sem.run_pure, Result.andThen_ok, hst]
  refine hK _ (Lib.hid (setRow_heap w g _ _ t _ hg)) (Lib.hid ⟨rfl, rfl, rfl, by simp [World.setRow], fun k hk hne => ?_⟩) (by simp [World.setRow])
  show (w.heap.modify g _)[k]? = _
  rw [Array.getElem?_modify, if_neg (fun e => hne (by rw [e]))]
end Go.Proofs.Ytgcagenhfddpgaa
