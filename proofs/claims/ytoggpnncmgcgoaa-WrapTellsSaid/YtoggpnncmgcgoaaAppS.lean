/-
  append(b, s...) where s is a string, onto a slice of the call's own.
-/
import Derived.Test.YtoggpnncmgcgoaaMk
import Derived.Lib.AppendStr
namespace Go.Proofs.Ytoggpnncmgcgoaa
open Go.RowKit
set_option linter.unusedVariables false
set_option linter.unusedSimpArgs false

theorem strCells_list (s : ByteArray) : Lib.strCells s = bvs s.data.toList := by
  unfold Lib.strCells bvs bv
  rfl
section
variable {P : Program} {w : World} {t e u : TypeId}
theorem run_append_str (ok : ElemOk P t e 1 1 (.int .u8 0)) (hu : P.underlying u = some .string) (ty : TypeId) {base : Nat} {A : Option Addr} {n c : Nat} {xs : List Value} (hx : Fr w base e 1 A n c xs) (s : ByteArray)
    (h63 : n + s.size ≤ maxLen) (hb : n + s.size ≤ 140737488355328) (hbase : base ≤ w.heap.size) :
    ∃ D d w', (Builtin.append_ #[t, u] ty #[.slice A n c, .string s]).run P w = .ok (.slice D (n + s.size) d) w' ∧ Fr w' base e 1 D (n + s.size) d (xs ++ bvs s.data.toList) ∧ w.grownBy w' (rowOf A c) := by
  have hyl : (bvs s.data.toList).length = s.size * 1 := by rw [bvs_len, size_list, Nat.mul_one]
  have h1 := bvs_one s.data.toList
  have hstr := fun (W : World) => Lib.run_firstCells_string (P := P) W 1 s
  rw [strCells_list] at hstr
  by_cases hroom : n + s.size ≤ c
  · rcases Nat.eq_zero_or_pos c with rfl | hc
    · obtain rfl : n = 0 := by omega
      have hm0 : s.size = 0 := by omega
      have hx0 : xs = [] := List.eq_nil_of_length_eq_zero (by simpa using hx.1)
      have hy0 : bvs s.data.toList = [] := List.eq_nil_of_length_eq_zero (by omega)
      rw [hy0, hm0] at hstr ⊢
      subst hx0
      refine ⟨A, 0, w, ?_, Fr.zero_, ⟨rfl, rfl, rfl, Nat.le_refl _, fun _ _ _ => rfl⟩⟩
      obtain ⟨ht, hzs, hsz, i, hi, hz, hi1, hi2⟩ := ok
      have h2 := hstr w
      cases A with
      | none => simp [Builtin.append_, run_underlying ht, run_underlying hu, sizeOf, typeInfo, hi, hi1, Builtin.lenOf, hm0, h2]
      | some a => simp [Builtin.append_, run_underlying ht, run_underlying hu, sizeOf, typeInfo, hi, hi1, Builtin.lenOf, hm0, h2, storeCells]
    · obtain ⟨g, cur, fz, rfl, hbg, hh, hf, hs, ht⟩ := hx.2.2.2.resolve_left (by omega)
      obtain ⟨htt, hzs, hsz, i, hi, hz, hi1, hi2⟩ := ok
      have hfit : n * 1 + (bvs s.data.toList).length ≤ cur.size := by rw [hyl, hs, ← Nat.add_mul]; exact Nat.mul_le_mul_right _ hroom
      have h2 := hstr w
      have hst := storeCells_fz (P := P) g (n * 1) e fz (bvs s.data.toList) 0 cur w hh hf (by simpa using hfit) h1
      simp only [Nat.add_zero] at hst
      refine ⟨some ⟨g, 0, none⟩, c, w.setRow g (cur.toList.take (n * 1) ++ bvs s.data.toList ++ cur.toList.drop (n * 1 + (bvs s.data.toList).length)).toArray, ?_, ⟨?_, hroom, hx.cm, .inr ⟨g, _, fz, rfl, hbg, setRow_heap w g cur _ e _ hh, ?_, ?_, ?_⟩⟩, ⟨rfl, rfl, rfl, by simp, fun k _ hk => ?_⟩⟩
      · rw [Nat.mul_one] at hst
        simp [Builtin.append_, run_underlying htt, run_underlying hu, sizeOf, typeInfo, hi, hi1, Builtin.lenOf, hroom, h2, add_lit, hst]
      · rw [List.length_append, hx.1, hyl, Nat.add_mul]
      · intro j hj
        refine hf j ?_
        simp only [List.size_toArray, List.length_append, List.length_take, List.length_drop, Array.length_toList] at hj
        omega
      · simp only [List.size_toArray, List.length_append, List.length_take, List.length_drop, Array.length_toList]
        omega
      · rw [ht, Nat.add_mul, ← hx.1, ← hyl, ← List.length_append]
        exact List.take_left
      · exact setRow_other w g k _ (fun e => hk (by rw [rowOf_some g 0 c hc, e]))
  · obtain ⟨htt, hzs, hsz, i, hi, hz, hi1, hi2⟩ := id ok
    have hn : ¬ (n + s.size ≤ c) := hroom
    have h63' : ¬ (9223372036854775807 < ((n : Int) + (s.size : Int))) := by unfold maxLen at h63; omega
    have hfit := growslice_fits (bytes := 1) (Nat.lt_of_not_le hroom) (by rw [Nat.mul_one]; exact hb : (n + s.size) * 1 ≤ 140737488355328)
    have h48' : ¬ (281474976710656 < Builtin.nextslicecap (n + s.size) c * i.bytes) := by rw [hi2]; omega
    have hf1 := run_first (P := P) (w := w.drew) hx.rd n c
    have hf2 := hstr w.drew
    have hr : (Builtin.append_ #[t, u] ty #[.slice A n c, .string s]).run P w = .ok (.slice (some ⟨w.heap.size, 0, none⟩) (n + s.size) (grownCap w (n + s.size) c e)) (w.drew.alloc (.cells (xs.toArray ++ (bvs s.data.toList).toArray ++ Builtin.zeroCells (Value.int .u8 0).cells (grownCap w (n + s.size) c e - (n + s.size))) e)) := by
      simp [Builtin.append_, run_underlying htt, run_underlying hu, sizeOf, typeInfo, zeroValue, hi, hz, hi1, Builtin.lenOf, hn, h63', h48', Question.forced, hf1, hf2, newRow, grownCap]
      have e1 : (xs ++ bvs s.data.toList).toArray = xs.toArray ++ (bvs s.data.toList).toArray := by simp
      rw [e1, Array.append_assoc]
    refine ⟨_, _, _, hr, fr_more ok hx.1 hyl h63 hbase, ⟨rfl, rfl, rfl, by simp, fun k hk _ => Below.heap_alloc w.drew _ k hk⟩⟩
theorem wpList_append_str {ops : Array Oper} {rest : List Oper} {o : Oper} {a : Act} {Q : Exit → Act → World → Prop} (hgd : o.guard = none) (sl x : Operand)
    (ho : o.op = .call { callee := .builtin .append, args := #[sl, x], argTypes := #[t, u] }) (ok : ElemOk P t e 1 1 (.int .u8 0)) (hu : P.underlying u = some .string)
    {base : Nat} {A : Option Addr} {n c : Nat} {xs : List Value} (hs : a.eval sl = .slice A n c) (hfr : Fr w base e 1 A n c xs) {s : ByteArray} (hx : a.eval x = .string s) {l : List UInt8} (hl : s.data.toList = l) {m : Nat} (hm : s.size = m)
    (nm : Nat) (hnm : n + m = nm) (zs : List Value) (hzs : xs ++ bvs l = zs) (h63 : nm ≤ maxLen) (hb : nm ≤ 140737488355328) (hbase : base ≤ w.heap.size)
    (h : ∀ D d w', Fr w' base e 1 D nm d zs → w.grownBy w' (rowOf A c) → wpList P ops Q rest (a.put o.dst (.slice D nm d)) w') : wpList P ops Q (o :: rest) a w := by
  subst hl hm hnm hzs
  obtain ⟨D, d, w', hr, h2, h3⟩ := run_append_str ok hu o.type hfr s h63 hb hbase
  exact wpList_run hgd (exec_append ho hs hx hr) (h D d w' h2 h3)
end
end Go.Proofs.Ytoggpnncmgcgoaa
