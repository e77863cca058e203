/-
  Append into a row that has room (the row is known whole); make with room and no element; rows of structs of five cells. No statement of the program stands here.
-/
import Derived.Test.YtgcagenhfddpgaaBase
namespace Go.Proofs.Ytgcagenhfddpgaa
open Go.RowKit
set_option linter.unusedVariables false

section
variable {P : Program} {w : World} {t e : TypeId} {sz bys : Nat} {z : Value}
/-- The row has room, and is known whole. -/
theorem run_append_room (ok : ElemOk P t e sz bys z) (ty : TypeId) {base B g : Nat} {A' : Option Addr} {n c m c' : Nat} {full ys : List Value} (hx : Fr w base e sz (some ⟨g, 0, none⟩) c c full) (hc : 0 < c) (hroom : n + m ≤ c) (hy : Rd w B sz A' m ys) (h1 : ∀ u ∈ ys, u.oneCell' = true) :
    ∃ w', (Builtin.append_ #[t, t] ty #[.slice (some ⟨g, 0, none⟩) n c, .slice A' m c']).run P w = .ok (.slice (some ⟨g, 0, none⟩) (n + m) c) w' ∧ Fr w' base e sz (some ⟨g, 0, none⟩) c c (full.take (n * sz) ++ ys ++ full.drop (n * sz + ys.length)) ∧ w.grownBy w' (some g) := by
  obtain ⟨g', cur, fz, hg', hbg, hh, hf, hs, ht⟩ := hx.2.2.2.resolve_left (by omega)
  obtain rfl : g = g' := by injection hg' with h; injection h
  obtain ⟨htt, hzs, hsz, i, hi, hz, rfl, rfl⟩ := ok
  have hcur : full = cur.toList := by rw [← ht]; exact List.take_of_length_le (by simp [hs])
  have hfit : n * i.size + ys.length ≤ cur.size := by rw [hy.1, hs, ← Nat.add_mul]; exact Nat.mul_le_mul_right _ hroom
  have h2 := run_first (P := P) hy m c'
  have hst := storeCells_fz (P := P) g (n * i.size) e fz ys 0 cur w hh hf (by simpa using hfit) h1
  simp only [Nat.add_zero] at hst
  have hlen : (full.take (n * i.size) ++ ys ++ full.drop (n * i.size + ys.length)).length = cur.size := by
    rw [hcur]
    simp only [List.length_append, List.length_take, List.length_drop, Array.length_toList]
    omega
  refine ⟨w.setRow g (cur.toList.take (n * i.size) ++ ys ++ cur.toList.drop (n * i.size + ys.length)).toArray, ?_, ⟨by rw [hlen, hs], Nat.le_refl _, hx.cm, .inr ⟨g, _, fz, rfl, hbg, setRow_heap w g cur _ e _ hh, ?_, ?_, ?_⟩⟩, ⟨rfl, rfl, rfl, by simp, fun k _ hk => ?_⟩⟩
  · simp [Builtin.append_, run_underlying htt, sizeOf, typeInfo, hi, Builtin.lenOf, hroom, h2, add_lit, hst]
  · intro j hj
    refine hf j ?_
    rw [List.size_toArray, ← hcur, hlen] at hj
    exact hj
  · rw [List.size_toArray, ← hcur, hlen, hs]
  · rw [← hcur]
    refine List.take_of_length_le ?_
    rw [hlen, hs]
    exact Nat.le_refl _
  · exact setRow_other w g k _ (fun e => hk (by rw [e]))
theorem wpList_append_room {ops : Array Oper} {rest : List Oper} {o : Oper} {a : Act} {Q : Exit → Act → World → Prop} (hgd : o.guard = none) (s x : Operand)
    (ho : o.op = .call { callee := .builtin .append, args := #[s, x], argTypes := #[t, t] }) (ok : ElemOk P t e sz bys z)
    {base B g : Nat} {A' : Option Addr} {n c m c' : Nat} {full ys : List Value} (hs : a.eval s = .slice (some ⟨g, 0, none⟩) n c) (hfr : Fr w base e sz (some ⟨g, 0, none⟩) c c full) (hc : 0 < c) (hx : a.eval x = .slice A' m c') (hrd : Rd w B sz A' m ys) (h1 : ∀ u ∈ ys, u.oneCell' = true)
    (nm : Nat) (hnm : n + m = nm) (zs : List Value) (hzs : full.take (n * sz) ++ ys ++ full.drop (n * sz + ys.length) = zs) (hroom : nm ≤ c)
    (h : ∀ w', Fr w' base e sz (some ⟨g, 0, none⟩) c c zs → w.grownBy w' (some g) → wpList P ops Q rest (a.put o.dst (.slice (some ⟨g, 0, none⟩) nm c)) w') : wpList P ops Q (o :: rest) a w := by
  subst hnm hzs
  obtain ⟨w', hr, h2, h3⟩ := run_append_room (n := n) (c' := c') ok o.type hfr hc hroom hrd h1
  exact wpList_run hgd (exec_append ho hs hx hr) (h w' h2 h3)
end

theorem run_mkLen {P : Program} {t e : TypeId} (ok : ElemOk P t e 1 1 (.int .u8 0)) (kl kc : IntKind) (m n : Nat) (hm : m ≤ n) (hn : n ≤ 1000000000) (w : World) :
    (Instr.makeSlice t (.int kl (m : Int)) (.int kc (n : Int))).run P w = .ok (.slice (some ⟨w.heap.size, 0, none⟩) m n) (w.alloc (.cells (bvs (List.replicate n 0)).toArray e)) := by
  obtain ⟨ht, _, _, i, hi, hz, hs, hb⟩ := ok
  have h := run_make (P := P) w t e i (.int .u8 0) ht hi hz kl kc m n (by omega) (by omega) (by rw [hb]; omega) (by omega)
  rw [h]
  simp only [Int.toNat_natCast, hs, Nat.mul_one]
  congr 3
  apply Array.ext
  · simp [madeCells, bvs]
  · intro j h1 h2
    simp [madeCells, bvs, Value.cells, bv, Nat.mod_one]
/-- So many noughts. -/
def noughts (n : Nat) : List UInt8 := List.replicate n 0
theorem noughts_len (n : Nat) : (noughts n).length = n := List.length_replicate
theorem run_mkN {P : Program} {t e : TypeId} (ok : ElemOk P t e 1 1 (.int .u8 0)) (kl kc : IntKind) (n : Nat) (hn : n ≤ 1000000000) (w : World) :
    (Instr.makeSlice t (.int kl (n : Int)) (.int kc (n : Int))).run P w = .ok (.slice (some ⟨w.heap.size, 0, none⟩) n n) (w.alloc (.cells (bvs (noughts n)).toArray e)) :=
  run_mkLen ok kl kc n n (Nat.le_refl _) hn w
theorem fr_mkN (w : World) (e : TypeId) (n : Nat) (hn : n ≤ 1000000000) {base : Nat} (hb : base ≤ w.heap.size) : Fr (w.alloc (.cells (bvs (noughts n)).toArray e)) base e 1 (some ⟨w.heap.size, 0, none⟩) n n (bvs (noughts n)) := fr_mkB w e n hn hb
theorem run_mkRoom {P : Program} {t e : TypeId} (ok : ElemOk P t e 1 1 (.int .u8 0)) (kl kc : IntKind) (w : World) :
    (Instr.makeSlice t (.int kl 0) (.int kc 256)).run P w = .ok (.slice (some ⟨w.heap.size, 0, none⟩) 0 256) (w.alloc (.cells (bvs (noughts 256)).toArray e)) :=
  run_mkLen ok kl kc 0 256 (by omega) (by omega) w

/-! ### rows of structs of five cells -/
structure Pt where
  a : Int
  b : Int
  i : Int
  t : Int
  s : Int
def Pt.zero : Pt := ⟨0, 0, 0, 0, 0⟩
def Pt.cs (p : Pt) : List Value := [.int .i64 p.a, .int .u32 p.b, .int .u32 p.i, .int .u32 p.t, .int .u32 p.s]
def Pt.v (p : Pt) : Value := .agg p.cs.toArray
theorem Pt.ext_ {p q : Pt} (h1 : p.a = q.a) (h2 : p.b = q.b) (h3 : p.i = q.i) (h4 : p.t = q.t) (h5 : p.s = q.s) : p = q := by
  cases p; cases q; simp_all
def pcs : List Pt → List Value
  | [] => []
  | p :: l => p.cs ++ pcs l
theorem pcs_app (l m : List Pt) : pcs (l ++ m) = pcs l ++ pcs m := by
  induction l with
  | nil => rfl
  | cons p l ih => simp [pcs, ih]
theorem pcs_one_ (p : Pt) : pcs [p] = p.cs := by simp [pcs]
theorem cs_len (p : Pt) : p.cs.length = 5 := rfl
theorem pcs_len (l : List Pt) : (pcs l).length = l.length * 5 := by
  induction l with
  | nil => rfl
  | cons p l ih => simp only [pcs, List.length_append, ih, cs_len, List.length_cons]; omega
theorem pcs_drop (l : List Pt) (k : Nat) : (pcs l).drop (k * 5) = pcs (l.drop k) := by
  induction l generalizing k with
  | nil => simp [pcs]
  | cons p l ih =>
    cases k with
    | zero => simp
    | succ k =>
      rw [List.drop_succ_cons, ← ih, pcs, show (k + 1) * 5 = p.cs.length + k * 5 by rw [cs_len]; omega, ← List.drop_drop, List.drop_left]
theorem pcs_take (l : List Pt) (k : Nat) : (pcs l).take (k * 5) = pcs (l.take k) := by
  induction l generalizing k with
  | nil => simp [pcs]
  | cons p l ih =>
    cases k with
    | zero => simp [pcs]
    | succ k =>
      rw [List.take_succ_cons, pcs, pcs, ← ih, show (k + 1) * 5 = p.cs.length + k * 5 by rw [cs_len]; omega, List.take_length_add_append]
theorem pcs_get (l : List Pt) (k j : Nat) (hk : k < l.length) (hj : j < 5) : (pcs l)[k * 5 + j]? = (l[k]).cs[j]? := by
  rw [← List.getElem?_drop, pcs_drop, List.drop_eq_getElem_cons hk, pcs, List.getElem?_append_left (by rw [cs_len]; exact hj)]
theorem pcs_oneCell (l : List Pt) : ∀ u ∈ pcs l, u.oneCell' = true := by
  induction l with
  | nil => intro u hu; cases hu
  | cons p l ih =>
    intro u hu
    rw [pcs, List.mem_append] at hu
    rcases hu with hu | hu
    · simp only [Pt.cs, List.mem_cons, List.not_mem_nil, or_false] at hu
      rcases hu with rfl | rfl | rfl | rfl | rfl <;> rfl
    · exact ih u hu
/-- The five cells of an element. -/
theorem Rd.at5 {w : World} {B n : Nat} {A : Option Addr} {l : List Pt} (h : Rd w B 5 A n (pcs l)) {k : Nat} (hk : k < n) (hl : l.length = n) : ∃ b off, A = some ⟨b, off, none⟩ ∧ b < B ∧
    w.cell? ⟨b, off + k * 5, none⟩ = some (.int .i64 (l[k]'(by omega)).a) ∧ w.cell? ⟨b, off + k * 5 + 1, none⟩ = some (.int .u32 (l[k]'(by omega)).b) ∧ w.cell? ⟨b, off + k * 5 + 2, none⟩ = some (.int .u32 (l[k]'(by omega)).i) ∧ w.cell? ⟨b, off + k * 5 + 3, none⟩ = some (.int .u32 (l[k]'(by omega)).t) ∧ w.cell? ⟨b, off + k * 5 + 4, none⟩ = some (.int .u32 (l[k]'(by omega)).s) := by
  obtain ⟨b, off, e, hb, hc⟩ := h.2 (by omega)
  have g : ∀ j, j < 5 → (pcs l)[k * 5 + j]? = (l[k]'(by omega)).cs[j]? := fun j hj => pcs_get l k j (by omega) hj
  refine ⟨b, off, e, hb, hc (k * 5 + 0) _ (g 0 (by omega)), ?_, ?_, ?_, ?_⟩
  · rw [Nat.add_assoc]; exact hc (k * 5 + 1) _ (g 1 (by omega))
  · rw [Nat.add_assoc]; exact hc (k * 5 + 2) _ (g 2 (by omega))
  · rw [Nat.add_assoc]; exact hc (k * 5 + 3) _ (g 3 (by omega))
  · rw [Nat.add_assoc]; exact hc (k * 5 + 4) _ (g 4 (by omega))
end Go.Proofs.Ytgcagenhfddpgaa
