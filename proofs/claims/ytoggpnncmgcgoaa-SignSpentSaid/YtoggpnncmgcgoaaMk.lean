/-
  Noughts; make([]byte, n); bytes of a string.
-/
import Derived.Test.YtoggpnncmgcgoaaCode
import Derived.Laws.IdiomStrings
namespace Go.Proofs.Ytoggpnncmgcgoaa
open Go.RowKit
set_option linter.unusedVariables false
set_option linter.unusedSimpArgs false
set_option maxRecDepth 100000

def noughts (n : Nat) : List UInt8 := List.replicate n 0
theorem noughts_len (n : Nat) : (noughts n).length = n := List.length_replicate
theorem run_mkN (kl kc : IntKind) (n : Nat) (hn : n ≤ 1000000000) (w : World) :
    (Instr.makeSlice 22 (.int kl (n : Int)) (.int kc (n : Int))).run Try.prog w = .ok (.slice (some ⟨w.heap.size, 0, none⟩) n n) (w.alloc (.cells (bvs (noughts n)).toArray 5)) :=
  run_mkB okB kl kc n hn w
theorem fr_mkN (w : World) (n : Nat) (hn : n ≤ 1000000000) {base : Nat} (hb : base ≤ w.heap.size) : Fr (w.alloc (.cells (bvs (noughts n)).toArray 5)) base 5 1 (some ⟨w.heap.size, 0, none⟩) n n (bvs (noughts n)) := fr_mkB w _ n hn hb

/-! ### []byte(s) -/
theorem bytesRow_list (s : ByteArray) (cap : Nat) : bytesRow s cap = (bvs (s.data.toList ++ List.replicate (cap - s.size) 0)).toArray := by
  have h1 : (bvs s.data.toList).toArray = s.data.map (fun b => Value.int .u8 b.toNat) := by
    apply Array.ext'
    rw [Array.toList_map]
    rfl
  have h2 : ∀ k, (bvs (List.replicate k 0)).toArray = Array.replicate k (Value.int .u8 0) := by
    intro k
    apply Array.ext'
    rw [Array.toList_replicate]
    show List.map bv (List.replicate k 0) = _
    rw [List.map_replicate]
    rfl
  rw [bvs_app]
  unfold bytesRow
  rw [← h1, ← h2, List.append_toArray]
theorem size_list (s : ByteArray) : s.data.toList.length = s.size := by cases s; rfl
theorem wpList_conv_sb {P : Program} {ops : Array Oper} {rest : List Oper} {o : Oper} {a : Act} {w : World} {Q : Exit → Act → World → Prop} {src dst e : TypeId} (hgd : o.guard = none) (x : Operand) (ho : o.op = .convert src dst x)
    (hs : P.underlying src = some .string) (hd : P.underlying dst = some (.slice e)) (he : P.underlying e = some (.int .u8)) {s : ByteArray} (hx : a.eval x = .string s) {l : List UInt8} (hl : s.data.toList = l) {n : Nat} (hn : s.size = n) (h9 : n ≤ 1000000000)
    (h : ∀ d w', Fr w' w.heap.size e 1 (some ⟨w.heap.size, 0, none⟩) n d (bvs l) → Below w.heap.size w w' → w'.heap.size = w.heap.size + 1 → wpList P ops Q rest (a.put o.dst (.slice (some ⟨w.heap.size, 0, none⟩) n d)) w') : wpList P ops Q (o :: rest) a w := by
  subst hl hn
  have hge := grownCap_ge w s.size 0 e
  have hcv : (execOp a.eval o).run P w = .ok (.value (.slice (some ⟨w.heap.size, 0, none⟩) s.size (grownCap w s.size 0 e))) (w.drew.alloc (.cells (bytesRow s (grownCap w s.size 0 e)) e ((bytesRow s (grownCap w s.size 0 e)).size, (bytesRow s (grownCap w s.size 0 e)).size + 1))) := by
    unfold execOp
    simp only [ho, hx, Sem.run_bind, run_bytes_of_string w src dst e s hs hd he, Sem.run_pure, Result.andThen_ok]
  have hcm := grownCap_le_maxLen w s.size 0 e (by unfold maxLen; omega)
  have hz : w.drew.heap.size = w.heap.size := rfl
  generalize grownCap w s.size 0 e = cap at *
  have hbr := bytesRow_list s cap
  have hsz : (bytesRow s cap).size = cap := by
    rw [hbr, List.size_toArray, bvs_len, List.length_append, List.length_replicate, size_list]
    omega
  have htk : (bytesRow s cap).toList.take (s.size * 1) = bvs s.data.toList := by
    rw [hbr, List.toList_toArray, bvs_app, Nat.mul_one]
    exact List.take_left' (by rw [bvs_len, size_list])
  refine wpList_run hgd hcv (h _ _ ?_ ?_ (by rw [World.size_alloc, hz]))
  · refine ⟨by rw [bvs_len, size_list, Nat.mul_one], hge, hcm, .inr ⟨w.heap.size, _, _, rfl, Nat.le_refl _, heap_alloc_new w.drew _, ?_, by rw [hsz, Nat.mul_one], htk⟩⟩
    intro i hi
    have : decide ((bytesRow s cap).size ≤ i) = false := by simp only [decide_eq_false_iff_not]; omega
    simp only [this, Bool.false_and]
  · exact ((Below.refl _ w).drew).alloc (Nat.le_refl _) _
end Go.Proofs.Ytoggpnncmgcgoaa
