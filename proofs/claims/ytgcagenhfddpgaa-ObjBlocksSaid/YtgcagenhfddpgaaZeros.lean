/-
  'append(s, make([]byte, m)...)' where there is no room: one builtin with a count. No statement of the program stands here.
-/
import Derived.Test.YtgcagenhfddpgaaBase
namespace Go.Proofs.Ytgcagenhfddpgaa
open Go.RowKit
set_option linter.unusedVariables false
set_option linter.unusedSimpArgs false

theorem zeroCells_u8 (n : Nat) : Builtin.zeroCells #[Value.int .u8 0] n = (bvs (List.replicate n 0)).toArray := by
  apply Array.ext
  · simp [size_zeroCells, bvs]
  · intro j h1 h2
    simp [Builtin.zeroCells, bvs, bv, Nat.mod_one]
theorem run_append_zeros {P : Program} {w : World} {t e ti : TypeId} {k : IntKind} (ok : ElemOk P t e 1 1 (.int .u8 0)) (hti : P.underlying ti = some (.int k)) (ty : TypeId) {B : Nat} {A : Option Addr} {n c m : Nat} {l : List UInt8} (hx : Rd w B 1 A n (bvs l)) (hg : c < n + m) (hm : 0 < m) (h9 : n + m ≤ 1000000000) :
    (Builtin.append_ #[t, ti] ty #[.slice A n c, .int .i64 (m : Int)]).run P w =
      .ok (.slice (some ⟨w.heap.size, 0, none⟩) (n + m) (grownCap w (n + m) c e)) (w.drew.alloc (.cells (bvs (l ++ List.replicate m 0 ++ List.replicate (grownCap w (n + m) c e - (n + m)) 0)).toArray e)) := by
  obtain ⟨ht, hzs, hsz, i, hi, hz, hs, hb⟩ := ok
  have hn : ¬ (n + m ≤ c) := by omega
  have h63' : ¬ (9223372036854775807 < ((n : Int) + (m : Int))) := by omega
  have hfit := growslice_fits (need := n + m) (old := c) (bytes := i.bytes) hg (by rw [hb]; omega)
  have h48' : ¬ (281474976710656 < Builtin.nextslicecap (n + m) c * i.bytes) := by omega
  have h1 := run_first (P := P) (w := w.drew) hx n c
  have hw1 : IntKind.i64.wrap (m : Int) = (m : Int) := by rw [IntKind.wrap_i64]; omega
  have hneg : ¬ ((m : Int) < 0) := by omega
  have hby : ¬ (281474976710656 < (m : Int) * (i.bytes : Int)) := by rw [hb]; omega
  have hby2 : ¬ (281474976710656 < (m : Int)) := by omega
  have hm0 : ¬ m = 0 := by omega
  rw [hb, Nat.mul_one] at h48'
  simp [Builtin.append_, run_underlying ht, run_underlying hti, sizeOf, typeInfo, zeroValue, hi, hz, Builtin.lenOf, hn, h63', h48', Question.forced, h1, newRow, grownCap, asInt, asIntOf, hw1, hneg, hby, hby2, hm0, hs, hb, h48', Value.cells, zeroCells_u8]
  rw [← bvs_app, ← bvs_app, List.replicate_append_replicate]
theorem fr_zeros {w : World} {e : TypeId} {n m c : Nat} {l : List UInt8} (hl : l.length = n) (h9 : n + m ≤ 1000000000) {base : Nat} (hb : base ≤ w.heap.size) :
    Fr (w.drew.alloc (.cells (bvs (l ++ List.replicate m 0 ++ List.replicate (grownCap w (n + m) c e - (n + m)) 0)).toArray e)) base e 1 (some ⟨w.heap.size, 0, none⟩) (n + m) (grownCap w (n + m) c e) (bvs (l ++ List.replicate m 0)) := by
  have hge := grownCap_ge w (n + m) c e
  refine Fr.made w.drew _ _ _ hb (grownCap_le_maxLen w (n + m) c e (by unfold maxLen; omega)) hge ?_ (by simp [bvs, hl]) ?_
  · simp [bvs, hl]
    omega
  · rw [bvs_app (l ++ List.replicate m 0)]
    exact List.take_left' (by simp [bvs, hl])
/-- 'append(s, make([]byte, m)...)', no room. -/
theorem wpList_append_zeros {P : Program} {w : World} {t e ti : TypeId} {k : IntKind} {ops : Array Oper} {rest : List Oper} {o : Oper} {a : Act} {Q : Exit → Act → World → Prop} (hgd : o.guard = none) (s x : Operand)
    (ho : o.op = .call { callee := .builtin .append, args := #[s, x], argTypes := #[t, ti] }) (ok : ElemOk P t e 1 1 (.int .u8 0)) (hti : P.underlying ti = some (.int k))
    {B : Nat} {A : Option Addr} {n c m : Nat} {l : List UInt8} (hs : a.eval s = .slice A n c) (hxs : Rd w B 1 A n (bvs l)) (hx : a.eval x = .int .i64 (m : Int))
    (hg : c < n + m) (hm : 0 < m) (h9 : n + m ≤ 1000000000) (nm : Nat) (hnm : n + m = nm) (zs : List UInt8) (hzs : l ++ List.replicate m 0 = zs)
    (h : ∀ d w', Fr w' w.heap.size e 1 (some ⟨w.heap.size, 0, none⟩) nm d (bvs zs) → Below w.heap.size w w' → w.heap.size < w'.heap.size → wpList P ops Q rest (a.put o.dst (.slice (some ⟨w.heap.size, 0, none⟩) nm d)) w') : wpList P ops Q (o :: rest) a w := by
  subst hnm hzs
  have hl : l.length = n := by have := hxs.1; simpa [bvs_len] using this
  have hr := run_append_zeros (w := w) ok hti o.type hxs hg hm h9
  refine wpList_run hgd (exec_append ho hs hx hr) (h _ _ (fr_zeros hl h9 (Nat.le_refl _)) ?_ (by simp))
  exact ((Below.refl _ w).drew).alloc (Nat.le_refl _) _
end Go.Proofs.Ytgcagenhfddpgaa
