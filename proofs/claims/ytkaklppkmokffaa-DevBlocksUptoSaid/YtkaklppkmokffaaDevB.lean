/-
  Pieces of one row: slices of bytes that lie one behind the other.
-/
import Derived.Test.YtkaklppkmokffaaDevA
import Derived.Laws.CopyOwn
namespace Go.Proofs.Ytkaklppkmokffaa
open Go.RowKit
set_option linter.unusedVariables false
set_option linter.unusedSimpArgs false
set_option maxRecDepth 100000

/-- Where the k-th piece begins. -/
def offL (ls : List (List UInt8)) (k : Nat) : Nat := (ls.take k).flatten.length
theorem offL_zero (ls : List (List UInt8)) : offL ls 0 = 0 := rfl
theorem offL_step {ls : List (List UInt8)} {k : Nat} (h : k < ls.length) : offL ls (k + 1) = offL ls k + (ls[k]).length := by
  unfold offL
  rw [List.take_succ_eq_append_getElem h, List.flatten_append]
  simp
theorem offL_all (ls : List (List UInt8)) : offL ls ls.length = ls.flatten.length := by simp [offL]
theorem offL_le (ls : List (List UInt8)) (k : Nat) : offL ls k ≤ ls.flatten.length := by
  have : ls.flatten.length = offL ls k + (ls.drop k).flatten.length := by
    rw [offL, ← List.length_append, ← List.flatten_append, List.take_append_drop]
  omega
theorem offL_more {ls : List (List UInt8)} {k : Nat} (h : k < ls.length) : offL ls k + (ls[k]).length ≤ ls.flatten.length := by
  rw [← offL_step h]
  exact offL_le _ _
theorem flat_at {ls : List (List UInt8)} {k i : Nat} (h : k < ls.length) (hi : i < (ls[k]).length) : ls.flatten[offL ls k + i]? = (ls[k])[i]? := by
  have e : ls.flatten = (ls.take k).flatten ++ (ls[k] ++ (ls.drop (k + 1)).flatten) := by
    have h1 := congrArg List.flatten (List.take_append_drop k ls)
    rw [List.flatten_append, List.drop_eq_getElem_cons h, List.flatten_cons] at h1
    exact h1.symm
  rw [e, offL, List.getElem?_append_right (by omega), Nat.add_sub_cancel_left, List.getElem?_append_left hi]

/-- The first k pieces of a row g: their lengths and bytes are those of ls, one behind the other. -/
def Laid (g : Nat) (ls : List (List UInt8)) (k : Nat) (ps : List Sl) : Prop :=
  ps.length = k ∧ ∀ j (h : j < ls.length) p, ps[j]? = some p → p.n = (ls[j]).length ∧ p.c = (ls[j]).length ∧ p.l = ls[j] ∧ (0 < p.n → p.A = some ⟨g, offL ls j, none⟩)
theorem Laid.nil (g : Nat) (ls : List (List UInt8)) : Laid g ls 0 [] := ⟨rfl, fun j h p hp => by cases hp⟩
theorem Laid.step {g : Nat} {ls : List (List UInt8)} {k : Nat} {ps : List Sl} (h : Laid g ls k ps) (hk : k < ls.length) (A : Option Addr) (hA : 0 < (ls[k]).length → A = some ⟨g, offL ls k, none⟩) : Laid g ls (k + 1) (ps ++ [⟨A, (ls[k]).length, (ls[k]).length, ls[k]⟩]) := by
  refine ⟨by simp [h.1], fun j hj p hp => ?_⟩
  by_cases e : j < k
  · rw [List.getElem?_append_left (by rw [h.1]; exact e)] at hp
    exact h.2 j hj p hp
  · rw [List.getElem?_append_right (by rw [h.1]; omega), h.1] at hp
    have hjk : j - k = 0 := by
      have := (List.getElem?_eq_some_iff.1 hp).1
      simp at this
      omega
    rw [hjk] at hp
    simp only [List.getElem?_cons_zero, Option.some.injEq] at hp
    subst hp
    obtain rfl : j = k := by omega
    exact ⟨rfl, rfl, rfl, hA⟩
theorem Laid.ls {g : Nat} {ls : List (List UInt8)} {ps : List Sl} (h : Laid g ls ls.length ps) : ps.map Sl.l = ls := by
  apply List.ext_getElem
  · simp [h.1]
  · intro j h1 h2
    have hj : j < ps.length := by simpa using h1
    have := (h.2 j h2 ps[j] (List.getElem?_eq_getElem hj)).2.2.1
    simpa using this
theorem Laid.came {g : Nat} {ls : List (List UInt8)} {ps : List Sl} (h : Laid g ls ls.length ps) {w : World} {e : TypeId} {fz : Nat × Nat} (hg : w.heap[g]? = some (.cells (bvs ls.flatten).toArray e fz)) (hm : ls.flatten.length ≤ maxLen) : ∀ p ∈ ps, p.came w := by
  intro p hp
  obtain ⟨j, hj, rfl⟩ := List.mem_iff_getElem.1 hp
  have hjl : j < ls.length := by rw [← h.1]; exact hj
  obtain ⟨h1, h2, h3, h4⟩ := h.2 j hjl ps[j] (List.getElem?_eq_getElem hj)
  have hle := offL_more hjl
  refine ⟨by rw [h3, h1], ⟨by rw [bvs_len, h3, h1, Nat.mul_one], fun hn => ⟨g, offL ls j, h4 hn, (Array.getElem?_eq_some_iff.1 hg).1, fun i u hu => ?_⟩⟩, by omega, by omega⟩
  rw [cell_of_row w g _ _ e fz hg]
  rw [h3, bvs_get] at hu
  have hi : i < (ls[j]).length := by
    cases hx : (ls[j])[i]? with
    | none => rw [hx] at hu; cases hu
    | some y => exact (List.getElem?_eq_some_iff.1 hx).1
  have := flat_at hjl hi
  simp only [List.getElem?_toArray, bvs_get, this]
  exact hu
/-- The row while its pieces are filled. -/
def partL (ls : List (List UInt8)) (k : Nat) : List UInt8 := (ls.take k).flatten ++ List.replicate (ls.flatten.length - offL ls k) 0
theorem partL_zero (ls : List (List UInt8)) : partL ls 0 = List.replicate ls.flatten.length 0 := by simp [partL, offL]
theorem partL_all (ls : List (List UInt8)) : partL ls ls.length = ls.flatten := by simp [partL, offL_all]
theorem partL_len (ls : List (List UInt8)) (k : Nat) : (partL ls k).length = ls.flatten.length := by
  have := offL_le ls k
  unfold offL at this
  simp only [partL, List.length_append, List.length_replicate, offL]
  omega
theorem partL_step {ls : List (List UInt8)} {k : Nat} (h : k < ls.length) : splice (bvs (partL ls k)) (offL ls k) (bvs ls[k]) = bvs (partL ls (k + 1)) := by
  have hs := offL_step h
  have hm := offL_more h
  unfold splice
  rw [← bvs_take, bvs_len, ← bvs_drop, ← bvs_app, ← bvs_app]
  congr 1
  have e1 : (partL ls k).take (offL ls k) = (ls.take k).flatten := List.take_left' rfl
  have e2 : (partL ls k).drop (offL ls k + (ls[k]).length) = List.replicate (ls.flatten.length - offL ls (k + 1)) 0 := by
    rw [partL, List.drop_append, show (ls.take k).flatten.length = offL ls k from rfl, List.drop_eq_nil_of_le (by rw [show (ls.take k).flatten.length = offL ls k from rfl]; omega), List.nil_append, List.drop_replicate]
    congr 1
    omega
  rw [e1, e2, partL, List.take_succ_eq_append_getElem h, List.flatten_append]
  simp
/-- A slice of bytes that lies in a row from base on, in which one may write. -/
def Own (w : World) (base : Nat) (s : Sl) : Prop := 0 < s.n → ∃ g off cur fz, s.A = some ⟨g, off, none⟩ ∧ base ≤ g ∧ w.heap[g]? = some (.cells cur 5 fz) ∧ (∀ i, i < cur.size → (decide (fz.1 ≤ i) && decide (i < fz.2)) = false) ∧ off + s.n ≤ cur.size
theorem Laid.own {g : Nat} {ls : List (List UInt8)} {ps : List Sl} (h : Laid g ls ls.length ps) {w : World} {cur : Array Value} {base : Nat} (hb : base ≤ g) (hg : w.heap[g]? = some (.cells cur 5 (0, 0))) (hc : cur.size = ls.flatten.length) : ∀ p ∈ ps, Own w base p := by
  intro p hp hn
  obtain ⟨j, hj, rfl⟩ := List.mem_iff_getElem.1 hp
  have hjl : j < ls.length := by rw [← h.1]; exact hj
  obtain ⟨h1, h2, h3, h4⟩ := h.2 j hjl ps[j] (List.getElem?_eq_getElem hj)
  have hle := offL_more hjl
  exact ⟨g, offL ls j, cur, (0, 0), h4 hn, hb, hg, by simp, by omega⟩
theorem Own.below {w w' : World} {base : Nat} {s : Sl} (h : Own w base s) (hb : Below w.heap.size w w') : Own w' base s := by
  intro hn
  obtain ⟨g, off, cur, fz, h1, h2, h3, h4⟩ := h hn
  exact ⟨g, off, cur, fz, h1, h2, (hb.block g (Array.getElem?_eq_some_iff.1 h3).1).trans h3, h4⟩
theorem Own.mono {w : World} {base base' : Nat} {s : Sl} (h : Own w base s) (hb : base' ≤ base) : Own w base' s := by
  intro hn
  obtain ⟨g, off, cur, fz, h1, h2, h3, h4⟩ := h hn
  exact ⟨g, off, cur, fz, h1, by omega, h3, h4⟩
theorem Fr.ownS {w : World} {base n c : Nat} {A : Option Addr} {l : List UInt8} (h : Fr w base 5 1 A n c (bvs l)) : Own w base ⟨A, n, c, l⟩ := by
  intro hn
  have hn' : 0 < n := hn
  have hnc := h.nc
  obtain ⟨g, cur, fz, hg, hb, hh, hf, hs, ht⟩ := h.2.2.2.resolve_left (by omega)
  exact ⟨g, 0, cur, fz, hg, hb, hh, hf, by simp only; omega⟩
theorem Fr.cameS {w : World} {base n c : Nat} {A : Option Addr} {l : List UInt8} (h : Fr w base 5 1 A n c (bvs l)) : Sl.came ⟨A, n, c, l⟩ w :=
  ⟨by have := h.1; simpa [bvs_len] using this, h.rd, h.nc, h.cm⟩
end Go.Proofs.Ytkaklppkmokffaa
