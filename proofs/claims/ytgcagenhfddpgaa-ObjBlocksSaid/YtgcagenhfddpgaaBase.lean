/-
  Words for memory that all texts of this seat use: bytes as cells; a slice that reads as a list (Rd); a slice that the call owns (Fr); the laws of append over them. No statement of the program stands here.
-/
import Derived.WalkKit
import Derived.ProofKit
import Derived.WalkLawsBesides
import Derived.WalkSpells
import Derived.Lib.Hide
import Derived.Maps.AppendAt
import Derived.Deep.AppendLies
import Derived.Deep.QuietTactic
import Derived.BigQuiet
import Derived.OwnWalkIn
import Derived.Laws.BytesArg
import Derived.Laws.MakeOwn
import Derived.OpenShut
namespace Go.Proofs.Ytgcagenhfddpgaa
open Go.RowKit

/-! ### bytes -/
def bv (c : UInt8) : Value := .int .u8 (c.toNat : Int)
def bvs (l : List UInt8) : List Value := l.map bv
theorem bvs_len (l : List UInt8) : (bvs l).length = l.length := by simp [bvs]
theorem bvs_app (a b : List UInt8) : bvs (a ++ b) = bvs a ++ bvs b := by simp [bvs]
theorem bvs_get (l : List UInt8) (j : Nat) : (bvs l)[j]? = l[j]?.map bv := by simp [bvs]
theorem bvs_drop (l : List UInt8) (k : Nat) : bvs (l.drop k) = (bvs l).drop k := by simp [bvs, List.map_drop]
theorem bvs_take (l : List UInt8) (k : Nat) : bvs (l.take k) = (bvs l).take k := by simp [bvs, List.map_take]
theorem bvs_one (l : List UInt8) : ∀ u ∈ bvs l, u.oneCell' = true := by
  intro u hu
  simp only [bvs, List.mem_map] at hu
  obtain ⟨c, _, rfl⟩ := hu
  rfl

/-! ### addresses -/
theorem add_block (a : Addr) (n : Nat) : (a.add n).block = a.block := by unfold Addr.add; split <;> rfl
theorem add_lit (b o n : Nat) : (⟨b, o, none⟩ : Addr).add n = ⟨b, o + n, none⟩ := by unfold Addr.add; split <;> simp_all

/-! ### a slice that reads as a list of cells: sz cells an element; its block lies below B -/
def Rd (w : World) (B sz : Nat) (A : Option Addr) (n : Nat) (xs : List Value) : Prop :=
  xs.length = n * sz ∧ (0 < n → ∃ b off, A = some ⟨b, off, none⟩ ∧ b < B ∧ ∀ j u, xs[j]? = some u → w.cell? ⟨b, off + j, none⟩ = some u)

section
variable {w w' : World} {B B' sz n : Nat} {A : Option Addr} {xs : List Value}
theorem Rd.nil_ : Rd w B sz A 0 [] := ⟨by simp, fun h => absurd h (by omega)⟩
theorem Rd.keep (h : Rd w B sz A n xs) (hk : ∀ p : Addr, p.block < B → w'.cell? p = w.cell? p) : Rd w' B sz A n xs :=
  ⟨h.1, fun hn => by
    obtain ⟨b, off, e, hb, hc⟩ := h.2 hn
    exact ⟨b, off, e, hb, fun j u hu => (hk _ hb).trans (hc j u hu)⟩⟩
theorem Rd.more (h : Rd w B sz A n xs) (hB : B ≤ B') : Rd w B' sz A n xs :=
  ⟨h.1, fun hn => by
    obtain ⟨b, off, e, hb, hc⟩ := h.2 hn
    exact ⟨b, off, e, by omega, hc⟩⟩
theorem Rd.below (h : Rd w B sz A n xs) (hb : Below B w w') : Rd w' B sz A n xs := h.keep fun _ hp => hb.cell hp
theorem Rd.belowH {H : Nat} (h : Rd w B sz A n xs) (hb : Below H w w') (hB : B ≤ H) : Rd w' B sz A n xs := h.keep fun _ hp => hb.cell (by omega)
theorem Rd.drew (h : Rd w B sz A n xs) : Rd w.drew B sz A n xs := h
theorem Rd.drewN (h : Rd w B sz A n xs) (k : Nat) : Rd (w.drewN k) B sz A n xs := h
theorem Rd.alloc (h : Rd w B sz A n xs) (hB : B ≤ w.heap.size) (o : Obj) : Rd (w.alloc o) B sz A n xs := h.keep fun p hp => World.cell?_alloc_lt w o p (by omega)
theorem Rd.setCell (h : Rd w B sz A n xs) {p : Addr} (hB : B ≤ p.block) (u : Value) : Rd (w.setCell p u) B sz A n xs :=
  h.keep fun q hq => World.cell?_setCell_other w p q u (fun e => by subst e; omega)
theorem Rd.grown (h : Rd w B sz A n xs) {row : Option Nat} (hg : w.grownBy w' row) (hB : B ≤ w.heap.size) (hr : ∀ g, row = some g → B ≤ g) : Rd w' B sz A n xs :=
  h.keep fun p hp => World.cell?_of_block (hg.block p.block (by omega) (fun e => by have := hr _ e.symm; omega))
/-- Behind a step that turns one row alone: the block is another one. -/
theorem Rd.grown_ne (h : Rd w B sz A n xs) {row : Option Nat} (hg : w.grownBy w' row) (hB : B ≤ w.heap.size) (hr : ∀ a, A = some a → some a.block ≠ row) : Rd w' B sz A n xs :=
  ⟨h.1, fun hn => by
    obtain ⟨b, off, e, hb, hc⟩ := h.2 hn
    exact ⟨b, off, e, hb, fun j u hu => (World.cell?_of_block (a := ⟨b, off + j, none⟩) (hg.block b (by omega) (hr _ e))).trans (hc j u hu)⟩⟩
theorem Rd.len (h : Rd w B sz A n xs) : xs.length = n * sz := h.1
theorem Rd.at_ {k : Nat} (h : Rd w B 1 A n xs) (hk : k < n) : ∃ b off u, A = some ⟨b, off, none⟩ ∧ b < B ∧ xs[k]? = some u ∧ w.cell? ⟨b, off + k, none⟩ = some u := by
  obtain ⟨b, off, e, hb, hc⟩ := h.2 (by omega)
  have hl : k < xs.length := by have := h.1; omega
  exact ⟨b, off, xs[k], e, hb, List.getElem?_eq_getElem hl, hc k _ (List.getElem?_eq_getElem hl)⟩
/-- The first elements alone. -/
theorem Rd.take (h : Rd w B sz A n xs) {k : Nat} (hk : k ≤ n) : Rd w B sz A k (xs.take (k * sz)) :=
  ⟨by rw [List.length_take, h.1]; exact Nat.min_eq_left (Nat.mul_le_mul_right _ hk), fun hk0 => by
    obtain ⟨b, off, e, hb, hc⟩ := h.2 (by omega)
    refine ⟨b, off, e, hb, fun j u hu => hc j u ?_⟩
    rw [List.getElem?_take] at hu
    split at hu
    · exact hu
    · cases hu⟩
/-- A piece, as the model spells it. -/
theorem Rd.cut (h : Rd w B sz A n xs) {l m : Nat} (hl : l ≤ n) (hm : n ≤ m) : Rd w B sz (if m = l then A else A.map (·.add (l * sz))) (n - l) (xs.drop (l * sz)) := by
  refine ⟨by rw [List.length_drop, h.1, Nat.sub_mul], fun hn => ?_⟩
  obtain ⟨b, off, rfl, hb, hc⟩ := h.2 (by omega)
  rw [if_neg (by omega)]
  refine ⟨b, off + l * sz, by simp [add_lit], hb, fun j u hu => ?_⟩
  rw [Nat.add_assoc]
  exact hc _ u (by rw [← hu, List.getElem?_drop])
end

/-- A block that was made just now. -/
theorem Rd.made (w : World) (e : TypeId) (sz n : Nat) (vs : List Value) (h : vs.length = n * sz) : Rd (w.alloc (.cells vs.toArray e)) (w.heap.size + 1) sz (some ⟨w.heap.size, 0, none⟩) n vs :=
  ⟨h, fun _ => ⟨w.heap.size, 0, rfl, Nat.lt_succ_self _, fun j u hu => by
    rw [Nat.zero_add, cell_of_row _ _ j vs.toArray e (0, 0) (heap_alloc_new w _)]
    simpa using hu⟩⟩
theorem ones1 {v : Value} (h : v.oneCell' = true) : ∀ u ∈ [v], u.oneCell' = true := by
  intro u hu
  obtain rfl : u = v := by simpa using hu
  exact h

/-! ### a slice that the call owns -/
def rowOf (A : Option Addr) (c : Nat) : Option Nat := if c = 0 then none else A.map (·.block)
theorem rowOf_zero (A : Option Addr) : rowOf A 0 = none := by simp [rowOf]
theorem rowOf_some (g o c : Nat) (hc : 0 < c) : rowOf (some ⟨g, o, none⟩) c = some g := by simp [rowOf]; omega

def Fr (w : World) (base : Nat) (e : TypeId) (sz : Nat) (A : Option Addr) (n c : Nat) (xs : List Value) : Prop :=
  xs.length = n * sz ∧ n ≤ c ∧ c ≤ maxLen ∧ (c = 0 ∨ ∃ g cur fz, A = some ⟨g, 0, none⟩ ∧ base ≤ g ∧ w.heap[g]? = some (.cells cur e fz) ∧ (∀ i, i < cur.size → (decide (fz.1 ≤ i) && decide (i < fz.2)) = false) ∧ cur.size = c * sz ∧ cur.toList.take (n * sz) = xs)

section
variable {w w' : World} {base sz n c : Nat} {e : TypeId} {A : Option Addr} {xs : List Value}
theorem Fr.none_ : Fr w base e sz none 0 0 [] := ⟨by simp, Nat.le_refl _, Nat.zero_le _, .inl rfl⟩
theorem Fr.zero_ : Fr w base e sz A 0 0 [] := ⟨by simp, Nat.le_refl _, Nat.zero_le _, .inl rfl⟩
theorem Fr.len (h : Fr w base e sz A n c xs) : xs.length = n * sz := h.1
theorem Fr.nc (h : Fr w base e sz A n c xs) : n ≤ c := h.2.1
theorem Fr.cm (h : Fr w base e sz A n c xs) : c ≤ maxLen := h.2.2.1
theorem Fr.row (h : Fr w base e sz A n c xs) : ∀ g, rowOf A c = some g → base ≤ g ∧ g < w.heap.size := by
  intro g hg
  rcases h.2.2.2 with rfl | ⟨g', cur, fz, rfl, hb, hh, _⟩
  · simp [rowOf] at hg
  · have : g' = g := by
      unfold rowOf at hg
      split at hg
      · cases hg
      · simpa using hg
    subst this
    exact ⟨hb, (Array.getElem?_eq_some_iff.1 hh).1⟩
theorem Fr.kept {row : Option Nat} (h : Fr w base e sz A n c xs) (hg : w.grownBy w' row) (hne : rowOf A c = none ∨ rowOf A c ≠ row) : Fr w' base e sz A n c xs := by
  refine ⟨h.1, h.2.1, h.2.2.1, ?_⟩
  rcases h.2.2.2 with h0 | ⟨g, cur, fz, rfl, hb, hh, rest⟩
  · exact .inl h0
  · by_cases hc : c = 0
    · exact .inl hc
    · refine .inr ⟨g, cur, fz, rfl, hb, ?_, rest⟩
      rw [hg.block g (Array.getElem?_eq_some_iff.1 hh).1 (by rw [rowOf_some g 0 c (by omega)] at hne; simpa using hne)]
      exact hh
theorem Fr.below {H : Nat} (h : Fr w base e sz A n c xs) (hb : Below H w w') (hH : w.heap.size ≤ H) : Fr w' base e sz A n c xs :=
  h.kept (row := none) ⟨hb.os, hb.tape, hb.output, hb.size, fun k hk _ => hb.block k (by omega)⟩ (by cases rowOf A c <;> simp)
theorem Fr.alloc (h : Fr w base e sz A n c xs) (o : Obj) : Fr (w.alloc o) base e sz A n c xs :=
  h.kept (World.grownBy_alloc w o none) (by cases rowOf A c <;> simp)
theorem Fr.drew (h : Fr w base e sz A n c xs) : Fr w.drew base e sz A n c xs := h
theorem Fr.drewN (h : Fr w base e sz A n c xs) (k : Nat) : Fr (w.drewN k) base e sz A n c xs := h
theorem Fr.setCell (h : Fr w base e sz A n c xs) {p : Addr} (hp : rowOf A c ≠ some p.block) (u : Value) : Fr (w.setCell p u) base e sz A n c xs :=
  h.kept (row := some p.block) ⟨rfl, rfl, rfl, by simp [World.setCell], fun k _ hk => Below.heap_setCell _ _ _ _ (fun e => hk (by rw [e]))⟩ (.inr hp)
theorem Fr.mono {base' : Nat} (h : Fr w base e sz A n c xs) (hb : base' ≤ base) : Fr w base' e sz A n c xs := by
  refine ⟨h.1, h.2.1, h.2.2.1, ?_⟩
  rcases h.2.2.2 with h0 | ⟨g, cur, fz, rfl, hbb, rest⟩
  · exact .inl h0
  · exact .inr ⟨g, cur, fz, rfl, by omega, rest⟩
theorem Fr.rd (h : Fr w base e sz A n c xs) : Rd w w.heap.size sz A n xs := by
  refine ⟨h.1, fun hn => ?_⟩
  rcases h.2.2.2 with h0 | ⟨g, cur, fz, rfl, hb, hh, _, hcs, ht⟩
  · have := h.2.1; omega
  · refine ⟨g, 0, rfl, (Array.getElem?_eq_some_iff.1 hh).1, fun j u hu => ?_⟩
    rw [Nat.zero_add, cell_of_row w g j cur e fz hh]
    rw [← ht, List.getElem?_take] at hu
    split at hu
    · simpa using hu
    · cases hu
theorem Fr.owns (h : w.ownsRow base e sz (.slice A n c) n xs) : Fr w base e sz A n c xs := by
  refine ⟨h.1, ?_⟩
  rcases h.2 with ⟨hv, _⟩ | ⟨g, cap, cur, hv, hb, hh, hnc, hcm, hcs, ht⟩
  · injection hv with h1 h2 h3
    subst h1 h2 h3
    exact ⟨Nat.le_refl _, Nat.zero_le _, .inl rfl⟩
  · injection hv with h1 _ h3
    subst h1 h3
    exact ⟨hnc, hcm, .inr ⟨g, cur, (0, 0), rfl, hb, hh, by simp, hcs, ht⟩⟩
/-- A block that was made just now, whole. -/
theorem Fr.made (w : World) (cur : Array Value) (n c : Nat) (hb : base ≤ w.heap.size) (hm : c ≤ maxLen) (hn : n ≤ c) (hs : cur.size = c * sz) (hx : xs.length = n * sz) (ht : cur.toList.take (n * sz) = xs) :
    Fr (w.alloc (.cells cur e)) base e sz (some ⟨w.heap.size, 0, none⟩) n c xs :=
  ⟨hx, hn, hm, .inr ⟨w.heap.size, cur, (0, 0), rfl, hb, heap_alloc_new w _, by simp, hs, ht⟩⟩
/-- Its first elements. -/
theorem Fr.take (h : Fr w base e sz A n c xs) {k : Nat} (hk : k ≤ n) : Fr w base e sz A k c (xs.take (k * sz)) := by
  have hkn : k * sz ≤ n * sz := Nat.mul_le_mul_right _ hk
  refine ⟨by rw [List.length_take, h.1]; exact Nat.min_eq_left hkn, Nat.le_trans hk h.2.1, h.2.2.1, ?_⟩
  rcases h.2.2.2 with h0 | ⟨g, cur, fz, rfl, hb, hh, hf, hs, ht⟩
  · exact .inl h0
  · refine .inr ⟨g, cur, fz, rfl, hb, hh, hf, hs, ?_⟩
    rw [← ht, List.take_take, Nat.min_eq_left hkn]
end

theorem below_grown {B : Nat} {a w w' : World} {row : Option Nat} (h : Below B a w) (hg : w.grownBy w' row) (hB : B ≤ w.heap.size) (hr : ∀ k, row = some k → B ≤ k) : Below B a w' := h.grown hg hB hr
theorem below_drewN {B : Nat} {a w : World} (h : Below B a w) (n : Nat) : Below B a (w.drewN n) := ⟨h.os, h.tape, h.output, h.size, h.block⟩
theorem grownBy_below {w w' : World} {row : Option Nat} (hg : w.grownBy w' row) {B : Nat} (hB : B ≤ w.heap.size) (hr : ∀ k, row = some k → B ≤ k) : Below B w w' := (Below.refl B w).grown hg hB hr

/-! ### append -/
/-- What the program's tables say of a slice type t of elements e: sz cells, by bytes, the zero value z. -/
def ElemOk (P : Program) (t e : TypeId) (sz bys : Nat) (z : Value) : Prop :=
  P.underlying t = some (.slice e) ∧ z.cells.size = sz ∧ 0 < sz ∧ ∃ i, P.info? e = some i ∧ i.zero = some z ∧ i.size = sz ∧ i.bytes = bys

section
variable {P : Program} {w : World} {t e : TypeId} {sz bys : Nat} {z : Value}

theorem run_first {B : Nat} {A : Option Addr} {n : Nat} {xs : List Value} (h : Rd w B sz A n xs) (k c : Nat) : (Builtin.firstCells sz n (.slice A k c)).run P w = .ok xs.toArray w := by
  rcases Nat.eq_zero_or_pos n with rfl | hn
  · have hx : xs = [] := List.eq_nil_of_length_eq_zero (by simpa using h.1)
    subst hx
    cases A with
    | none => simp [Builtin.firstCells]
    | some a => exact run_firstCells_some w sz 0 a k c [] (by simp) (by simp)
  · obtain ⟨b, off, rfl, _, hc⟩ := h.2 hn
    exact run_firstCells_some w sz n ⟨b, off, none⟩ k c xs h.1 (fun j v hv => by rw [add_lit]; exact hc j v hv)

theorem storeCells_fz (g o : Nat) (t : TypeId) (fz : Nat × Nat) : ∀ (vs : List Value) (i : Nat) (cur : Array Value) (w : World), w.heap[g]? = some (.cells cur t fz) → (∀ i, i < cur.size → (decide (fz.1 ≤ i) && decide (i < fz.2)) = false) → o + i + vs.length ≤ cur.size → (∀ v ∈ vs, v.oneCell' = true) →
    (storeCells ⟨g, o, none⟩ vs i).run P w = .ok () (w.setRow g (cur.toList.take (o + i) ++ vs ++ cur.toList.drop (o + i + vs.length)).toArray)
  | [], i, cur, w, hg, _, _, _ => by
    simp only [storeCells, List.append_nil, List.length_nil, Nat.add_zero, List.take_append_drop, Array.toArray_toList]
    rw [setRow_self w g cur t fz hg]
    rfl
  | v :: rest, i, cur, w, hg, hf, hl, h1 => by
    have hi : o + i < cur.size := by simp at hl; omega
    have hcell : w.cell? ⟨g, o + i, none⟩ = some cur[o + i] := by simp [World.cell?, hg, hi]
    have hfro : w.frozen? ⟨g, o + i, none⟩ = false := by
      have := hf (o + i) hi
      obtain ⟨lo, hi'⟩ := fz
      simp only [World.frozen?, hg]
      exact this
    have hst : (store ((⟨g, o, none⟩ : Addr).add i) v).run P w = .ok () (w.setRow g (cur.setIfInBounds (o + i) v)) := by
      rw [add_lit, run_store P w _ v _ (h1 v (by simp)), hcell]
      simp [hfro, setCell_eq_setRow w g (o + i) cur t fz v hg]
    have ih := storeCells_fz g o t fz rest (i + 1) (cur.setIfInBounds (o + i) v) (w.setRow g (cur.setIfInBounds (o + i) v)) (setRow_heap w g cur _ t _ hg) (by simpa using hf) (by simp at hl ⊢; omega) (fun x hx => h1 x (by simp [hx]))
    simp only [storeCells, Sem.run_bind, hst, Result.andThen_ok, ih, setRow_setRow]
    congr 3
    have e := list_seg_step cur.toList (o + i) v rest (by simp at hl ⊢; omega)
    simpa [Array.toList_setIfInBounds, Nat.add_assoc] using e

/-- The row has no room: a new one. -/
theorem run_append_more (ok : ElemOk P t e sz bys z) (ty : TypeId) {B B' : Nat} {A A' : Option Addr} {n c m c' : Nat} {xs ys : List Value} (hx : Rd w B sz A n xs) (hy : Rd w B' sz A' m ys)
    (hg : c < n + m) (h63 : n + m ≤ maxLen) (hb : (n + m) * bys ≤ 140737488355328) :
    (Builtin.append_ #[t, t] ty #[.slice A n c, .slice A' m c']).run P w =
      .ok (.slice (some ⟨w.heap.size, 0, none⟩) (n + m) (grownCap w (n + m) c e)) (w.drew.alloc (.cells (xs.toArray ++ ys.toArray ++ Builtin.zeroCells z.cells (grownCap w (n + m) c e - (n + m))) e)) := by
  obtain ⟨ht, hzs, hsz, i, hi, hz, rfl, rfl⟩ := ok
  have hn : ¬ (n + m ≤ c) := by omega
  have h63' : ¬ (9223372036854775807 < ((n : Int) + (m : Int))) := by unfold maxLen at h63; omega
  have hfit := growslice_fits hg hb
  have h48' : ¬ (281474976710656 < Builtin.nextslicecap (n + m) c * i.bytes) := by omega
  have h1 := run_first (P := P) (w := w.drew) hx n c
  have h2 := run_first (P := P) (w := w.drew) hy m c'
  simp [Builtin.append_, run_underlying ht, sizeOf, typeInfo, zeroValue, hi, hz, Builtin.lenOf, hn, h63', h48', Question.forced, h1, h2, newRow, grownCap]
  have e1 : (xs ++ ys).toArray = xs.toArray ++ ys.toArray := by simp
  rw [e1, Array.append_assoc]

theorem fr_more (ok : ElemOk P t e sz bys z) {n c m : Nat} {xs ys : List Value} (hx : xs.length = n * sz) (hy : ys.length = m * sz) (h63 : n + m ≤ maxLen) {base : Nat} (hb : base ≤ w.heap.size) :
    Fr (w.drew.alloc (.cells (xs.toArray ++ ys.toArray ++ Builtin.zeroCells z.cells (grownCap w (n + m) c e - (n + m))) e)) base e sz (some ⟨w.heap.size, 0, none⟩) (n + m) (grownCap w (n + m) c e) (xs ++ ys) := by
  obtain ⟨_, hzs, _⟩ := ok
  have hge := grownCap_ge w (n + m) c e
  refine Fr.made w.drew _ _ _ hb (grownCap_le_maxLen w (n + m) c e h63) hge ?_ (by rw [List.length_append, hx, hy, Nat.add_mul]) ?_
  · simp only [Array.size_append, List.size_toArray, size_zeroCells, hzs, hx, hy, ← Nat.add_mul]
    congr 1
    omega
  · simp only [Array.toList_append]
    rw [Nat.add_mul, ← hx, ← hy, ← List.length_append]
    exact List.take_left

/-- append onto a slice of the call's own. -/
theorem run_append_fr (ok : ElemOk P t e sz bys z) (ty : TypeId) {base B : Nat} {A A' : Option Addr} {n c m c' : Nat} {xs ys : List Value} (hx : Fr w base e sz A n c xs) (hy : Rd w B sz A' m ys) (h1 : ∀ u ∈ ys, u.oneCell' = true)
    (h63 : n + m ≤ maxLen) (hb : (n + m) * bys ≤ 140737488355328) (hbase : base ≤ w.heap.size) :
    ∃ D d w', (Builtin.append_ #[t, t] ty #[.slice A n c, .slice A' m c']).run P w = .ok (.slice D (n + m) d) w' ∧ Fr w' base e sz D (n + m) d (xs ++ ys) ∧ w.grownBy w' (rowOf A c) ∧ (rowOf D d = rowOf A c ∨ rowOf D d = some w.heap.size) := by
  by_cases hroom : n + m ≤ c
  · rcases Nat.eq_zero_or_pos c with rfl | hc
    · obtain rfl : n = 0 := by omega
      obtain rfl : m = 0 := by omega
      have hx0 : xs = [] := List.eq_nil_of_length_eq_zero (by simpa using hx.1)
      have hy0 : ys = [] := List.eq_nil_of_length_eq_zero (by simpa using hy.1)
      subst hx0 hy0
      refine ⟨A, 0, w, ?_, Fr.zero_, ⟨rfl, rfl, rfl, Nat.le_refl _, fun _ _ _ => rfl⟩, .inl rfl⟩
      obtain ⟨ht, hzs, hsz, i, hi, hz, rfl, rfl⟩ := ok
      have h2 := run_first (P := P) hy 0 c'
      cases A with
      | none => simp [Builtin.append_, run_underlying ht, sizeOf, typeInfo, hi, Builtin.lenOf, h2]
      | some a => simp [Builtin.append_, run_underlying ht, sizeOf, typeInfo, hi, Builtin.lenOf, h2, storeCells]
    · obtain ⟨g, cur, fz, rfl, hbg, hh, hf, hs, ht⟩ := hx.2.2.2.resolve_left (by omega)
      obtain ⟨htt, hzs, hsz, i, hi, hz, rfl, rfl⟩ := ok
      have hfit : n * i.size + ys.length ≤ cur.size := by rw [hy.1, hs, ← Nat.add_mul]; exact Nat.mul_le_mul_right _ hroom
      have h2 := run_first (P := P) hy m c'
      have hst := storeCells_fz (P := P) g (n * i.size) e fz ys 0 cur w hh hf (by simpa using hfit) h1
      simp only [Nat.add_zero] at hst
      refine ⟨some ⟨g, 0, none⟩, c, w.setRow g (cur.toList.take (n * i.size) ++ ys ++ cur.toList.drop (n * i.size + ys.length)).toArray, ?_, ⟨?_, hroom, hx.cm, .inr ⟨g, _, fz, rfl, hbg, setRow_heap w g cur _ e _ hh, ?_, ?_, ?_⟩⟩, ⟨rfl, rfl, rfl, by simp, fun k _ hk => ?_⟩, .inl rfl⟩
      · simp [Builtin.append_, run_underlying htt, sizeOf, typeInfo, hi, Builtin.lenOf, hroom, h2, add_lit, hst]
      · rw [List.length_append, hx.1, hy.1, Nat.add_mul]
      · intro j hj
        refine hf j ?_
        simp only [List.size_toArray, List.length_append, List.length_take, List.length_drop, Array.length_toList] at hj
        omega
      · simp only [List.size_toArray, List.length_append, List.length_take, List.length_drop, Array.length_toList]
        omega
      · rw [ht, Nat.add_mul, ← hx.1, ← hy.1, ← List.length_append]
        exact List.take_left
      · exact setRow_other w g k _ (fun e => hk (by rw [rowOf_some g 0 c hc, e]))
  · have hr := run_append_more (c := c) (c' := c') ok ty hx.rd hy (Nat.lt_of_not_le hroom) h63 hb
    refine ⟨_, _, _, hr, fr_more ok hx.1 hy.1 h63 hbase, ⟨rfl, rfl, rfl, by simp, fun k hk _ => Below.heap_alloc w.drew _ k hk⟩, .inr ?_⟩
    refine rowOf_some _ 0 _ ?_
    have := grownCap_ge w (n + m) c e
    omega

/-- An operation whose run is known. -/
theorem wpList_run {ops : Array Oper} {rest : List Oper} {o : Oper} {a : Act} {Q : Exit → Act → World → Prop} (hgd : o.guard = none) {v : Value} {w' : World} (hr : (execOp a.eval o).run P w = .ok (.value v) w')
    (h : wpList P ops Q rest (a.put o.dst v) w') : wpList P ops Q (o :: rest) a w :=
  wpList_plain hgd fun K hK => by
    unfold Oper.wp
    rw [hr]
    exact hK _ _ h
theorem exec_append {o : Oper} {a : Act} {s x : Operand} {u : TypeId} (ho : o.op = .call { callee := .builtin .append, args := #[s, x], argTypes := #[t, u] }) {S X v : Value} {w' : World}
    (hs : a.eval s = S) (hx : a.eval x = X) (hr : (Builtin.append_ #[t, u] o.type #[S, X]).run P w = .ok v w') : (execOp a.eval o).run P w = .ok (.value v) w' := by
  unfold execOp
  simp only [ho, resolve, invoke, builtin, Sem.run_bind, Sem.run_pure, Result.andThen_ok, List.map_toArray, List.map_cons, List.map_nil, hs, hx, hr]

/-- 'x = append(s, ys...)', s the call's own. -/
theorem wpList_append_fr {ops : Array Oper} {rest : List Oper} {o : Oper} {a : Act} {Q : Exit → Act → World → Prop} (hgd : o.guard = none) (s x : Operand)
    (ho : o.op = .call { callee := .builtin .append, args := #[s, x], argTypes := #[t, t] }) (ok : ElemOk P t e sz bys z)
    {base B : Nat} {A A' : Option Addr} {n c m c' : Nat} {xs ys : List Value} (hs : a.eval s = .slice A n c) (hfr : Fr w base e sz A n c xs) (hx : a.eval x = .slice A' m c') (hrd : Rd w B sz A' m ys) (h1 : ∀ u ∈ ys, u.oneCell' = true)
    (h63 : n + m ≤ maxLen) (hb : (n + m) * bys ≤ 140737488355328) (hbase : base ≤ w.heap.size)
    (h : ∀ D d w', Fr w' base e sz D (n + m) d (xs ++ ys) → w.grownBy w' (rowOf A c) → (rowOf D d = rowOf A c ∨ rowOf D d = some w.heap.size) → wpList P ops Q rest (a.put o.dst (.slice D (n + m) d)) w') : wpList P ops Q (o :: rest) a w := by
  obtain ⟨D, d, w', hr, h2, h3, h4⟩ := run_append_fr ok o.type hfr hrd h1 h63 hb hbase
  exact wpList_run hgd (exec_append ho hs hx hr) (h D d w' h2 h3 h4)
/-- .. with the sums named. -/
theorem wpList_append_to {ops : Array Oper} {rest : List Oper} {o : Oper} {a : Act} {Q : Exit → Act → World → Prop} (hgd : o.guard = none) (s x : Operand)
    (ho : o.op = .call { callee := .builtin .append, args := #[s, x], argTypes := #[t, t] }) (ok : ElemOk P t e sz bys z)
    {base B : Nat} {A A' : Option Addr} {n c m c' : Nat} {xs ys : List Value} (hs : a.eval s = .slice A n c) (hfr : Fr w base e sz A n c xs) (hx : a.eval x = .slice A' m c') (hrd : Rd w B sz A' m ys) (h1 : ∀ u ∈ ys, u.oneCell' = true)
    (nm : Nat) (hnm : n + m = nm) (zs : List Value) (hzs : xs ++ ys = zs) (h63 : nm ≤ maxLen) (hb : nm * bys ≤ 140737488355328) (hbase : base ≤ w.heap.size)
    (h : ∀ D d w', Fr w' base e sz D nm d zs → w.grownBy w' (rowOf A c) → (rowOf D d = rowOf A c ∨ rowOf D d = some w.heap.size) → wpList P ops Q rest (a.put o.dst (.slice D nm d)) w') : wpList P ops Q (o :: rest) a w := by
  subst hnm hzs
  exact wpList_append_fr hgd s x ho ok hs hfr hx hrd h1 h63 hb hbase h
/-- 'x = append(s, ys...)', s has no room. -/
theorem wpList_append_more {ops : Array Oper} {rest : List Oper} {o : Oper} {a : Act} {Q : Exit → Act → World → Prop} (hgd : o.guard = none) (s x : Operand)
    (ho : o.op = .call { callee := .builtin .append, args := #[s, x], argTypes := #[t, t] }) (ok : ElemOk P t e sz bys z)
    {B B' : Nat} {A A' : Option Addr} {n c m c' : Nat} {xs ys : List Value} (hs : a.eval s = .slice A n c) (hxs : Rd w B sz A n xs) (hx : a.eval x = .slice A' m c') (hrd : Rd w B' sz A' m ys)
    (hg : c < n + m) (h63 : n + m ≤ maxLen) (hb : (n + m) * bys ≤ 140737488355328)
    (h : ∀ d w', Fr w' w.heap.size e sz (some ⟨w.heap.size, 0, none⟩) (n + m) d (xs ++ ys) → Below w.heap.size w w' → w.heap.size < w'.heap.size → wpList P ops Q rest (a.put o.dst (.slice (some ⟨w.heap.size, 0, none⟩) (n + m) d)) w') : wpList P ops Q (o :: rest) a w := by
  have hr := run_append_more (w := w) (c' := c') ok o.type hxs hrd hg h63 hb
  refine wpList_run hgd (exec_append ho hs hx hr) (h _ _ (fr_more ok hxs.1 hrd.1 h63 (Nat.le_refl _)) ?_ (by simp))
  exact ((Below.refl _ w).drew).alloc (Nat.le_refl _) _
end

section
variable {F : Fence} {N : Nat} {P : Program} {w : World} {t e : TypeId} {sz bys : Nat} {z : Value}
theorem wpListIn_run {ops : Array Oper} {rest : List Oper} {o : Oper} {a : Act} {Q : Exit → Act → World → Prop} (hgd : o.guard = none) (hd : ∀ c, o.op ≠ .defer c) (hab : o.about P w a.eval = none) {v : Value} {w' : World} (hr : (execOp a.eval o).run P w = .ok (.value v) w')
    (h : wpListIn F N P ops Q rest (a.put o.dst v) w') : wpListIn F N P ops Q (o :: rest) a w :=
  wpListIn_plain hgd fun K hK => by
    unfold Oper.wpIn
    refine ⟨fun f hf => (by rw [hab] at hf; cases hf), ?_⟩
    rw [Oper.semAt_plain F _ _ hd, hr]
    exact hK _ _ h
theorem wpListIn_append_fr {ops : Array Oper} {rest : List Oper} {o : Oper} {a : Act} {Q : Exit → Act → World → Prop} (hgd : o.guard = none) (s x : Operand)
    (ho : o.op = .call { callee := .builtin .append, args := #[s, x], argTypes := #[t, t] }) (ok : ElemOk P t e sz bys z)
    {base B : Nat} {A A' : Option Addr} {n c m c' : Nat} {xs ys : List Value} (hs : a.eval s = .slice A n c) (hfr : Fr w base e sz A n c xs) (hx : a.eval x = .slice A' m c') (hrd : Rd w B sz A' m ys) (h1 : ∀ u ∈ ys, u.oneCell' = true)
    (h63 : n + m ≤ maxLen) (hb : (n + m) * bys ≤ 140737488355328) (hbase : base ≤ w.heap.size)
    (h : ∀ D d w', Fr w' base e sz D (n + m) d (xs ++ ys) → w.grownBy w' (rowOf A c) → (rowOf D d = rowOf A c ∨ rowOf D d = some w.heap.size) → wpListIn F N P ops Q rest (a.put o.dst (.slice D (n + m) d)) w') : wpListIn F N P ops Q (o :: rest) a w := by
  obtain ⟨D, d, w', hr, h2, h3, h4⟩ := run_append_fr ok o.type hfr hrd h1 h63 hb hbase
  exact wpListIn_run hgd (by rw [ho]; intro c hc; cases hc) (by simp [Oper.about, ho, resolve, Target.leads, Sem.run_pure]) (exec_append ho hs hx hr) (h D d w' h2 h3 h4)
theorem wpListIn_append_to {ops : Array Oper} {rest : List Oper} {o : Oper} {a : Act} {Q : Exit → Act → World → Prop} (hgd : o.guard = none) (s x : Operand)
    (ho : o.op = .call { callee := .builtin .append, args := #[s, x], argTypes := #[t, t] }) (ok : ElemOk P t e sz bys z)
    {base B : Nat} {A A' : Option Addr} {n c m c' : Nat} {xs ys : List Value} (hs : a.eval s = .slice A n c) (hfr : Fr w base e sz A n c xs) (hx : a.eval x = .slice A' m c') (hrd : Rd w B sz A' m ys) (h1 : ∀ u ∈ ys, u.oneCell' = true)
    (nm : Nat) (hnm : n + m = nm) (zs : List Value) (hzs : xs ++ ys = zs) (h63 : nm ≤ maxLen) (hb : nm * bys ≤ 140737488355328) (hbase : base ≤ w.heap.size)
    (h : ∀ D d w', Fr w' base e sz D nm d zs → w.grownBy w' (rowOf A c) → (rowOf D d = rowOf A c ∨ rowOf D d = some w.heap.size) → wpListIn F N P ops Q rest (a.put o.dst (.slice D nm d)) w') : wpListIn F N P ops Q (o :: rest) a w := by
  subst hnm hzs
  exact wpListIn_append_fr hgd s x ho ok hs hfr hx hrd h1 h63 hb hbase h
end

/-! ### make; a store into a row of the call's own -/
theorem run_mkB {P : Program} {t e : TypeId} (ok : ElemOk P t e 1 1 (.int .u8 0)) (kl kc : IntKind) (n : Nat) (hn : n ≤ 1000000000) (w : World) :
    (Instr.makeSlice t (.int kl (n : Int)) (.int kc (n : Int))).run P w = .ok (.slice (some ⟨w.heap.size, 0, none⟩) n n) (w.alloc (.cells (bvs (List.replicate n 0)).toArray e)) := by
  obtain ⟨ht, _, _, i, hi, hz, hs, hb⟩ := ok
  have h := run_make (P := P) w t e i (.int .u8 0) ht hi hz kl kc n n (by omega) (by omega) (by rw [hb]; omega) (by omega)
  rw [h]
  simp only [Int.toNat_natCast, hs, Nat.mul_one]
  congr 3
  apply Array.ext
  · simp [madeCells, bvs]
  · intro j h1 h2
    simp [madeCells, bvs, Value.cells, bv, Nat.mod_one]
theorem fr_mkB (w : World) (e : TypeId) (n : Nat) (hn : n ≤ 1000000000) {base : Nat} (hb : base ≤ w.heap.size) : Fr (w.alloc (.cells (bvs (List.replicate n 0)).toArray e)) base e 1 (some ⟨w.heap.size, 0, none⟩) n n (bvs (List.replicate n 0)) :=
  Fr.made w _ n n hb (by unfold maxLen; omega) (Nat.le_refl _) (by simp [bvs]) (by simp [bvs]) (by simp [bvs])
theorem Fr.set {w : World} {base n c : Nat} {e : TypeId} {g : Nat} {xs : List Value} (h : Fr w base e 1 (some ⟨g, 0, none⟩) n c xs) (hc : 0 < c) (i : Nat) (u : Value) : Fr (w.setCell ⟨g, i, none⟩ u) base e 1 (some ⟨g, 0, none⟩) n c (xs.set i u) := by
  obtain ⟨h1, h2, h3, h4⟩ := h
  obtain ⟨g', cur, fz, hg', hb, hh, hf, hs, ht⟩ := h4.resolve_left (by omega)
  obtain rfl : g = g' := by injection hg' with h; injection h
  refine ⟨by simpa using h1, h2, h3, .inr ⟨g, cur.setIfInBounds i u, fz, rfl, hb, ?_, by simpa using hf, by simpa using hs, ?_⟩⟩
  · rw [setCell_eq_setRow w g i cur e fz u hh, setRow_heap w g cur _ e _ hh]
  · rw [Array.toList_setIfInBounds, List.take_set, ht]
theorem Fr.cell {w : World} {base n c : Nat} {e : TypeId} {g : Nat} {xs : List Value} (h : Fr w base e 1 (some ⟨g, 0, none⟩) n c xs) {i : Nat} (hi : i < n) : ∃ u, xs[i]? = some u ∧ w.cell? ⟨g, i, none⟩ = some u := by
  obtain ⟨b, off, u, hb, _, hx, hc⟩ := h.rd.at_ hi
  have hg : b = g ∧ off = 0 := by
    obtain ⟨_, _, _, h4⟩ := h
    injection hb with hb
    injection hb with e1 e2
    exact ⟨e1.symm, e2.symm⟩
  obtain ⟨rfl, rfl⟩ := hg
  exact ⟨u, hx, by rwa [Nat.zero_add] at hc⟩
theorem Fr.frozen {w : World} {base n c : Nat} {e : TypeId} {g : Nat} {xs : List Value} (h : Fr w base e 1 (some ⟨g, 0, none⟩) n c xs) {i : Nat} (hi : i < n) : w.frozen? ⟨g, i, none⟩ = false := by
  obtain ⟨h1, h2, h3, h4⟩ := h
  obtain ⟨g', cur, fz, hg', hb, hh, hf, hs, ht⟩ := h4.resolve_left (by omega)
  obtain rfl : g = g' := by injection hg' with h; injection h
  have := hf i (by omega)
  obtain ⟨lo, hi'⟩ := fz
  simp only [World.frozen?, hh]
  exact this
/-- A row of at least one cell is written out. -/
theorem Fr.form {w : World} {base sz n c : Nat} {e : TypeId} {A : Option Addr} {xs : List Value} (h : Fr w base e sz A n c xs) (hc : 0 < c) : ∃ g, A = some ⟨g, 0, none⟩ ∧ base ≤ g ∧ g < w.heap.size := by
  obtain ⟨g, cur, fz, hg, hb, hh, _⟩ := h.2.2.2.resolve_left (by omega)
  exact ⟨g, hg, hb, (Array.getElem?_eq_some_iff.1 hh).1⟩

/-! ### bytes as a string -/
/-- A string of bytes. -/
def str (l : List UInt8) : ByteArray := ⟨l.toArray⟩
theorem toList_mk (l : List UInt8) : (ByteArray.mk l.toArray).toList = l := by
  rw [ByteArray.toList_eq]
theorem str_toList (l : List UInt8) : (str l).toList = l := toList_mk l
theorem str_inj {a b : List UInt8} (h : str a = str b) : a = b := by
  have := congrArg ByteArray.toList h
  rwa [str_toList, str_toList] at this
theorem str_size (l : List UInt8) : (str l).size = l.length := by simp [str, ByteArray.size]

theorem run_conv {P : Program} {w : World} {src dst e : TypeId} (hs : P.underlying src = some (.slice e)) (he : P.underlying e = some (.int .u8)) (hd : P.underlying dst = some .string) {B n : Nat} {A : Option Addr} {l : List UInt8} (h : Rd w B 1 A n (bvs l)) (c : Nat) :
    (convert src dst (.slice A n c)).run P w = .ok (.string (str l)) w := by
  rcases Nat.eq_zero_or_pos n with rfl | hn
  · have hl : l = [] := by
      have := h.1
      simpa [bvs_len] using this
    subst hl
    cases A with
    | none => rw [run_convert_bytes_nil w src e hs he 0 c dst hd]; rfl
    | some a =>
      rw [run_convert_bytes_string w src dst e _ 0 c hs he hd]
      have := run_bytesToString (P := P) w a 0 c [] (run_firstCells_some (P := P) w 1 0 a 0 c [] (by simp) (by simp) |> fun h => by simpa [Builtin.firstCells] using h)
      rw [this]
      rfl
  · obtain ⟨b, off, rfl, _, hc⟩ := h.2 hn
    have hlen : l.length = n := by have := h.1; simpa [bvs_len] using this
    rw [run_convert_bytes_arg w src e hs he b off n c (l.map fun c => (c.toNat : Int)) (by simpa using hlen) (fun i hi => ?_) dst hd]
    · congr 2
      unfold str strOfNums
      congr 1
      rw [List.map_map, List.map_congr_left (g := id) (fun x _ => by simp)]
      simp
    · have hil : i < l.length := by omega
      rw [hc i (bv l[i]) (by rw [bvs_get, List.getElem?_eq_getElem hil]; rfl)]
      simp [bv, List.getElem?_eq_getElem hil]

/-! ### an argument that is a slice of bytes -/
theorem open_bytes {H : Type} {enc : TypeId × Value → H} {P : Program} {w : World} {spare : Nat → Bool} {held : Bool} {t e : TypeId} (ht : P.underlying t = some (.slice e)) (he : P.underlying e = some (.int .u8)) (hc : P.cellsOf e = 1)
    {A : Option Addr} {n c : Nat} {d : DataW H} {p : List MemPlace} (h : DataW.Trod enc P w 0 spare held t (.slice A n c) d p) :
    ∃ bs : List UInt8, bs.length = n ∧ Rd w w.heap.size 1 A n (bvs bs) ∧ n ≤ c ∧ c ≤ maxLen := by
  obtain ⟨fuel, hf⟩ := h
  rcases Go.ChangeShapes.open_ints ht he hc hf with ⟨hcs, _⟩ | ⟨x, l, cc, zs, hcs, _, hl, hm, hz, _, hcell, hwz⟩
  · simp [Value.cells] at hcs
    obtain ⟨rfl, rfl, rfl⟩ := hcs
    exact ⟨[], rfl, Rd.nil_, Nat.le_refl _, Nat.zero_le _⟩
  · simp [Value.cells] at hcs
    obtain ⟨rfl, rfl, rfl⟩ := hcs
    have hz2 : n ≤ zs.length := by rw [hz]; split <;> omega
    clear hz
    have hlen : (zs.take n).length = n := by rw [List.length_take]; omega
    refine ⟨(zs.take n).map fun z => UInt8.ofNat z.toNat, by rw [List.length_map]; exact hlen, ⟨by simp [bvs_len]; omega, fun hn => ?_⟩, hl, hm⟩
    have h0 := hcell 0 (by omega)
    have hspot : x.spot = none := by
      have := World.cell?_spot h0
      simpa [Addr.add] using this
    obtain ⟨b, off, spot⟩ := x
    simp only at hspot
    subst hspot
    refine ⟨b, off, rfl, ?_, fun j u hu => ?_⟩
    · rw [add_lit] at h0
      exact World.block_lt_of_cell? w _ h0
    · rw [bvs_get, List.getElem?_map, List.getElem?_take] at hu
      by_cases hj : j < n
      · have hjz : j < zs.length := by omega
        rw [if_pos hj, List.getElem?_eq_getElem hjz] at hu
        have hcj := hcell j hjz
        rw [add_lit] at hcj
        rw [hcj, ← hu]
        have hw := hwz zs[j] (List.getElem_mem hjz)
        have hb := Go.bounds_u8 hw
        simp only [Option.map_some, List.getD_eq_getElem?_getD, List.getElem?_eq_getElem hjz, Option.getD_some, bv]
        congr 2
        rw [UInt8.toNat_ofNat']
        omega
      · rw [if_neg hj] at hu
        cases hu
end Go.Proofs.Ytgcagenhfddpgaa
