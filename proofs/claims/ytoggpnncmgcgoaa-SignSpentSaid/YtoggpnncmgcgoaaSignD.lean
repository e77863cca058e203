/-
  Rows of rows of bytes: a level of nodes, and all levels; marks at a function's end.
-/
import Derived.Test.YtoggpnncmgcgoaaSignC
import Derived.Test.YtoggpnncmgcgoaaChunkV
namespace Go.Proofs.Ytoggpnncmgcgoaa
open Go.RowKit Go.Shelf
set_option linter.unusedVariables false
set_option linter.unusedSimpArgs false
set_option maxRecDepth 100000

theorem info_bb : (Try.prog.info? 22).map (fun i => (i.zero, i.size, i.bytes)) = some (some (.slice none 0 0), 1, 24) := by kernel_rfl
theorem okBB : ElemOk Try.prog 56 22 1 24 (.slice none 0 0) := by
  obtain ⟨i0, hi, hz0, hz1, hz2⟩ := info_parts info_bb
  exact ⟨Try.underlying56, rfl, by decide, i0, hi, hz0, hz1, hz2⟩
theorem info_bbb : (Try.prog.info? 56).map (fun i => (i.zero, i.size, i.bytes)) = some (some (.slice none 0 0), 1, 24) := by kernel_rfl
theorem okBBB : ElemOk Try.prog 86 56 1 24 (.slice none 0 0) := by
  obtain ⟨i0, hi, hz0, hz1, hz2⟩ := info_parts info_bbb
  exact ⟨Try.underlying86, rfl, by decide, i0, hi, hz0, hz1, hz2⟩

/-- A block of cells of another kind. -/
def Kind (w : World) (row : Option Nat) (ts : List TypeId) : Prop := ∀ g, row = some g → ∃ cur t fz, w.heap[g]? = some (.cells cur t fz) ∧ t ∉ ts
theorem kind_none (w : World) (ts : List TypeId) : Kind w none ts := fun g e => by cases e
theorem kind_fr {w : World} {base sz n c : Nat} {e : TypeId} {A : Option Addr} {xs : List Value} (h : Fr w base e sz A n c xs) {ts : List TypeId} (hne : e ∉ ts) : Kind w (rowOf A c) ts := fun g hg => by
  obtain ⟨cur, fz, hc⟩ := h.cells_ g hg
  exact ⟨cur, e, fz, hc, hne⟩
theorem kind_box {w : World} {b : Nat} {t : TypeId} {v : Value} (h : Boxed w b t v) {ts : List TypeId} (hne : t ∉ ts) : Kind w (some b) ts := fun g hg => by
  cases hg
  exact ⟨_, t, _, h, hne⟩
theorem grown_setCell (w : World) (b : Nat) (v : Value) : w.grownBy (w.setCell ⟨b, 0, none⟩ v) (some b) := ⟨rfl, rfl, rfl, by simp [World.setCell], fun k _ hk => Below.heap_setCell _ _ _ _ (fun e => hk (by rw [e]))⟩
theorem grown_of_below {w w' : World} (hb : Below w.heap.size w w') : w.grownBy w' none := ⟨hb.os, hb.tape, hb.output, hb.size, fun k hk _ => hb.block k hk⟩
theorem Fr.kind {w w' : World} {base sz n c : Nat} {e : TypeId} {A : Option Addr} {xs : List Value} {row : Option Nat} (h : Fr w base e sz A n c xs) (hg : w.grownBy w' row) (hr : Kind w row [e]) : Fr w' base e sz A n c xs := by
  refine h.kept hg ?_
  by_cases hn : rowOf A c = none
  · exact .inl hn
  · refine .inr fun e1 => ?_
    obtain ⟨g, hg1⟩ := Option.ne_none_iff_exists'.1 hn
    obtain ⟨cur, fz, hc⟩ := h.cells_ g hg1
    obtain ⟨cur', t, fz', hc', ht⟩ := hr g (by rw [← e1, hg1])
    rw [hc] at hc'
    cases hc'
    exact ht (by simp)

/-- A slice of sixteen bytes. -/
def El (w : World) (base : Nat) (v : Value) (l : List UInt8) : Prop := ∃ D d, v = .slice D 16 d ∧ l.length = 16 ∧ Fr w base 5 1 D 16 d (bvs l)
theorem El.kept {w w' : World} {base : Nat} {v : Value} {l : List UInt8} {row : Option Nat} (h : El w base v l) (hg : w.grownBy w' row) (hr : Kind w row [5]) : El w' base v l := by
  obtain ⟨D, d, e, hl, hf⟩ := h
  exact ⟨D, d, e, hl, hf.kind hg hr⟩
theorem El.own {w w' : World} {base : Nat} {v : Value} {l : List UInt8} {row : Option Nat} (h : El w base v l) (hg : w.grownBy w' row) (hr : ∀ r, row = some r → ∃ o : Obj, w.heap[r]? = some o ∧ o.isCells = false) : El w' base v l := by
  obtain ⟨D, d, e, hl, hf⟩ := h
  exact ⟨D, d, e, hl, hf.own hg hr⟩
/-- A level: a row of them; the row lies from rb on, its elements from eb on. -/
def Lvl (w : World) (rb eb : Nat) (A : Option Addr) (n c : Nat) (L : List (List UInt8)) : Prop :=
  ∃ vs : List Value, L.length = n ∧ Fr w rb 22 1 A n c vs ∧ ∀ (j : Nat) (l : List UInt8), L[j]? = some l → ∃ v, vs[j]? = some v ∧ El w eb v l
theorem Lvl.nil_ {w : World} {rb eb : Nat} : Lvl w rb eb none 0 0 [] := ⟨[], rfl, Fr.none_, fun j l h => by simp at h⟩
theorem Lvl.kept {w w' : World} {rb eb n c : Nat} {A : Option Addr} {L : List (List UInt8)} {row : Option Nat} (h : Lvl w rb eb A n c L) (hg : w.grownBy w' row) (h1 : rowOf A c = none ∨ rowOf A c ≠ row) (hr : Kind w row [5]) : Lvl w' rb eb A n c L := by
  obtain ⟨vs, hl, hf, he⟩ := h
  refine ⟨vs, hl, hf.kept hg h1, fun j l hj => ?_⟩
  obtain ⟨v, hv, hE⟩ := he j l hj
  exact ⟨v, hv, hE.kept hg hr⟩
theorem Lvl.kind {w w' : World} {rb eb n c : Nat} {A : Option Addr} {L : List (List UInt8)} {row : Option Nat} (h : Lvl w rb eb A n c L) (hg : w.grownBy w' row) (hr : Kind w row [5, 22]) : Lvl w' rb eb A n c L := by
  obtain ⟨vs, hl, hf, he⟩ := h
  refine ⟨vs, hl, hf.kind hg (fun g e => by obtain ⟨cur, t, fz, hc, ht⟩ := hr g e; exact ⟨cur, t, fz, hc, fun h => ht (by simp at h ⊢; exact .inr h)⟩), fun j l hj => ?_⟩
  obtain ⟨v, hv, hE⟩ := he j l hj
  exact ⟨v, hv, hE.kept hg (fun g e => by obtain ⟨cur, t, fz, hc, ht⟩ := hr g e; exact ⟨cur, t, fz, hc, fun h => ht (by simp at h ⊢; exact .inl h)⟩)⟩
theorem Lvl.own {w w' : World} {rb eb n c : Nat} {A : Option Addr} {L : List (List UInt8)} {row : Option Nat} (h : Lvl w rb eb A n c L) (hg : w.grownBy w' row) (hr : ∀ r, row = some r → ∃ o : Obj, w.heap[r]? = some o ∧ o.isCells = false) : Lvl w' rb eb A n c L := by
  obtain ⟨vs, hl, hf, he⟩ := h
  refine ⟨vs, hl, hf.own hg hr, fun j l hj => ?_⟩
  obtain ⟨v, hv, hE⟩ := he j l hj
  exact ⟨v, hv, hE.own hg hr⟩
theorem Lvl.below {w w' : World} {rb eb n c : Nat} {A : Option Addr} {L : List (List UInt8)} (h : Lvl w rb eb A n c L) (hb : Below w.heap.size w w') : Lvl w' rb eb A n c L := h.kind (grown_of_below hb) (kind_none _ _)
theorem Lvl.alloc {w : World} {rb eb n c : Nat} {A : Option Addr} {L : List (List UInt8)} (h : Lvl w rb eb A n c L) (o : Obj) : Lvl (w.alloc o) rb eb A n c L := h.kind (World.grownBy_alloc w o none) (kind_none _ _)
theorem Lvl.mono {w : World} {rb eb rb' n c : Nat} {A : Option Addr} {L : List (List UInt8)} (h : Lvl w rb eb A n c L) (hb : rb' ≤ rb) : Lvl w rb' eb A n c L := by
  obtain ⟨vs, hl, hf, he⟩ := h
  exact ⟨vs, hl, hf.mono hb, he⟩
theorem Lvl.snoc {w w' : World} {rb eb n c d : Nat} {A D : Option Addr} {L : List (List UInt8)} {vs : List Value} {v : Value} {l : List UInt8} (hl : L.length = n) (hf : Fr w rb 22 1 A n c vs) (he : ∀ (j : Nat) (l : List UInt8), L[j]? = some l → ∃ v, vs[j]? = some v ∧ El w eb v l)
    (hv : El w eb v l) (hg : w.grownBy w' (rowOf A c)) (hf' : Fr w' rb 22 1 D (n + 1) d (vs ++ [v])) : Lvl w' rb eb D (n + 1) d (L ++ [l]) := by
  have hk := kind_fr hf (ts := [5]) (by decide)
  have hvl : vs.length = n := by have := hf.1; omega
  refine ⟨vs ++ [v], by rw [List.length_append, hl]; rfl, hf', fun j l' hj => ?_⟩
  by_cases h : j < n
  · rw [List.getElem?_append_left (by omega)] at hj
    obtain ⟨v', hv', hE⟩ := he j l' hj
    exact ⟨v', by rw [List.getElem?_append_left (by omega)]; exact hv', hE.kept hg hk⟩
  · have hjn : j = n := by
      have := (List.getElem?_eq_some_iff.1 hj).1
      rw [List.length_append, List.length_singleton] at this
      omega
    subst hjn
    rw [List.getElem?_append_right (by omega), hl, Nat.sub_self] at hj
    have : l = l' := by simpa using hj
    subst this
    exact ⟨v, by rw [List.getElem?_append_right (by omega), hvl, Nat.sub_self]; rfl, hv.kept hg hk⟩
/-- One of a level, in whatever world keeps it. -/
theorem Lvl.at_ {w : World} {rb eb n c j : Nat} {A : Option Addr} {L : List (List UInt8)} (h : Lvl w rb eb A n c L) (hj : j < n) : ∃ g D d, A = some ⟨g, 0, none⟩ ∧ rb ≤ g ∧ g < w.heap.size ∧ w.cell? ⟨g, j, none⟩ = some (.slice D 16 d) ∧ (L.getD j []).length = 16 ∧ Fr w eb 5 1 D 16 d (bvs (L.getD j [])) := by
  obtain ⟨vs, hl, hf, he⟩ := h
  have hnc := hf.nc
  obtain ⟨g, rfl, h1, h2⟩ := hf.form (by omega)
  obtain ⟨u, hu, hc⟩ := hf.cell hj
  obtain ⟨v, hv, D, d, rfl, hl16, hF⟩ := he j (L.getD j []) (by rw [List.getD_eq_getElem?_getD, List.getElem?_eq_getElem (by omega)]; rfl)
  rw [hu] at hv
  cases hv
  exact ⟨g, D, d, rfl, h1, h2, hc, hl16, hF⟩
/-- All levels: a row of rows; each level's own row lies below hi. -/
def AllR (w : World) (base hi : Nat) (B : Option Addr) (b : Nat) (LL : List (List (List UInt8))) : Prop :=
  ∃ vs : List Value, Fr w base 56 1 B LL.length b vs ∧ ∀ (j : Nat) (L : List (List UInt8)), LL[j]? = some L → ∃ A c, vs[j]? = some (.slice A L.length c) ∧ Lvl w base base A L.length c L ∧ ∀ g, rowOf A c = some g → g < hi
theorem AllR.kept {w w' : World} {base hi b : Nat} {B : Option Addr} {LL : List (List (List UInt8))} {row : Option Nat} (h : AllR w base hi B b LL) (hg : w.grownBy w' row) (h1 : ∀ g, row = some g → hi ≤ g) (hr : Kind w row [5, 56]) : AllR w' base hi B b LL := by
  obtain ⟨vs, hf, he⟩ := h
  refine ⟨vs, hf.kind hg (fun g e => by obtain ⟨cur, t, fz, hc, ht⟩ := hr g e; exact ⟨cur, t, fz, hc, fun h => ht (by simp at h ⊢; exact .inr h)⟩), fun j L hj => ?_⟩
  obtain ⟨A, c, hv, hL, hlo⟩ := he j L hj
  refine ⟨A, c, hv, hL.kept hg ?_ (fun g e => by obtain ⟨cur, t, fz, hc, ht⟩ := hr g e; exact ⟨cur, t, fz, hc, fun h => ht (by simp at h ⊢; exact .inl h)⟩), hlo⟩
  by_cases hn : rowOf A c = none
  · exact .inl hn
  · refine .inr fun e => ?_
    obtain ⟨g, hg1⟩ := Option.ne_none_iff_exists'.1 hn
    have := hlo g hg1
    have := h1 g (by rw [← e, hg1])
    omega
theorem AllR.kind {w w' : World} {base hi b : Nat} {B : Option Addr} {LL : List (List (List UInt8))} {row : Option Nat} (h : AllR w base hi B b LL) (hg : w.grownBy w' row) (hr : Kind w row [5, 22, 56]) : AllR w' base hi B b LL := by
  obtain ⟨vs, hf, he⟩ := h
  refine ⟨vs, hf.kind hg (fun g e => by obtain ⟨cur, t, fz, hc, ht⟩ := hr g e; exact ⟨cur, t, fz, hc, fun h => ht (by simp at h ⊢; exact .inr (.inr h))⟩), fun j L hj => ?_⟩
  obtain ⟨A, c, hv, hL, hlo⟩ := he j L hj
  exact ⟨A, c, hv, hL.kind hg (fun g e => by obtain ⟨cur, t, fz, hc, ht⟩ := hr g e; exact ⟨cur, t, fz, hc, fun h => ht (by simp at h ⊢; rcases h with h | h; exact .inl h; exact .inr (.inl h))⟩), hlo⟩
theorem AllR.own {w w' : World} {base hi b : Nat} {B : Option Addr} {LL : List (List (List UInt8))} {row : Option Nat} (h : AllR w base hi B b LL) (hg : w.grownBy w' row) (hr : ∀ r, row = some r → ∃ o : Obj, w.heap[r]? = some o ∧ o.isCells = false) : AllR w' base hi B b LL := by
  obtain ⟨vs, hf, he⟩ := h
  refine ⟨vs, hf.own hg hr, fun j L hj => ?_⟩
  obtain ⟨A, c, hv, hL, hlo⟩ := he j L hj
  exact ⟨A, c, hv, hL.own hg hr, hlo⟩
theorem AllR.below {w w' : World} {base hi b : Nat} {B : Option Addr} {LL : List (List (List UInt8))} (h : AllR w base hi B b LL) (hb : Below w.heap.size w w') : AllR w' base hi B b LL := h.kind (grown_of_below hb) (kind_none _ _)
theorem AllR.alloc {w : World} {base hi b : Nat} {B : Option Addr} {LL : List (List (List UInt8))} (h : AllR w base hi B b LL) (o : Obj) : AllR (w.alloc o) base hi B b LL := h.kind (World.grownBy_alloc w o none) (kind_none _ _)
theorem AllR.more {w : World} {base hi hi' b : Nat} {B : Option Addr} {LL : List (List (List UInt8))} (h : AllR w base hi B b LL) (hh : hi ≤ hi') : AllR w base hi' B b LL := by
  obtain ⟨vs, hf, he⟩ := h
  refine ⟨vs, hf, fun j L hj => ?_⟩
  obtain ⟨A, c, hv, hL, hlo⟩ := he j L hj
  exact ⟨A, c, hv, hL, fun g e => Nat.lt_of_lt_of_le (hlo g e) hh⟩
theorem AllR.snoc {w w' : World} {base hi b d n c : Nat} {B D A : Option Addr} {LL : List (List (List UInt8))} {L : List (List UInt8)} {vs : List Value} (hf : Fr w base 56 1 B LL.length b vs)
    (he : ∀ (j : Nat) (L : List (List UInt8)), LL[j]? = some L → ∃ A c, vs[j]? = some (.slice A L.length c) ∧ Lvl w base base A L.length c L ∧ ∀ g, rowOf A c = some g → g < hi)
    (hL : Lvl w base base A n c L) (hhi : w.heap.size ≤ hi) (hg : w.grownBy w' (rowOf B b)) (hf' : Fr w' base 56 1 D (LL.length + 1) d (vs ++ [.slice A n c])) : AllR w' base hi D d (LL ++ [L]) := by
  have hk := kind_fr hf (ts := [5, 22]) (by decide)
  have hvl : vs.length = LL.length := by have := hf.1; omega
  have hn : L.length = n := by obtain ⟨_, h, _⟩ := hL; exact h
  refine ⟨vs ++ [.slice A n c], by rw [List.length_append]; exact hf', fun j L' hj => ?_⟩
  by_cases h : j < LL.length
  · rw [List.getElem?_append_left h] at hj
    obtain ⟨A', c', hv, hL', hlo⟩ := he j L' hj
    exact ⟨A', c', by rw [List.getElem?_append_left (by omega)]; exact hv, hL'.kind hg hk, hlo⟩
  · have hjn : j = LL.length := by
      have := (List.getElem?_eq_some_iff.1 hj).1
      rw [List.length_append, List.length_singleton] at this
      omega
    subst hjn
    rw [List.getElem?_append_right (Nat.le_refl _), Nat.sub_self] at hj
    have : L = L' := by simpa using hj
    subst this
    refine ⟨A, c, by rw [List.getElem?_append_right (by omega), hvl, Nat.sub_self, hn]; rfl, by rw [hn]; exact hL.kind hg hk, fun g e => ?_⟩
    obtain ⟨vs', _, hf2, _⟩ := hL
    exact Nat.lt_of_lt_of_le (hf2.row g e).2 hhi

/-! ### marks -/
def mk_ (D : Nat) : Deferred := { target := .collected D, args := #[] }
def Marks (base : Nat) (ds : List Nat) (w : World) : Prop := ds.Nodup ∧ ∀ D ∈ ds, base ≤ D ∧ w.heap[D]? = some (.deferred (some []))
theorem Marks.nil_ (base : Nat) (w : World) : Marks base [] w := ⟨List.nodup_nil, fun D h => by cases h⟩
theorem Marks.keeps {base : Nat} {ds : List Nat} {w w' : World} (h : Marks base ds w) (hk : KeepsOthers w w') : Marks base ds w' := ⟨h.1, fun D hD => ⟨(h.2 D hD).1, hk.same D _ (h.2 D hD).2 rfl⟩⟩
theorem Marks.cons {base : Nat} {ds : List Nat} {w w' : World} {D : Nat} (h : Marks base ds w) (hk : ∀ D ∈ ds, w'.heap[D]? = w.heap[D]?) (hD : w.heap.size ≤ D) (hb : base ≤ w.heap.size) (hw : w'.heap[D]? = some (.deferred (some []))) : Marks base (D :: ds) w' := by
  refine ⟨List.nodup_cons.2 ⟨fun hm => ?_, h.1⟩, fun D' hD' => ?_⟩
  · have := (Array.getElem?_eq_some_iff.1 (h.2 D hm).2).1
    omega
  · rcases List.mem_cons.1 hD' with rfl | hm
    · exact ⟨by omega, hw⟩
    · exact ⟨(h.2 D' hm).1, (hk D' hm).trans (h.2 D' hm).2⟩
theorem leaves_marks {P : Program} {F : Fence} {n base : Nat} {fn : Func} {tmps : Array Value} {R : Ending → World → Prop} (v : Value) (hv : ∀ W, (results fn tmps).run P W = .ok v W) (T : World → Prop)
    (hT : ∀ W D, T W → base ≤ D → W.heap[D]? = some (.deferred (some [])) → T (W.putObj D (.deferred none))) (hR : ∀ W, T W → R (.returned v) W) :
    ∀ (ds : List Nat) (W : World), T W → Marks base ds W → LeavesInM F n P fn tmps R (ds.map mk_) .returning W
  | [], W, h, _ => ⟨v, hv W, hR W h⟩
  | D :: ds, W, h, hm => by
    obtain ⟨hb, hD⟩ := hm.2 D List.mem_cons_self
    refine ⟨by simp, .inl ⟨D, _, rfl, run_takeDeferred hD, ?_⟩⟩
    refine leaves_marks v hv T hT hR ds _ (hT W D h hb hD) ⟨(List.nodup_cons.1 hm.1).2, fun D' hD' => ⟨(hm.2 D' (List.mem_cons_of_mem _ hD')).1, ?_⟩⟩
    exact (World.putObj_heap_other (fun e => (List.nodup_cons.1 hm.1).1 (by rw [← e]; exact hD'))).trans (hm.2 D' (List.mem_cons_of_mem _ hD')).2
end Go.Proofs.Ytoggpnncmgcgoaa
