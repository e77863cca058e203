/-
  Disks in memory: a slice of bytes as a value (Sl), a write that waits (Wt), a disk (Dk); what a disk holds (Ct); what writes leave.
-/
import Derived.Test.YtkaklppkmokffaaProg
import Derived.Test.YtkaklppkmokffaaBase
import Derived.Maps.RangeWalk
import Derived.Maps.Ext
namespace Go.Proofs.Ytkaklppkmokffaa
open Go.RowKit
set_option linter.unusedVariables false
set_option linter.unusedSimpArgs false
set_option maxRecDepth 100000

/-! ### what a disk holds -/
structure Ct where
  b : List (List UInt8)
  w : List (Int × List UInt8)
def Ct.May (c : Ct) : Prop := c.b.length = 256 ∧ (∀ x ∈ c.b, x.length = 256) ∧ c.w.length ≤ 4096 ∧ ∀ x ∈ c.w, (0 ≤ x.1 ∧ x.1 < 256) ∧ x.2.length = 256
instance (c : Ct) : Decidable c.May := by unfold Ct.May; infer_instance
/-- The last of the first i writes on block a of which it is so. -/
def lastI {α : Type} (ws : List α) (key : α → Int) (so : Nat → Bool) (a : Int) : Nat → Option α
  | 0 => none
  | i + 1 => match ws[i]? with
    | some x => if so i = true ∧ key x = a then some x else lastI ws key so a i
    | none => lastI ws key so a i
/-- What they leave. -/
def leftB (b : List (List UInt8)) (ws : List (Int × List UInt8)) (so : Nat → Bool) : List (List UInt8) :=
  (List.range b.length).map fun (k : Nat) => match lastI ws Prod.fst so (k : Int) ws.length with
    | some x => x.2
    | none => b.getD k []
def Ct.left (c : Ct) (so : Nat → Bool) : Ct := ⟨leftB c.b c.w so, []⟩
def Ct.none_ : Ct := ⟨[], []⟩

theorem lastI_hit {α : Type} {ws : List α} {key : α → Int} {so : Nat → Bool} {i : Nat} (hi : i < ws.length) (h : so i = true) : lastI ws key so (key ws[i]) (i + 1) = some ws[i] := by
  simp [lastI, List.getElem?_eq_getElem hi, h]
theorem lastI_other {α : Type} {ws : List α} {key : α → Int} {so : Nat → Bool} {i : Nat} {a : Int} (hi : i < ws.length) (h : a ≠ key ws[i]) : lastI ws key so a (i + 1) = lastI ws key so a i := by
  simp [lastI, List.getElem?_eq_getElem hi, Ne.symm h]
theorem lastI_not {α : Type} {ws : List α} {key : α → Int} {so : Nat → Bool} {i : Nat} {a : Int} (h : so i = false) : lastI ws key so a (i + 1) = lastI ws key so a i := by
  simp only [lastI]
  split <;> simp [h]
theorem lastI_map {α β : Type} (f : α → β) (ws : List α) (key : β → Int) (so : Nat → Bool) (a : Int) : ∀ i, lastI (ws.map f) key so a i = (lastI ws (fun x => key (f x)) so a i).map f
  | 0 => rfl
  | i + 1 => by
    simp only [lastI, List.getElem?_map]
    cases h : ws[i]? with
    | none => simpa using lastI_map f ws key so a i
    | some x =>
      simp only [Option.map_some]
      by_cases hc : so i = true ∧ key (f x) = a
      · simp [hc]
      · simp only [if_neg hc]
        exact lastI_map f ws key so a i
theorem lastI_mem {α : Type} {ws : List α} {key : α → Int} {so : Nat → Bool} {a : Int} {x : α} : ∀ {i}, lastI ws key so a i = some x → x ∈ ws ∧ key x = a
  | 0, h => by cases h
  | i + 1, h => by
    simp only [lastI] at h
    cases hw : ws[i]? with
    | none =>
      rw [hw] at h
      exact lastI_mem (i := i) h
    | some y =>
      rw [hw] at h
      by_cases hc : so i = true ∧ key y = a
      · simp only [if_pos hc, Option.some.injEq] at h
        subst h
        exact ⟨List.mem_of_getElem? hw, hc.2⟩
      · simp only [if_neg hc] at h
        exact lastI_mem (i := i) h
theorem leftB_len (b : List (List UInt8)) (ws : List (Int × List UInt8)) (so : Nat → Bool) : (leftB b ws so).length = b.length := by simp [leftB]
theorem leftB_get (b : List (List UInt8)) (ws : List (Int × List UInt8)) (so : Nat → Bool) {k : Nat} (hk : k < b.length) : (leftB b ws so)[k]? = some (match lastI ws Prod.fst so (k : Int) ws.length with | some x => x.2 | none => b[k]) := by
  simp [leftB, List.getElem?_map, List.getElem?_range hk, List.getD_eq_getElem?_getD, List.getElem?_eq_getElem hk]
theorem Ct.left_may {c : Ct} (h : c.May) (so : Nat → Bool) : (c.left so).May := by
  obtain ⟨h1, h2, h3, h4⟩ := h
  refine ⟨by simp [Ct.left, leftB_len, h1], fun x hx => ?_, by simp [Ct.left], fun x hx => by simp [Ct.left] at hx⟩
  obtain ⟨k, hk, rfl⟩ := List.mem_iff_getElem.1 hx
  have hk' : k < c.b.length := by simpa [Ct.left, leftB_len] using hk
  have e := leftB_get c.b c.w so hk'
  have e2 : (c.left so).b[k] = (match lastI c.w Prod.fst so (k : Int) c.w.length with | some x => x.2 | none => c.b[k]) :=
    Option.some.inj ((List.getElem?_eq_getElem hk).symm.trans e)
  rw [e2]
  split
  · rename_i x hx
    exact (h4 _ (lastI_mem hx).1).2
  · exact h2 _ (List.getElem_mem hk')

/-! ### memory -/
/-- A slice of bytes as a value, with its bytes. -/
structure Sl where
  A : Option Addr
  n : Nat
  c : Nat
  l : List UInt8
def Sl.v (s : Sl) : Value := .slice s.A s.n s.c
def Sl.came (s : Sl) (w : World) : Prop := s.l.length = s.n ∧ Rd w w.heap.size 1 s.A s.n (bvs s.l) ∧ s.n ≤ s.c ∧ s.c ≤ maxLen
theorem Sl.came.below {s : Sl} {w w' : World} (h : s.came w) (hb : Below w.heap.size w w') : s.came w' := ⟨h.1, (h.2.1.below hb).more hb.size, h.2.2⟩
/-- A write that waits. -/
structure Wt where
  a : Int
  s : Sl
def Wt.v (x : Wt) : Value := .agg #[.int .i64 x.a, x.s.v]
def wcs : List Wt → List Value
  | [] => []
  | x :: l => .int .i64 x.a :: x.s.v :: wcs l
def Wt.c (x : Wt) : Int × List UInt8 := (x.a, x.s.l)
theorem wcs_len (l : List Wt) : (wcs l).length = l.length * 2 := by
  induction l with
  | nil => rfl
  | cons x l ih => simp only [wcs, List.length_cons, ih]; omega
theorem wcs_app (l m : List Wt) : wcs (l ++ m) = wcs l ++ wcs m := by
  induction l with
  | nil => rfl
  | cons x l ih => simp [wcs, ih]
theorem wcs_one (l : List Wt) : ∀ u ∈ wcs l, u.oneCell' = true := by
  induction l with
  | nil => intro u hu; cases hu
  | cons x l ih =>
    intro u hu
    simp only [wcs, List.mem_cons] at hu
    rcases hu with rfl | rfl | hu
    · rfl
    · rfl
    · exact ih u hu
theorem wcs_get : ∀ {l : List Wt} {k : Nat} (h : k < l.length), (wcs l)[k * 2]? = some (.int .i64 (l[k]).a) ∧ (wcs l)[k * 2 + 1]? = some (l[k]).s.v
  | x :: l, 0, h => by simp [wcs]
  | x :: l, k + 1, h => by
    have := wcs_get (l := l) (k := k) (by simpa using h)
    rw [show (k + 1) * 2 = k * 2 + 2 by omega, show k * 2 + 2 + 1 = (k * 2 + 1) + 2 by omega]
    simpa [wcs] using this
theorem Rd.at2 {w : World} {B n : Nat} {A : Option Addr} {l : List Wt} (h : Rd w B 2 A n (wcs l)) {k : Nat} (hk : k < n) (hl : l.length = n) : ∃ b off, A = some ⟨b, off, none⟩ ∧ b < B ∧
    w.cell? ⟨b, off + k * 2, none⟩ = some (.int .i64 (l[k]).a) ∧ w.cell? ⟨b, off + k * 2 + 1, none⟩ = some (.slice (l[k]).s.A (l[k]).s.n (l[k]).s.c) := by
  obtain ⟨b, off, e, hb, hc⟩ := h.2 (by omega)
  obtain ⟨h1, h2⟩ := wcs_get (l := l) (k := k) (by omega)
  refine ⟨b, off, e, hb, hc _ _ h1, ?_⟩
  have := hc _ _ h2
  rwa [← Nat.add_assoc] at this
theorem Rd.atS {w : World} {B n : Nat} {A : Option Addr} {l : List Sl} (h : Rd w B 1 A n (l.map Sl.v)) {k : Nat} (hk : k < n) (hl : l.length = n) : ∃ b off, A = some ⟨b, off, none⟩ ∧ b < B ∧
    w.cell? ⟨b, off + k, none⟩ = some (.slice (l[k]).A (l[k]).n (l[k]).c) := by
  obtain ⟨b, off, e, hb, hc⟩ := h.2 (by omega)
  exact ⟨b, off, e, hb, hc k _ (by rw [List.getElem?_map, List.getElem?_eq_getElem (by omega)]; rfl)⟩

/-- A disk as a value. -/
structure Dk where
  A : Option Addr
  nB : Nat
  cB : Nat
  bs : List Sl
  W : Option Addr
  nW : Nat
  cW : Nat
  ws : List Wt
def Dk.v (d : Dk) : Value := .agg #[.slice d.A d.nB d.cB, .slice d.W d.nW d.cW]
def Dk.c (d : Dk) : Ct := ⟨d.bs.map Sl.l, d.ws.map Wt.c⟩
def I64 (a : Int) : Prop := -9223372036854775808 ≤ a ∧ a ≤ 9223372036854775807
structure Dk.ok (d : Dk) (w : World) : Prop where
  lb : d.bs.length = d.nB
  rb : Rd w w.heap.size 1 d.A d.nB (d.bs.map Sl.v)
  sb : ∀ s ∈ d.bs, s.came w
  lw : d.ws.length = d.nW
  rw_ : Rd w w.heap.size 2 d.W d.nW (wcs d.ws)
  sw : ∀ x ∈ d.ws, x.s.came w ∧ I64 x.a
  cb : d.nB ≤ d.cB ∧ d.cB ≤ maxLen
  cw : d.nW ≤ d.cW ∧ d.cW ≤ maxLen
theorem Dk.ok.below {d : Dk} {w w' : World} (h : d.ok w) (hb : Below w.heap.size w w') : d.ok w' :=
  ⟨h.lb, (h.rb.below hb).more hb.size, fun s hs => (h.sb s hs).below hb, h.lw, (h.rw_.below hb).more hb.size, fun x hx => ⟨(h.sw x hx).1.below hb, (h.sw x hx).2⟩, h.cb, h.cw⟩
theorem Dk.c_b (d : Dk) : d.c.b = d.bs.map Sl.l := rfl
theorem Dk.c_w (d : Dk) : d.c.w = d.ws.map Wt.c := rfl
/-- The box of a disk. -/
def DkBox (w : World) (g : Nat) (X Y : Value) : Prop := w.heap[g]? = some (.cells #[X, Y] 25 (0, 0))
section
variable {w w' : World} {g : Nat} {X Y : Value}
theorem DkBox.new (w : World) (X Y : Value) : DkBox (w.alloc (.cells #[X, Y] 25)) w.heap.size X Y := heap_alloc_new w _
theorem DkBox.lt (h : DkBox w g X Y) : g < w.heap.size := (Array.getElem?_eq_some_iff.1 h).1
theorem DkBox.alloc (h : DkBox w g X Y) (o : Obj) : DkBox (w.alloc o) g X Y := (Below.heap_alloc w o g h.lt).trans h
theorem DkBox.below {H : Nat} (h : DkBox w g X Y) (hb : Below H w w') (hg : g < H) : DkBox w' g X Y := (hb.block g hg).trans h
theorem DkBox.grown {row : Option Nat} (h : DkBox w g X Y) (hg : w.grownBy w' row) (hne : some g ≠ row) : DkBox w' g X Y := (hg.block g h.lt hne).trans h
theorem DkBox.cells (h : DkBox w g X Y) : w.cell? ⟨g, 0, none⟩ = some X ∧ w.cell? ⟨g, 1, none⟩ = some Y := by
  unfold DkBox at h
  simp [World.cell?, h]
theorem DkBox.frozen (h : DkBox w g X Y) : ∀ i, w.frozen? ⟨g, i, none⟩ = false := by
  intro i
  unfold DkBox at h
  simp [World.frozen?, h]
end
/-- The box of a write. -/
def WtBox (w : World) (g : Nat) (X Y : Value) : Prop := w.heap[g]? = some (.cells #[X, Y] 54 (0, 0))
section
variable {w w' : World} {g : Nat} {X Y : Value}
theorem WtBox.new (w : World) (X Y : Value) : WtBox (w.alloc (.cells #[X, Y] 54)) w.heap.size X Y := heap_alloc_new w _
theorem WtBox.lt (h : WtBox w g X Y) : g < w.heap.size := (Array.getElem?_eq_some_iff.1 h).1
theorem WtBox.alloc (h : WtBox w g X Y) (o : Obj) : WtBox (w.alloc o) g X Y := (Below.heap_alloc w o g h.lt).trans h
theorem WtBox.below {H : Nat} (h : WtBox w g X Y) (hb : Below H w w') (hg : g < H) : WtBox w' g X Y := (hb.block g hg).trans h
theorem WtBox.grown {row : Option Nat} (h : WtBox w g X Y) (hg : w.grownBy w' row) (hne : some g ≠ row) : WtBox w' g X Y := (hg.block g h.lt hne).trans h
theorem WtBox.cells (h : WtBox w g X Y) : w.cell? ⟨g, 0, none⟩ = some X ∧ w.cell? ⟨g, 1, none⟩ = some Y := by
  unfold WtBox at h
  simp [World.cell?, h]
theorem WtBox.frozen (h : WtBox w g X Y) : ∀ i, w.frozen? ⟨g, i, none⟩ = false := by
  intro i
  unfold WtBox at h
  simp [World.frozen?, h]
end
theorem below_to {B H : Nat} {a w w' : World} (h : Below B a w) (k : Below H w w') (hB : B ≤ H) : Below B a w' := h.trans (k.mono hB)
theorem below_new' (w : World) (o : Obj) : Below w.heap.size w (w.alloc o) := (Below.refl _ w).alloc (Nat.le_refl _) o
theorem below_alloc {B : Nat} {a w : World} (h : Below B a w) (o : Obj) (hB : B ≤ w.heap.size) : Below B a (w.alloc o) := h.alloc hB o

/-! ### the program's tables -/
theorem okB : ElemOk Try.prog 41 5 1 1 (.int .u8 0) := ⟨Try.underlying41, rfl, Nat.lt_succ_self _, _, rfl, rfl, rfl, rfl⟩
theorem okBs : ElemOk Try.prog 22 41 1 24 (.slice none 0 0) := ⟨Try.underlying22, rfl, Nat.lt_succ_self _, _, rfl, rfl, rfl, rfl⟩
theorem okW : ElemOk Try.prog 23 54 2 32 (.agg #[.int .i64 0, .slice none 0 0]) := ⟨Try.underlying23, rfl, by decide, _, rfl, rfl, rfl, rfl⟩
theorem okI : ElemOk Try.prog 68 3 1 8 (.int .i64 0) := ⟨Try.underlying68, rfl, Nat.lt_succ_self _, _, rfl, rfl, rfl, rfl⟩
theorem okO : ElemOk Try.prog 26 4 1 1 (.bool false) := ⟨Try.underlying26, rfl, Nat.lt_succ_self _, _, rfl, rfl, rfl, rfl⟩
end Go.Proofs.Ytkaklppkmokffaa
