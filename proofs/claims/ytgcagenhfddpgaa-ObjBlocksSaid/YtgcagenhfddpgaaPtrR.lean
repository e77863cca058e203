/-
  Contracts of package ptr: Read.
-/
import Derived.Test.YtgcagenhfddpgaaMathQ
namespace Go.Proofs.Ytgcagenhfddpgaa
open Go.RowKit
set_option linter.unusedVariables false
set_option maxRecDepth 100000

/-- A box of five cells. -/
def Box5 (w : World) (g : Nat) (t : TypeId) (x0 x1 x2 x3 x4 : Value) : Prop := w.heap[g]? = some (.cells #[x0, x1, x2, x3, x4] t (0, 0))
section
variable {w w' : World} {g : Nat} {t : TypeId} {x0 x1 x2 x3 x4 : Value}
theorem Box5.new (w : World) (t : TypeId) (x0 x1 x2 x3 x4 : Value) : Box5 (w.alloc (.cells #[x0, x1, x2, x3, x4] t)) w.heap.size t x0 x1 x2 x3 x4 := heap_alloc_new w _
theorem Box5.lt (h : Box5 w g t x0 x1 x2 x3 x4) : g < w.heap.size := (Array.getElem?_eq_some_iff.1 h).1
theorem Box5.alloc (h : Box5 w g t x0 x1 x2 x3 x4) (o : Obj) : Box5 (w.alloc o) g t x0 x1 x2 x3 x4 := (Below.heap_alloc w o g h.lt).trans h
theorem Box5.below {H : Nat} (h : Box5 w g t x0 x1 x2 x3 x4) (hb : Below H w w') (hg : g < H) : Box5 w' g t x0 x1 x2 x3 x4 := (hb.block g hg).trans h
theorem Box5.far (h : Box5 w g t x0 x1 x2 x3 x4) (p : Addr) (hp : g ≠ p.block) (u : Value) : Box5 (w.setCell p u) g t x0 x1 x2 x3 x4 := (Below.heap_setCell w p u g hp).trans h
theorem Box5.cells (h : Box5 w g t x0 x1 x2 x3 x4) : w.cell? ⟨g, 0, none⟩ = some x0 ∧ w.cell? ⟨g, 1, none⟩ = some x1 ∧ w.cell? ⟨g, 2, none⟩ = some x2 ∧ w.cell? ⟨g, 3, none⟩ = some x3 ∧ w.cell? ⟨g, 4, none⟩ = some x4 := by
  unfold Box5 at h
  simp [World.cell?, h]
theorem Box5.frozen (h : Box5 w g t x0 x1 x2 x3 x4) : ∀ i, w.frozen? ⟨g, i, none⟩ = false := by
  intro i
  unfold Box5 at h
  simp [World.frozen?, h]
theorem Box5.raw (h : Box5 w g t x0 x1 x2 x3 x4) (i : Nat) (u : Value) : (w.setCell ⟨g, i, none⟩ u).heap[g]? = some (.cells (#[x0, x1, x2, x3, x4].setIfInBounds i u) t (0, 0)) := by
  have h' : w.heap[g]? = some (.cells #[x0, x1, x2, x3, x4] t (0, 0)) := h
  rw [setCell_eq_setRow w g i #[x0, x1, x2, x3, x4] t (0, 0) u h', setRow_heap w g _ _ t _ h']
theorem Box5.set0 (h : Box5 w g t x0 x1 x2 x3 x4) (u : Value) : Box5 (w.setCell ⟨g, 0, none⟩ u) g t u x1 x2 x3 x4 := h.raw 0 u
theorem Box5.set1 (h : Box5 w g t x0 x1 x2 x3 x4) (u : Value) : Box5 (w.setCell ⟨g, 1, none⟩ u) g t x0 u x2 x3 x4 := h.raw 1 u
theorem Box5.set2 (h : Box5 w g t x0 x1 x2 x3 x4) (u : Value) : Box5 (w.setCell ⟨g, 2, none⟩ u) g t x0 x1 u x3 x4 := h.raw 2 u
theorem Box5.set3 (h : Box5 w g t x0 x1 x2 x3 x4) (u : Value) : Box5 (w.setCell ⟨g, 3, none⟩ u) g t x0 x1 x2 u x4 := h.raw 3 u
theorem Box5.set4 (h : Box5 w g t x0 x1 x2 x3 x4) (u : Value) : Box5 (w.setCell ⟨g, 4, none⟩ u) g t x0 x1 x2 x3 u := h.raw 4 u
end
/-- The five cells of a box, written one behind the other. -/
def put5 (w : World) (g : Nat) (x0 x1 x2 x3 x4 : Value) : World := ((((w.setCell ⟨g, 0, none⟩ x0).setCell ⟨g, 1, none⟩ x1).setCell ⟨g, 2, none⟩ x2).setCell ⟨g, 3, none⟩ x3).setCell ⟨g, 4, none⟩ x4
theorem Box5.put {w : World} {g : Nat} {t : TypeId} {x0 x1 x2 x3 x4 : Value} (h : Box5 w g t x0 x1 x2 x3 x4) (y0 y1 y2 y3 y4 : Value) : Box5 (put5 w g y0 y1 y2 y3 y4) g t y0 y1 y2 y3 y4 := ((((h.set0 y0).set1 y1).set2 y2).set3 y3).set4 y4
theorem below_put5 {B g : Nat} {w0 w : World} (h : Below B w0 w) (hg : B ≤ g) (y0 y1 y2 y3 y4 : Value) : Below B w0 (put5 w g y0 y1 y2 y3 y4) :=
  ((((h.setCell (p := ⟨g, 0, none⟩) hg y0).setCell (p := ⟨g, 1, none⟩) hg y1).setCell (p := ⟨g, 2, none⟩) hg y2).setCell (p := ⟨g, 3, none⟩) hg y3).setCell (p := ⟨g, 4, none⟩) hg y4
theorem below_to {B H : Nat} {a w w' : World} (h : Below B a w) (k : Below H w w') (hB : B ≤ H) : Below B a w' := h.trans (k.mono hB)

theorem Box5.five {w : World} {g : Nat} {t : TypeId} {x0 x1 x2 x3 x4 : Value} (h : Box5 w g t x0 x1 x2 x3 x4) (v0 v1 v2 v3 v4 : Value) :
    (w.setCell ⟨g, 0, none⟩ v0).cell? ⟨g, 0, none⟩ = some v0 ∧
    ((w.setCell ⟨g, 0, none⟩ v0).setCell ⟨g, 1, none⟩ v1).cell? ⟨g, 1, none⟩ = some v1 ∧
    (((w.setCell ⟨g, 0, none⟩ v0).setCell ⟨g, 1, none⟩ v1).setCell ⟨g, 2, none⟩ v2).cell? ⟨g, 2, none⟩ = some v2 ∧
    ((((w.setCell ⟨g, 0, none⟩ v0).setCell ⟨g, 1, none⟩ v1).setCell ⟨g, 2, none⟩ v2).setCell ⟨g, 3, none⟩ v3).cell? ⟨g, 3, none⟩ = some v3 ∧
    (((((w.setCell ⟨g, 0, none⟩ v0).setCell ⟨g, 1, none⟩ v1).setCell ⟨g, 2, none⟩ v2).setCell ⟨g, 3, none⟩ v3).setCell ⟨g, 4, none⟩ v4).cell? ⟨g, 4, none⟩ = some v4 := by
  have h1 := h.set0 v0
  have h2 := h1.set1 v1
  have h3 := h2.set2 v2
  have h4 := h3.set3 v3
  have h5 := h4.set4 v4
  exact ⟨h1.cells.1, h2.cells.2.1, h3.cells.2.2.1, h4.cells.2.2.2.1, h5.cells.2.2.2.2⟩

theorem ptr_read_len (A : Option Addr) (n c : Nat) (w : World) (h : ¬ (n : Int) = 16) : Calls Try.prog 27 #[.slice A n c] w fun e w' => e = .returned (.tuple #[Pt.zero.v, .int .i64 3]) ∧ Below w.heap.size w w' := by
  have hx := Box5.new w 31 (.int .i64 0) (.int .u32 0) (.int .u32 0) (.int .u32 0) (.int .u32 0)
  have hb : Below w.heap.size w (w.alloc (.cells #[.int .i64 0, .int .u32 0, .int .u32 0, .int .u32 0, .int .u32 0] 31)) := (Below.refl _ w).alloc (Nat.le_refl _) _
  obtain ⟨c0, c1, c2, c3, c4⟩ := hx.cells
  have HB := Lib.hid hb
  clear hx hb
  go_enter Try.func27, Try.ntmps27
  go_wp2
  exact bodyPost_ret (v := .tuple #[Pt.zero.v, .int .i64 3]) (by simp [results, Try.results27, go_sem, c0, c1, c2, c3, c4, Pt.v, Pt.cs, Pt.zero]) rfl ⟨rfl, HB.out⟩

/-- What stands in the numbers when k are read. -/
def part (q : Pt) (k : Nat) : Pt := ⟨if 0 < k then q.a else 0, if 1 < k then q.b else 0, if 2 < k then q.i else 0, if 3 < k then q.t else 0, if 4 < k then q.s else 0⟩
def offs : Nat → Int
  | 0 => 0
  | 1 => 1
  | 2 => 4
  | 3 => 8
  | 4 => 12
  | _ => 16
def Ints (w : World) (g : Nat) (q : Pt) : Prop := Box5 w g 77 (.int .i64 q.a) (.int .i64 q.b) (.int .i64 q.i) (.int .i64 q.t) (.int .i64 q.s)
def PtBox (w : World) (g : Nat) (q : Pt) : Prop := Box5 w g 31 (.int .i64 q.a) (.int .u32 q.b) (.int .u32 q.i) (.int .u32 q.t) (.int .u32 q.s)
def RdRel (q : Pt) (w : World) (v x : Value) (wr : World) : Prop :=
  ∃ k : Nat, k ≤ 5 ∧ x = .int .i64 (k : Int) ∧ v = .int .i64 (offs k) ∧ Ints wr (w.heap.size + 1) (part q k) ∧ PtBox wr w.heap.size Pt.zero ∧ Below w.heap.size w wr

theorem ptr_read_16 (A : Option Addr) (c : Nat) (l : List UInt8) (w : World) (hl : l.length = 16) (hc : 16 ≤ c) (hr : Rd w w.heap.size 1 A 16 (bvs l)) :
    Calls Try.prog 27 #[.slice A 16 c] w fun e w' => e = .returned (.tuple #[(readP l).v, .int .i64 (readE l)]) ∧ Below w.heap.size w w' := by
  have g0 : ∀ W, Below w.heap.size w W → Calls Try.prog 23 #[.slice A 16 c, .int .i64 0, .int .i64 1] W fun e w' => e = .returned (.tuple #[.int .i64 (rd16 l).a, .int .i64 0]) ∧ Below W.heap.size W w' :=
    fun W h => get_ok A 16 c 0 1 W l (by omega) hc ((hr.below h).more h.size) (by omega) (by omega) (by omega) (by omega)
  have g1 : ∀ W, Below w.heap.size w W → Calls Try.prog 23 #[.slice A 16 c, .int .i64 1, .int .i64 3] W fun e w' => e = .returned (.tuple #[.int .i64 (rd16 l).b, .int .i64 0]) ∧ Below W.heap.size W w' :=
    fun W h => get_ok A 16 c 1 3 W l (by omega) hc ((hr.below h).more h.size) (by omega) (by omega) (by omega) (by omega)
  have g2 : ∀ W, Below w.heap.size w W → Calls Try.prog 23 #[.slice A 16 c, .int .i64 4, .int .i64 4] W fun e w' => e = .returned (.tuple #[.int .i64 (rd16 l).i, .int .i64 0]) ∧ Below W.heap.size W w' :=
    fun W h => get_ok A 16 c 4 4 W l (by omega) hc ((hr.below h).more h.size) (by omega) (by omega) (by omega) (by omega)
  have g3 : ∀ W, Below w.heap.size w W → Calls Try.prog 23 #[.slice A 16 c, .int .i64 8, .int .i64 4] W fun e w' => e = .returned (.tuple #[.int .i64 (rd16 l).t, .int .i64 0]) ∧ Below W.heap.size W w' :=
    fun W h => get_ok A 16 c 8 4 W l (by omega) hc ((hr.below h).more h.size) (by omega) (by omega) (by omega) (by omega)
  have g4 : ∀ W, Below w.heap.size w W → Calls Try.prog 23 #[.slice A 16 c, .int .i64 12, .int .i64 4] W fun e w' => e = .returned (.tuple #[.int .i64 (rd16 l).s, .int .i64 0]) ∧ Below W.heap.size W w' :=
    fun W h => get_ok A 16 c 12 4 W l (by omega) hc ((hr.below h).more h.size) (by omega) (by omega) (by omega) (by omega)
  have hU := rd16_U l
  have hE := readE_16 hl
  have hP : readP l = if (rd16 l).May then rd16 l else Pt.zero := by
    unfold readP
    by_cases h : (rd16 l).May
    · rw [if_pos ⟨hl, h⟩, if_pos h]
    · rw [if_neg (fun hh => h hh.2), if_neg h]
  rw [hE, hP]
  have G0 := Lib.hid g0
  have G1 := Lib.hid g1
  have G2 := Lib.hid g2
  have G3 := Lib.hid g3
  have G4 := Lib.hid g4
  clear g0 g1 g2 g3 g4 hE hP hr hl
  generalize rd16 l = q at *
  obtain ⟨P, E, hP, hE, hC, hPE⟩ : ∃ (P : Pt) (E : Int), (if q.May then q else Pt.zero) = P ∧ q.chk = E ∧ chk q.a q.b q.i q.t q.s = E ∧ ((E = 0 ∧ P = q) ∨ (E = 8 ∧ P = Pt.zero)) := by
    refine ⟨_, _, rfl, rfl, rfl, ?_⟩
    by_cases hm : q.May
    · exact .inl ⟨if_pos hm, if_pos hm⟩
    · exact .inr ⟨if_neg hm, if_neg hm⟩
  rw [hP, hE]
  have HC := Lib.hid hC
  have HPE := Lib.hid hPE
  clear hP hE hC hPE
  obtain ⟨⟨ub0, ub1⟩, ⟨ui0, ui1⟩, ⟨ut0, ut1⟩, us0, us1⟩ := hU
  have hb : Below w.heap.size w ((w.alloc (.cells #[.int .i64 0, .int .u32 0, .int .u32 0, .int .u32 0, .int .u32 0] 31)).alloc (.cells #[.int .i64 0, .int .i64 0, .int .i64 0, .int .i64 0, .int .i64 0] 77)) := ((Below.refl _ w).alloc (Nat.le_refl _) _).alloc (by rw [World.size_alloc]; omega) _
  have hx : PtBox ((w.alloc (.cells #[.int .i64 0, .int .u32 0, .int .u32 0, .int .u32 0, .int .u32 0] 31)).alloc (.cells #[.int .i64 0, .int .i64 0, .int .i64 0, .int .i64 0, .int .i64 0] 77)) w.heap.size Pt.zero := (Box5.new w 31 (.int .i64 0) (.int .u32 0) (.int .u32 0) (.int .u32 0) (.int .u32 0)).alloc _
  have hn : Ints ((w.alloc (.cells #[.int .i64 0, .int .u32 0, .int .u32 0, .int .u32 0, .int .u32 0] 31)).alloc (.cells #[.int .i64 0, .int .i64 0, .int .i64 0, .int .i64 0, .int .i64 0] 77)) (w.heap.size + 1) Pt.zero := by
    have := Box5.new (w.alloc (.cells #[.int .i64 0, .int .u32 0, .int .u32 0, .int .u32 0, .int .u32 0] 31)) 77 (.int .i64 0) (.int .i64 0) (.int .i64 0) (.int .i64 0) (.int .i64 0)
    rw [World.size_alloc] at this
    exact this
  have hz : ((w.alloc (.cells #[.int .i64 0, .int .u32 0, .int .u32 0, .int .u32 0, .int .u32 0] 31)).alloc (.cells #[.int .i64 0, .int .i64 0, .int .i64 0, .int .i64 0, .int .i64 0] 77)).heap.size = w.heap.size + 2 := by rw [World.size_alloc, World.size_alloc]
  have HB := Lib.hid hb
  have HX := Lib.hid hx
  have HN := Lib.hid hn
  have HZ := Lib.hid hz
  clear hb hx hn hz
  have ix0 : ∀ W, (Instr.index 77 (.agg #[.int .i64 1, .int .i64 3, .int .i64 4, .int .i64 4, .int .i64 4]) (.int .i64 0)).run Try.prog W = .ok (.int .i64 1) W := fun _ => by kernel_rfl
  have ix1 : ∀ W, (Instr.index 77 (.agg #[.int .i64 1, .int .i64 3, .int .i64 4, .int .i64 4, .int .i64 4]) (.int .i64 1)).run Try.prog W = .ok (.int .i64 3) W := fun _ => by kernel_rfl
  have ix2 : ∀ W, (Instr.index 77 (.agg #[.int .i64 1, .int .i64 3, .int .i64 4, .int .i64 4, .int .i64 4]) (.int .i64 2)).run Try.prog W = .ok (.int .i64 4) W := fun _ => by kernel_rfl
  have ix3 : ∀ W, (Instr.index 77 (.agg #[.int .i64 1, .int .i64 3, .int .i64 4, .int .i64 4, .int .i64 4]) (.int .i64 3)).run Try.prog W = .ok (.int .i64 4) W := fun _ => by kernel_rfl
  have ix4 : ∀ W, (Instr.index 77 (.agg #[.int .i64 1, .int .i64 3, .int .i64 4, .int .i64 4, .int .i64 4]) (.int .i64 4)).run Try.prog W = .ok (.int .i64 4) W := fun _ => by kernel_rfl
  go_enter Try.func27, Try.ntmps27
  go_wp2_with fail
  generalize (w.alloc (.cells #[.int .i64 0, .int .u32 0, .int .u32 0, .int .u32 0, .int .u32 0] 31)).alloc (.cells #[.int .i64 0, .int .i64 0, .int .i64 0, .int .i64 0, .int .i64 0] 77) = w0 at *
  refine (ptr_sizes w0).mono ?_
  rintro e w2 ⟨rfl, b2⟩
  have hb2 := below_to HB.out b2 HB.out.size
  have hx2 : PtBox w2 w.heap.size Pt.zero := HX.out.below b2 (by rw [HZ.out]; omega)
  have hn2 : Ints w2 (w.heap.size + 1) (part q 0) := HN.out.below b2 (by rw [HZ.out]; omega)
  clear HB HX HN HZ b2
  have HB := Lib.hid hb2
  have HX := Lib.hid hx2
  have HN := Lib.hid hn2
  clear hb2 hx2 hn2
  go_wp2
  go_loopw [5, 14] (fun v x wr => RdRel q w v x wr) (fun _ x _ => 5 - (intOf x).toNat)
  case atStart => exact ⟨0, by omega, rfl, rfl, HN.out, HX.out, HB.out⟩
  case round =>
    clear HB HX HN
    obtain ⟨k, hk, rfl, rfl, hn, hx, hb⟩ := hrel
    have HB := Lib.hid hb
    have HX := Lib.hid hx
    have HN := Lib.hid hn
    have hlt : w.heap.size + 1 < wr.heap.size := hn.lt
    clear hb hx hn
    obtain rfl | rfl | rfl | rfl | rfl | rfl : k = 0 ∨ k = 1 ∨ k = 2 ∨ k = 3 ∨ k = 4 ∨ k = 5 := by omega
    · rw [show offs 0 = (0 : Int) from rfl]
      go_wp2_with fail
      refine (G0.out wr HB.out).mono ?_
      rintro e w3 ⟨rfl, b3⟩
      have hn3 : Ints w3 (w.heap.size + 1) (part q 0) := HN.out.below b3 hlt
      have hx3 : PtBox w3 w.heap.size Pt.zero := HX.out.below b3 (by omega)
      have hb3 := below_to HB.out b3 HB.out.size
      have hcell := hn3.cells
      have hfro := hn3.frozen
      have HB3 := Lib.hid hb3
      have HX3 := Lib.hid hx3
      have HN3 := Lib.hid hn3
      clear hb3 hx3 hn3 b3
      obtain ⟨c0, c1, c2, c3, c4⟩ := hcell
      go_wp2
      go_roundw
      case rel => exact ⟨1, by omega, rfl, rfl, HN3.out.set0 (.int .i64 q.a), HX3.out.far ⟨w.heap.size + 1, 0, none⟩ (by show w.heap.size ≠ w.heap.size + 1; omega) _, HB3.out.setCell (p := ⟨w.heap.size + 1, 0, none⟩) (by show w.heap.size ≤ w.heap.size + 1; omega) _⟩
      case measure => simp [intOf]
    · rw [show offs 1 = (1 : Int) from rfl]
      go_wp2_with fail
      refine (G1.out wr HB.out).mono ?_
      rintro e w3 ⟨rfl, b3⟩
      have hn3 : Ints w3 (w.heap.size + 1) (part q 1) := HN.out.below b3 hlt
      have hx3 : PtBox w3 w.heap.size Pt.zero := HX.out.below b3 (by omega)
      have hb3 := below_to HB.out b3 HB.out.size
      have hcell := hn3.cells
      have hfro := hn3.frozen
      have HB3 := Lib.hid hb3
      have HX3 := Lib.hid hx3
      have HN3 := Lib.hid hn3
      clear hb3 hx3 hn3 b3
      obtain ⟨c0, c1, c2, c3, c4⟩ := hcell
      go_wp2
      go_roundw
      case rel => exact ⟨2, by omega, rfl, rfl, HN3.out.set1 (.int .i64 q.b), HX3.out.far ⟨w.heap.size + 1, 1, none⟩ (by show w.heap.size ≠ w.heap.size + 1; omega) _, HB3.out.setCell (p := ⟨w.heap.size + 1, 1, none⟩) (by show w.heap.size ≤ w.heap.size + 1; omega) _⟩
      case measure => simp [intOf]
    · rw [show offs 2 = (4 : Int) from rfl]
      go_wp2_with fail
      refine (G2.out wr HB.out).mono ?_
      rintro e w3 ⟨rfl, b3⟩
      have hn3 : Ints w3 (w.heap.size + 1) (part q 2) := HN.out.below b3 hlt
      have hx3 : PtBox w3 w.heap.size Pt.zero := HX.out.below b3 (by omega)
      have hb3 := below_to HB.out b3 HB.out.size
      have hcell := hn3.cells
      have hfro := hn3.frozen
      have HB3 := Lib.hid hb3
      have HX3 := Lib.hid hx3
      have HN3 := Lib.hid hn3
      clear hb3 hx3 hn3 b3
      obtain ⟨c0, c1, c2, c3, c4⟩ := hcell
      go_wp2
      go_roundw
      case rel => exact ⟨3, by omega, rfl, rfl, HN3.out.set2 (.int .i64 q.i), HX3.out.far ⟨w.heap.size + 1, 2, none⟩ (by show w.heap.size ≠ w.heap.size + 1; omega) _, HB3.out.setCell (p := ⟨w.heap.size + 1, 2, none⟩) (by show w.heap.size ≤ w.heap.size + 1; omega) _⟩
      case measure => simp [intOf]
    · rw [show offs 3 = (8 : Int) from rfl]
      go_wp2_with fail
      refine (G3.out wr HB.out).mono ?_
      rintro e w3 ⟨rfl, b3⟩
      have hn3 : Ints w3 (w.heap.size + 1) (part q 3) := HN.out.below b3 hlt
      have hx3 : PtBox w3 w.heap.size Pt.zero := HX.out.below b3 (by omega)
      have hb3 := below_to HB.out b3 HB.out.size
      have hcell := hn3.cells
      have hfro := hn3.frozen
      have HB3 := Lib.hid hb3
      have HX3 := Lib.hid hx3
      have HN3 := Lib.hid hn3
      clear hb3 hx3 hn3 b3
      obtain ⟨c0, c1, c2, c3, c4⟩ := hcell
      go_wp2
      go_roundw
      case rel => exact ⟨4, by omega, rfl, rfl, HN3.out.set3 (.int .i64 q.t), HX3.out.far ⟨w.heap.size + 1, 3, none⟩ (by show w.heap.size ≠ w.heap.size + 1; omega) _, HB3.out.setCell (p := ⟨w.heap.size + 1, 3, none⟩) (by show w.heap.size ≤ w.heap.size + 1; omega) _⟩
      case measure => simp [intOf]
    · rw [show offs 4 = (12 : Int) from rfl]
      go_wp2_with fail
      refine (G4.out wr HB.out).mono ?_
      rintro e w3 ⟨rfl, b3⟩
      have hn3 : Ints w3 (w.heap.size + 1) (part q 4) := HN.out.below b3 hlt
      have hx3 : PtBox w3 w.heap.size Pt.zero := HX.out.below b3 (by omega)
      have hb3 := below_to HB.out b3 HB.out.size
      have hcell := hn3.cells
      have hfro := hn3.frozen
      have HB3 := Lib.hid hb3
      have HX3 := Lib.hid hx3
      have HN3 := Lib.hid hn3
      clear hb3 hx3 hn3 b3
      obtain ⟨c0, c1, c2, c3, c4⟩ := hcell
      go_wp2
      go_roundw
      case rel => exact ⟨5, by omega, rfl, rfl, HN3.out.set4 (.int .i64 q.s), HX3.out.far ⟨w.heap.size + 1, 4, none⟩ (by show w.heap.size ≠ w.heap.size + 1; omega) _, HB3.out.setCell (p := ⟨w.heap.size + 1, 4, none⟩) (by show w.heap.size ≤ w.heap.size + 1; omega) _⟩
      case measure => simp [intOf]
    · have hcell := HN.out.cells
      have c5 : part q 5 = q := rfl
      rw [c5] at hcell
      have hfro := HX.out.frozen
      obtain ⟨c0, c1, c2, c3, c4⟩ := hcell
      obtain ⟨d0, d1, d2, d3, d4⟩ := HX.out.cells
      obtain ⟨e0, e1, e2, e3, e4⟩ := HX.out.five (.int .i64 q.a) (.int .u32 q.b) (.int .u32 q.i) (.int .u32 q.t) (.int .u32 q.s)
      have hs : wr.heap.size = (put5 wr w.heap.size (.int .i64 q.a) (.int .u32 q.b) (.int .u32 q.i) (.int .u32 q.t) (.int .u32 q.s)).heap.size := by simp [put5, World.setCell]
      have HS := Lib.hid hs
      clear hs c5
      go_wp2_with fail
      refine (ptr_check q.a q.b q.i q.t q.s _).mono ?_
      rintro e w4 ⟨rfl, b4⟩
      have hx3 : PtBox (put5 wr w.heap.size (.int .i64 q.a) (.int .u32 q.b) (.int .u32 q.i) (.int .u32 q.t) (.int .u32 q.s)) w.heap.size q := HX.out.put _ _ _ _ _
      have hx4 : PtBox w4 w.heap.size q := hx3.below b4 hx3.lt
      have hb3 := below_put5 HB.out (Nat.le_refl _) (.int .i64 q.a) (.int .u32 q.b) (.int .u32 q.i) (.int .u32 q.t) (.int .u32 q.s)
      have hb4 := below_to hb3 b4 hb3.size
      clear e0 e1 e2 e3 e4 d0 d1 d2 d3 d4 c0 c1 c2 c3 c4 hfro b4 hb3 hx3
      have hfro := hx4.frozen
      obtain ⟨d0, d1, d2, d3, d4⟩ := hx4.cells
      have HX4 := Lib.hid hx4
      have HB4 := Lib.hid hb4
      clear hx4 hb4
      rw [HC.out]
      rcases HPE.out with ⟨rfl, rfl⟩ | ⟨rfl, rfl⟩
      · obtain ⟨e0, e1, e2, e3, e4⟩ := HX4.out.five (.int .i64 P.a) (.int .u32 P.b) (.int .u32 P.i) (.int .u32 P.t) (.int .u32 P.s)
        go_wp2
        have hf := HX4.out.put (.int .i64 P.a) (.int .u32 P.b) (.int .u32 P.i) (.int .u32 P.t) (.int .u32 P.s)
        obtain ⟨f0, f1, f2, f3, f4⟩ := hf.cells
        unfold put5 at f0 f1 f2 f3 f4
        exact bodyPost_ret (v := .tuple #[P.v, .int .i64 0]) (by simp [results, Try.results27, go_sem, f0, f1, f2, f3, f4, Pt.v, Pt.cs]) rfl ⟨rfl, below_put5 HB4.out (Nat.le_refl _) _ _ _ _ _⟩
      · obtain ⟨e0, e1, e2, e3, e4⟩ := HX4.out.five (.int .i64 0) (.int .u32 0) (.int .u32 0) (.int .u32 0) (.int .u32 0)
        go_wp2
        have hf := HX4.out.put (.int .i64 0) (.int .u32 0) (.int .u32 0) (.int .u32 0) (.int .u32 0)
        obtain ⟨f0, f1, f2, f3, f4⟩ := hf.cells
        unfold put5 at f0 f1 f2 f3 f4
        exact bodyPost_ret (v := .tuple #[Pt.zero.v, .int .i64 8]) (by simp [results, Try.results27, go_sem, f0, f1, f2, f3, f4, Pt.v, Pt.cs, Pt.zero]) rfl ⟨rfl, below_put5 HB4.out (Nat.le_refl _) _ _ _ _ _⟩

theorem ptr_read (A : Option Addr) (n c : Nat) (l : List UInt8) (w : World) (hl : l.length = n) (hc : n ≤ c) (hr : Rd w w.heap.size 1 A n (bvs l)) :
    Calls Try.prog 27 #[.slice A n c] w fun e w' => e = .returned (.tuple #[(readP l).v, .int .i64 (readE l)]) ∧ Below w.heap.size w w' := by
  by_cases h : n = 16
  · subst h
    exact ptr_read_16 A c l w hl hc hr
  · rw [readE_len (by omega), readP_len (by omega)]
    exact ptr_read_len A n c w (by omega)
theorem below_alloc {B : Nat} {a w : World} (h : Below B a w) (o : Obj) (hB : B ≤ a.heap.size) : Below B a (w.alloc o) := h.alloc (Nat.le_trans hB h.size) o
theorem below_new (w : World) (o : Obj) : Below w.heap.size w (w.alloc o) := (Below.refl _ w).alloc (Nat.le_refl _) o
theorem run_pt_ne (p q : Pt) (b : Bool) (h : p.eq q = b) (w : World) :
    (binOp .neq 31 (.agg #[.int .i64 p.a, .int .u32 p.b, .int .u32 p.i, .int .u32 p.t, .int .u32 p.s]) (.agg #[.int .i64 q.a, .int .u32 q.b, .int .u32 q.i, .int .u32 q.t, .int .u32 q.s])).run Try.prog w = .ok (.bool (!b)) w := by
  subst h
  unfold Pt.eq ptEq
  by_cases h1 : p.a = q.a <;> by_cases h2 : p.b = q.b <;> by_cases h3 : p.i = q.i <;> by_cases h4 : p.t = q.t <;> by_cases h5 : p.s = q.s <;> simp [go_sem, h1, h2, h3, h4, h5]

theorem ptr_readX (A : Option Addr) (n c : Nat) (l : List UInt8) (w : World) (hl : l.length = n) (hc : n ≤ c) (hr : Rd w w.heap.size 1 A n (bvs l)) (q : Pt) (E : Int) (hq : readP l = q) (hE : readE l = E) :
    Calls Try.prog 27 #[.slice A n c] w fun e w' => e = .returned (.tuple #[.agg #[.int .i64 q.a, .int .u32 q.b, .int .u32 q.i, .int .u32 q.t, .int .u32 q.s], .int .i64 E]) ∧ Below w.heap.size w w' := by
  subst hq hE
  exact ptr_read A n c l w hl hc hr
theorem ptr_writeX (p : Pt) (hm : p.May) (hu : p.U) (w : World) :
    Calls Try.prog 22 #[.agg #[.int .i64 p.a, .int .u32 p.b, .int .u32 p.i, .int .u32 p.t, .int .u32 p.s]] w fun e w' => ∃ A c, e = .returned (.tuple #[.slice A 16 c, .int .i64 0]) ∧ Fr w' w.heap.size 5 1 A 16 c (bvs p.bytes) ∧ Below w.heap.size w w' :=
  ptr_write_ok p.a p.b p.i p.t p.s w hm hu.2.1 hu.2.2.1 hu.2.2.2
theorem ptr_writeBad (p : Pt) (hm : ¬ p.May) (w : World) :
    Calls Try.prog 22 #[.agg #[.int .i64 p.a, .int .u32 p.b, .int .u32 p.i, .int .u32 p.t, .int .u32 p.s]] w fun e w' => e = .returned (.tuple #[.slice none 0 0, .int .i64 8]) ∧ Below w.heap.size w w' :=
  ptr_write_bad p.a p.b p.i p.t p.s w hm
theorem ptr_checkX (p : Pt) (E : Int) (hE : p.chk = E) (w : World) : Calls Try.prog 28 #[.agg #[.int .i64 p.a, .int .u32 p.b, .int .u32 p.i, .int .u32 p.t, .int .u32 p.s]] w fun e w' => e = .returned (.int .i64 E) ∧ Below w.heap.size w w' := by
  subst hE
  exact ptr_check p.a p.b p.i p.t p.s w
theorem run_pt_eq (p q : Pt) (b : Bool) (h : p.eq q = b) (w : World) :
    (binOp .eql 31 (.agg #[.int .i64 p.a, .int .u32 p.b, .int .u32 p.i, .int .u32 p.t, .int .u32 p.s]) (.agg #[.int .i64 q.a, .int .u32 q.b, .int .u32 q.i, .int .u32 q.t, .int .u32 q.s])).run Try.prog w = .ok (.bool b) w := by
  subst h
  exact run_ptr_eq w p.a p.b p.i p.t p.s q.a q.b q.i q.t q.s
theorem PtBox.below {w w' : World} {H g : Nat} {p : Pt} (h : PtBox w g p) (hb : Below H w w') (hg : g < H) : PtBox w' g p := Box5.below h hb hg
theorem PtBox.alloc {w : World} {g : Nat} {p : Pt} (h : PtBox w g p) (o : Obj) : PtBox (w.alloc o) g p := Box5.alloc h o
theorem PtBox.new (w : World) (p : Pt) : PtBox (w.alloc (.cells #[.int .i64 p.a, .int .u32 p.b, .int .u32 p.i, .int .u32 p.t, .int .u32 p.s] 31)) w.heap.size p := Box5.new w _ _ _ _ _ _
theorem PtBox.lt {w : World} {g : Nat} {p : Pt} (h : PtBox w g p) : g < w.heap.size := Box5.lt h
theorem PtBox.cells {w : World} {g : Nat} {p : Pt} (h : PtBox w g p) : w.cell? ⟨g, 0, none⟩ = some (.int .i64 p.a) ∧ w.cell? ⟨g, 1, none⟩ = some (.int .u32 p.b) ∧ w.cell? ⟨g, 2, none⟩ = some (.int .u32 p.i) ∧ w.cell? ⟨g, 3, none⟩ = some (.int .u32 p.t) ∧ w.cell? ⟨g, 4, none⟩ = some (.int .u32 p.s) := Box5.cells h
end Go.Proofs.Ytgcagenhfddpgaa
