/-
  Contracts of package obj: Read.
-/
import Derived.Test.YtgcagenhfddpgaaMathO
import Derived.Test.YtgcagenhfddpgaaArr
import Derived.Test.YtgcagenhfddpgaaZeros
import Derived.Test.YtgcagenhfddpgaaPtrRw
namespace Go.Proofs.Ytgcagenhfddpgaa
open Go.RowKit
set_option linter.unusedVariables false
set_option linter.unusedSimpArgs false
set_option maxRecDepth 100000

def put4 (w : World) (g : Nat) (x0 x1 x2 x3 : Value) : World := (((w.setCell ⟨g, 0, none⟩ x0).setCell ⟨g, 1, none⟩ x1).setCell ⟨g, 2, none⟩ x2).setCell ⟨g, 3, none⟩ x3
theorem ObBox.raw {w : World} {g : Nat} {x0 x1 x2 x3 : Value} {t : TypeId} (h : w.heap[g]? = some (.cells #[x0, x1, x2, x3] t (0, 0))) (i : Nat) (u : Value) : (w.setCell ⟨g, i, none⟩ u).heap[g]? = some (.cells (#[x0, x1, x2, x3].setIfInBounds i u) t (0, 0)) := by
  rw [setCell_eq_setRow w g i #[x0, x1, x2, x3] t (0, 0) u h, setRow_heap w g _ _ t _ h]
theorem put4_row {w : World} {g : Nat} {x0 x1 x2 x3 : Value} {t : TypeId} (h : w.heap[g]? = some (.cells #[x0, x1, x2, x3] t (0, 0))) (y0 y1 y2 y3 : Value) : (put4 w g y0 y1 y2 y3).heap[g]? = some (.cells #[y0, y1, y2, y3] t (0, 0)) :=
  ObBox.raw (ObBox.raw (ObBox.raw (ObBox.raw h 0 y0) 1 y1) 2 y2) 3 y3
theorem ObBox.put {w : World} {g : Nat} {K L S : Int} {D : Value} (h : ObBox w g K L S D) (K' L' S' : Int) (D' : Value) : ObBox (put4 w g (.int .u8 K') (.int .i64 L') (.int .i64 S') D') g K' L' S' D' := put4_row h _ _ _ _
theorem below_put4 {B g : Nat} {w0 w : World} (h : Below B w0 w) (hg : B ≤ g) (y0 y1 y2 y3 : Value) : Below B w0 (put4 w g y0 y1 y2 y3) :=
  (((h.setCell (p := ⟨g, 0, none⟩) hg _).setCell (p := ⟨g, 1, none⟩) hg _).setCell (p := ⟨g, 2, none⟩) hg _).setCell (p := ⟨g, 3, none⟩) hg _
theorem Rd.put4 {w : World} {B sz n g : Nat} {A : Option Addr} {xs : List Value} (h : Rd w B sz A n xs) (hn : ∀ a, A = some a → a.block ≠ g) (y0 y1 y2 y3 : Value) : Rd (put4 w g y0 y1 y2 y3) B sz A n xs :=
  ⟨h.1, fun hp => by
    obtain ⟨b, off, e, hb, hc⟩ := h.2 hp
    have hne : b ≠ g := hn _ e
    refine ⟨b, off, e, hb, fun j u hu => ?_⟩
    have hk : ∀ (w : World) (i : Nat) (v : Value), (w.setCell ⟨g, i, none⟩ v).cell? ⟨b, off + j, none⟩ = w.cell? ⟨b, off + j, none⟩ := fun w i v => World.cell?_setCell_other w _ _ v (fun e => hne (by cases e; rfl))
    unfold Proofs.Ytgcagenhfddpgaa.put4
    rw [hk, hk, hk, hk]
    exact hc j u hu⟩
theorem obj_read_len (A : Option Addr) (n c : Nat) (w : World) (h : ((n : Int) != 256) = true) : Calls Try.prog 40 #[.slice A n c] w fun e w' => e = .returned (.tuple #[.agg #[.int .u8 0, .int .i64 0, .int .i64 0, .slice none 0 0], .int .i64 3]) ∧ Below w.heap.size w w' := by
  have hx0 := ObBox.new w 0 0 0 (.slice none 0 0)
  have hb0 := below_new w (.cells #[.int .u8 0, .int .i64 0, .int .i64 0, .slice none 0 0] 50)
  obtain ⟨d0, d1, d2, d3⟩ := hx0.cells
  go_enter Try.func40, Try.ntmps40
  go_wp2
  exact bodyPost_ret (v := .tuple #[.agg #[.int .u8 0, .int .i64 0, .int .i64 0, .slice none 0 0], .int .i64 3]) (by simp [results, Try.results40, go_sem, d0, d1, d2, d3]) rfl ⟨rfl, hb0⟩
theorem bv_at {l : List UInt8} {i : Nat} (h : i < l.length) : (bvs (l.take 16)).toArray[i]? = if i < 16 then some (.int .u8 (byteN l i : Int)) else none := by
  by_cases hi : i < 16
  · rw [if_pos hi]
    simp [bvs, List.getElem?_take, hi, List.getElem?_eq_getElem h, byteN, List.getD_eq_getElem?_getD, bv]
  · rw [if_neg hi]
    simp [bvs, List.getElem?_take, hi]

theorem Fr.put4 {w : World} {base sz n c g : Nat} {e : TypeId} {A : Option Addr} {xs : List Value} (h : Fr w base e sz A n c xs) (hg : g < base) (y0 y1 y2 y3 : Value) : Fr (put4 w g y0 y1 y2 y3) base e sz A n c xs := by
  have hn : ∀ {V : World}, Fr V base e sz A n c xs → rowOf A c ≠ some g := fun hV e1 => by
    have := (hV.row g e1).1
    omega
  have h0 := h.setCell (p := ⟨g, 0, none⟩) (hn h) y0
  have h1 := h0.setCell (p := ⟨g, 1, none⟩) (hn h0) y1
  have h2 := h1.setCell (p := ⟨g, 2, none⟩) (hn h1) y2
  exact h2.setCell (p := ⟨g, 3, none⟩) (hn h2) y3
set_option maxHeartbeats 2000000 in
theorem obj_read_rows (A : Option Addr) (c : Nat) (l : List UInt8) (w : World) (hl : l.length = 256) (hc : 256 ≤ c) (hr : Rd w w.heap.size 1 A 256 (bvs l))
    (h1 : ¬ AllMay (rowsL (padL l)))
    : Calls Try.prog 40 #[.slice A 256 c] w fun e w' =>
      e = .returned (.tuple #[.agg #[.int .u8 0, .int .i64 0, .int .i64 0, .slice none 0 0], .int .i64 8]) ∧ Below w.heap.size w w' := by
  have hrow := fun (D : Option Addr) (d : Nat) (W : World) (hd : 256 ≤ d) hr => ptr_rows_256 D d (padL l) W (padL_len hl) hd hr
  rw [rowsE_bad (padL_len hl) h1, rowsP_err (by rw [rowsE_bad (padL_len hl) h1]; omega)] at hrow
  have HROW := Lib.hid hrow
  clear hrow h1
  obtain ⟨g, o, rfl, hg, -⟩ := hr.2 (by omega)
  have hx0 := ObBox.new w 0 0 0 (.slice none 0 0)
  have hb0 := below_new w (.cells #[.int .u8 0, .int .i64 0, .int .i64 0, .slice none 0 0] 50)
  have hr1 := hr.alloc (Nat.le_refl _) (.cells #[.int .u8 0, .int .i64 0, .int .i64 0, .slice none 0 0] 50)
  have hi16 : (Try.prog.info? 93).map (·.size) = some 16 := by kernel_rfl
  have hld := hr1.range 0 16
  have hsz : (Try.prog.info? 93).map (·.size) = some (bvs (l.take 16)).length := by rw [bvs_len, List.length_take, hl]; exact hi16
  have har := run_arrayAt_slice (P := Try.prog) Try.underlying93 (some ⟨g, o, none⟩) 256 c (by omega)
  obtain ⟨d0, d1, d2, d3⟩ := hx0.cells
  have HX0 := Lib.hid hx0
  have HB0 := Lib.hid hb0
  have HR := Lib.hid hr
  clear hx0 hb0 hr hr1
  go_enter Try.func40, Try.ntmps40
  have hz0 : ((w.alloc (.cells #[.int .u8 0, .int .i64 0, .int .i64 0, .slice none 0 0] 50)).alloc (.cells (bvs (l.take 16)).toArray 93)).heap.size = w.heap.size + 2 := by rw [World.size_alloc, World.size_alloc]
  have hb1 : Below w.heap.size w ((w.alloc (.cells #[.int .u8 0, .int .i64 0, .int .i64 0, .slice none 0 0] 50)).alloc (.cells (bvs (l.take 16)).toArray 93)) := below_alloc HB0.out _ (Nat.le_refl _)
  have hcut := ((HR.out.cut (l := 16) (m := c) (by omega) hc).below hb1).more hb1.size
  rw [if_neg (by omega), ← bvs_drop] at hcut
  have hx1 := HX0.out.alloc (.cells (bvs (l.take 16)).toArray 93)
  have hh1 : ((w.alloc (.cells #[.int .u8 0, .int .i64 0, .int .i64 0, .slice none 0 0] 50)).alloc (.cells (bvs (l.take 16)).toArray 93)).heap[w.heap.size + 1]? = some (.cells (bvs (l.take 16)).toArray 93 (0, 0)) := by
    have := heap_alloc_new (w.alloc (.cells #[.int .u8 0, .int .i64 0, .int .i64 0, .slice none 0 0] 50)) (.cells (bvs (l.take 16)).toArray 93)
    rw [World.size_alloc] at this
    exact this
  have HZ0 := Lib.hid hz0
  have HB1 := Lib.hid hb1
  have HX1 := Lib.hid hx1
  have HH1 := Lib.hid hh1
  have HCUT := Lib.hid hcut
  clear hz0 hb1 hx1 hh1 hcut
  go_wp2_with (first
    | (refine wpList_load_mid rfl 93 (.tmp 13) rfl g o rfl (bvs (l.take 16)) _ hld Try.underlying93 rfl hsz ?_)
    | (refine wpList_store_new rfl 93 (.tmp 4) (.tmp 14) rfl _ (l.take 16) (by simp [Act.eval, Act.put]) (by simp [Act.eval, Act.put]) (by rw [List.length_take, hl]; exact hi16) (by simp [hl]) ?_)
    | (at_builtin; go_loud (refine wpList_append_zeros (n := 240) (m := 16) (c := 240) rfl (.tmp 21) (.const (.int .i64 16)) rfl okB Try.underlying3 rfl HCUT.out rfl (by omega) (by omega) (by omega) 256 rfl (padL l) rfl ?_; intro d1' w1 f1 b1 z1; have hnc := f1.nc; have hrp := f1.rd; have hx2 := HX1.out.below b1 (by rw [HZ0.out]; omega); have hh2 := (b1.block (w.heap.size + 1) (by rw [HZ0.out]; omega)).trans HH1.out; have hb2 := below_to HB1.out b1 HB1.out.size; rw [HZ0.out] at hrp z1; rw [HZ0.out]; have HR2 := Lib.hid hrp; have HX2 := Lib.hid hx2; have HH2 := Lib.hid hh2; have HB2 := Lib.hid hb2; clear f1 b1 hrp hx2 hh2 hb2 d0 d1 d2 d3 hld)))
  refine (HROW.out _ _ w1 hnc HR2.out).mono ?_
  rintro e w2 ⟨D, d, rfl, f2, b2⟩
  have hx3 := HX2.out.below b2 (by omega)
  have hh3 := (b2.block (w.heap.size + 1) (by omega)).trans HH2.out
  have hb3 := below_to HB2.out b2 HB2.out.size
  have hf3 := hx3.frozen
  have hlt3 := hx3.lt
  have hrd3 := f2.rd
  clear b2 f2
  obtain ⟨d0, d1, d2, d3⟩ := hx3.cells
  have HX3 := Lib.hid hx3
  have HH3 := Lib.hid hh3
  have HB3 := Lib.hid hb3
  have HR3 := Lib.hid hrd3
  clear hx3 hh3 hb3 hrd3
  go_wp2
  have hx8 := HX3.out.put 0 0 0 (.slice none 0 0)
  have hb8 := below_put4 HB3.out (Nat.le_refl _) (.int .u8 0) (.int .i64 0) (.int .i64 0) (.slice none 0 0)
  obtain ⟨e0, e1, e2, e3⟩ := hx8.cells
  exact bodyPost_ret (v := .tuple #[.agg #[.int .u8 0, .int .i64 0, .int .i64 0, .slice none 0 0], .int .i64 8]) (by unfold put4 at e0 e1 e2 e3; simp [results, Try.results40, go_sem, e0, e1, e2, e3]) rfl ⟨rfl, hb8⟩
set_option maxHeartbeats 2000000 in
theorem obj_read_mid (A : Option Addr) (c : Nat) (l : List UInt8) (w : World) (hl : l.length = 256) (hc : 256 ≤ c) (hr : Rd w w.heap.size 1 A 256 (bvs l))
    (h1 : AllMay (rowsL (padL l)))
    (h2 : ¬ MidOk l)
    : Calls Try.prog 40 #[.slice A 256 c] w fun e w' =>
      e = .returned (.tuple #[.agg #[.int .u8 0, .int .i64 0, .int .i64 0, .slice none 0 0], .int .i64 8]) ∧ Below w.heap.size w w' := by
  have hrow := fun (D : Option Addr) (d : Nat) (W : World) (hd : 256 ≤ d) hr => ptr_rows_256 D d (padL l) W (padL_len hl) hd hr
  rw [rowsE_may (padL_len hl) h1, rowsP_may (padL_len hl) h1, rowsL_len] at hrow
  have HROW := Lib.hid hrow
  clear hrow h1
  obtain ⟨g, o, rfl, hg, -⟩ := hr.2 (by omega)
  have hx0 := ObBox.new w 0 0 0 (.slice none 0 0)
  have hb0 := below_new w (.cells #[.int .u8 0, .int .i64 0, .int .i64 0, .slice none 0 0] 50)
  have hr1 := hr.alloc (Nat.le_refl _) (.cells #[.int .u8 0, .int .i64 0, .int .i64 0, .slice none 0 0] 50)
  have hi16 : (Try.prog.info? 93).map (·.size) = some 16 := by kernel_rfl
  have hld := hr1.range 0 16
  have hsz : (Try.prog.info? 93).map (·.size) = some (bvs (l.take 16)).length := by rw [bvs_len, List.length_take, hl]; exact hi16
  have har := run_arrayAt_slice (P := Try.prog) Try.underlying93 (some ⟨g, o, none⟩) 256 c (by omega)
  obtain ⟨d0, d1, d2, d3⟩ := hx0.cells
  have HX0 := Lib.hid hx0
  have HB0 := Lib.hid hb0
  have HR := Lib.hid hr
  clear hx0 hb0 hr hr1
  go_enter Try.func40, Try.ntmps40
  have hz0 : ((w.alloc (.cells #[.int .u8 0, .int .i64 0, .int .i64 0, .slice none 0 0] 50)).alloc (.cells (bvs (l.take 16)).toArray 93)).heap.size = w.heap.size + 2 := by rw [World.size_alloc, World.size_alloc]
  have hb1 : Below w.heap.size w ((w.alloc (.cells #[.int .u8 0, .int .i64 0, .int .i64 0, .slice none 0 0] 50)).alloc (.cells (bvs (l.take 16)).toArray 93)) := below_alloc HB0.out _ (Nat.le_refl _)
  have hcut := ((HR.out.cut (l := 16) (m := c) (by omega) hc).below hb1).more hb1.size
  rw [if_neg (by omega), ← bvs_drop] at hcut
  have hx1 := HX0.out.alloc (.cells (bvs (l.take 16)).toArray 93)
  have hh1 : ((w.alloc (.cells #[.int .u8 0, .int .i64 0, .int .i64 0, .slice none 0 0] 50)).alloc (.cells (bvs (l.take 16)).toArray 93)).heap[w.heap.size + 1]? = some (.cells (bvs (l.take 16)).toArray 93 (0, 0)) := by
    have := heap_alloc_new (w.alloc (.cells #[.int .u8 0, .int .i64 0, .int .i64 0, .slice none 0 0] 50)) (.cells (bvs (l.take 16)).toArray 93)
    rw [World.size_alloc] at this
    exact this
  have HZ0 := Lib.hid hz0
  have HB1 := Lib.hid hb1
  have HX1 := Lib.hid hx1
  have HH1 := Lib.hid hh1
  have HCUT := Lib.hid hcut
  clear hz0 hb1 hx1 hh1 hcut
  go_wp2_with (first
    | (refine wpList_load_mid rfl 93 (.tmp 13) rfl g o rfl (bvs (l.take 16)) _ hld Try.underlying93 rfl hsz ?_)
    | (refine wpList_store_new rfl 93 (.tmp 4) (.tmp 14) rfl _ (l.take 16) (by simp [Act.eval, Act.put]) (by simp [Act.eval, Act.put]) (by rw [List.length_take, hl]; exact hi16) (by simp [hl]) ?_)
    | (at_builtin; go_loud (refine wpList_append_zeros (n := 240) (m := 16) (c := 240) rfl (.tmp 21) (.const (.int .i64 16)) rfl okB Try.underlying3 rfl HCUT.out rfl (by omega) (by omega) (by omega) 256 rfl (padL l) rfl ?_; intro d1' w1 f1 b1 z1; have hnc := f1.nc; have hrp := f1.rd; have hx2 := HX1.out.below b1 (by rw [HZ0.out]; omega); have hh2 := (b1.block (w.heap.size + 1) (by rw [HZ0.out]; omega)).trans HH1.out; have hb2 := below_to HB1.out b1 HB1.out.size; rw [HZ0.out] at hrp z1; rw [HZ0.out]; have HR2 := Lib.hid hrp; have HX2 := Lib.hid hx2; have HH2 := Lib.hid hh2; have HB2 := Lib.hid hb2; clear f1 b1 hrp hx2 hh2 hb2 d0 d1 d2 d3 hld)))
  refine (HROW.out _ _ w1 hnc HR2.out).mono ?_
  rintro e w2 ⟨D, d, rfl, f2, b2⟩
  have hd16 : 16 ≤ d := f2.nc
  have hx3 := HX2.out.below b2 (by omega)
  have hh3 := (b2.block (w.heap.size + 1) (by omega)).trans HH2.out
  have hb3 := below_to HB2.out b2 HB2.out.size
  have hf3 := hx3.frozen
  have hlt3 := hx3.lt
  have hrd3 := f2.rd
  clear b2 f2
  obtain ⟨d0, d1, d2, d3⟩ := hx3.cells
  have HX3 := Lib.hid hx3
  have HH3 := Lib.hid hh3
  have HB3 := Lib.hid hb3
  have HR3 := Lib.hid hrd3
  clear hx3 hh3 hb3 hrd3
  have hX : (l.take 16).drop 4 = (l.drop 4).take 12 := List.drop_take
  have hX12 : ((l.take 16).drop 4).length = 12 := by rw [List.length_drop, List.length_take, hl]; rfl
  have hi12 : (Try.prog.info? 94).map (·.size) = some (bvs ((l.take 16).drop 4)).length := by rw [bvs_len, hX12]; kernel_rfl
  have hrg := range_of_row HH3.out 4
  have hne := fun W => run_bytes_neq (P := Try.prog) (t := 94) (e := 5) (n := 12) Try.underlying94 (by kernel_rfl) (by kernel_rfl) Try.underlying5 W ((l.take 16).drop 4) (noughts 12) hX12 (noughts_len 12)
  have hne2 : ∀ W, (binOp .neq 94 (.agg (bvs ((l.take 16).drop 4)).toArray) (.agg #[.int .u8 0, .int .u8 0, .int .u8 0, .int .u8 0, .int .u8 0, .int .u8 0, .int .u8 0, .int .u8 0, .int .u8 0, .int .u8 0, .int .u8 0, .int .u8 0])).run Try.prog W = .ok (.bool (!((l.take 16).drop 4 == noughts 12))) W := hne
  rw [hX, show ((l.drop 4).take 12 == noughts 12) = false from beq_eq_false_iff_ne.2 h2] at hne2
  have ha12 := run_arrayAt_slice (P := Try.prog) Try.underlying94 (some ⟨w.heap.size + 1, 4, none⟩) 12 12 (by omega)
  rw [hX] at hrg hi12
  have HI12 := Lib.hid hi12
  have HRG := Lib.hid hrg
  clear hne hX hX12 hi12 hrg har hsz
  go_wp2_with (first
    | (refine wpList_load_mid_g (by simp [Region.wanted, yielded]) 94 (.tmp 30) rfl (w.heap.size + 1) 4 rfl _ _ HRG.out Try.underlying94 rfl HI12.out ?_))
  have hx8 := HX3.out.put 0 0 0 (.slice none 0 0)
  have hb8 := below_put4 HB3.out (Nat.le_refl _) (.int .u8 0) (.int .i64 0) (.int .i64 0) (.slice none 0 0)
  obtain ⟨e0, e1, e2, e3⟩ := hx8.cells
  exact bodyPost_ret (v := .tuple #[.agg #[.int .u8 0, .int .i64 0, .int .i64 0, .slice none 0 0], .int .i64 8]) (by unfold put4 at e0 e1 e2 e3; simp [results, Try.results40, go_sem, e0, e1, e2, e3]) rfl ⟨rfl, hb8⟩
set_option maxHeartbeats 2000000 in
theorem obj_read_chk (A : Option Addr) (c : Nat) (l : List UInt8) (w : World) (hl : l.length = 256) (hc : 256 ≤ c) (hr : Rd w w.heap.size 1 A 256 (bvs l))
    (h1 : AllMay (rowsL (padL l)))
    (h2 : MidOk l)
    (h3 : ¬ ObMay (byteN l 0 : Int) (byteN l 1 : Int) (numS l) (rdData l))
    : Calls Try.prog 40 #[.slice A 256 c] w fun e w' =>
      e = .returned (.tuple #[.agg #[.int .u8 0, .int .i64 0, .int .i64 0, .slice none 0 0], .int .i64 8]) ∧ Below w.heap.size w w' := by
  have hrow := fun (D : Option Addr) (d : Nat) (W : World) (hd : 256 ≤ d) hr => ptr_rows_256 D d (padL l) W (padL_len hl) hd hr
  rw [rowsE_may (padL_len hl) h1, rowsP_may (padL_len hl) h1, rowsL_len] at hrow
  have HROW := Lib.hid hrow
  clear hrow h1
  have hget : ∀ W, Below w.heap.size w W → Calls Try.prog 23 #[.slice A 256 c, .int .i64 2, .int .i64 2] W fun e w' => e = .returned (.tuple #[.int .i64 (numS l), .int .i64 0]) ∧ Below W.heap.size W w' := fun W h => get_ok A 256 c 2 2 W l (by omega) hc ((hr.below h).more h.size) (by omega) (by omega) (by omega) (by omega)
  have HGET := Lib.hid hget
  clear hget
  have hck := fun (A : Option Addr) (W : World) hr => obj_check (byteN l 0 : Int) (byteN l 1 : Int) (numS l) A 15 15 (rdData l) W (rdData_len l) hr (by have := (l.getD 0 0).toNat_lt; unfold byteN; omega) 8 (obE_no h3)
  have HCK := Lib.hid hck
  clear hck h3
  obtain ⟨g, o, rfl, hg, -⟩ := hr.2 (by omega)
  have hx0 := ObBox.new w 0 0 0 (.slice none 0 0)
  have hb0 := below_new w (.cells #[.int .u8 0, .int .i64 0, .int .i64 0, .slice none 0 0] 50)
  have hr1 := hr.alloc (Nat.le_refl _) (.cells #[.int .u8 0, .int .i64 0, .int .i64 0, .slice none 0 0] 50)
  have hi16 : (Try.prog.info? 93).map (·.size) = some 16 := by kernel_rfl
  have hld := hr1.range 0 16
  have hsz : (Try.prog.info? 93).map (·.size) = some (bvs (l.take 16)).length := by rw [bvs_len, List.length_take, hl]; exact hi16
  have har := run_arrayAt_slice (P := Try.prog) Try.underlying93 (some ⟨g, o, none⟩) 256 c (by omega)
  obtain ⟨d0, d1, d2, d3⟩ := hx0.cells
  have HX0 := Lib.hid hx0
  have HB0 := Lib.hid hb0
  have HR := Lib.hid hr
  clear hx0 hb0 hr hr1
  go_enter Try.func40, Try.ntmps40
  have hz0 : ((w.alloc (.cells #[.int .u8 0, .int .i64 0, .int .i64 0, .slice none 0 0] 50)).alloc (.cells (bvs (l.take 16)).toArray 93)).heap.size = w.heap.size + 2 := by rw [World.size_alloc, World.size_alloc]
  have hb1 : Below w.heap.size w ((w.alloc (.cells #[.int .u8 0, .int .i64 0, .int .i64 0, .slice none 0 0] 50)).alloc (.cells (bvs (l.take 16)).toArray 93)) := below_alloc HB0.out _ (Nat.le_refl _)
  have hcut := ((HR.out.cut (l := 16) (m := c) (by omega) hc).below hb1).more hb1.size
  rw [if_neg (by omega), ← bvs_drop] at hcut
  have hx1 := HX0.out.alloc (.cells (bvs (l.take 16)).toArray 93)
  have hh1 : ((w.alloc (.cells #[.int .u8 0, .int .i64 0, .int .i64 0, .slice none 0 0] 50)).alloc (.cells (bvs (l.take 16)).toArray 93)).heap[w.heap.size + 1]? = some (.cells (bvs (l.take 16)).toArray 93 (0, 0)) := by
    have := heap_alloc_new (w.alloc (.cells #[.int .u8 0, .int .i64 0, .int .i64 0, .slice none 0 0] 50)) (.cells (bvs (l.take 16)).toArray 93)
    rw [World.size_alloc] at this
    exact this
  have HZ0 := Lib.hid hz0
  have HB1 := Lib.hid hb1
  have HX1 := Lib.hid hx1
  have HH1 := Lib.hid hh1
  have HCUT := Lib.hid hcut
  clear hz0 hb1 hx1 hh1 hcut
  go_wp2_with (first
    | (refine wpList_load_mid rfl 93 (.tmp 13) rfl g o rfl (bvs (l.take 16)) _ hld Try.underlying93 rfl hsz ?_)
    | (refine wpList_store_new rfl 93 (.tmp 4) (.tmp 14) rfl _ (l.take 16) (by simp [Act.eval, Act.put]) (by simp [Act.eval, Act.put]) (by rw [List.length_take, hl]; exact hi16) (by simp [hl]) ?_)
    | (at_builtin; go_loud (refine wpList_append_zeros (n := 240) (m := 16) (c := 240) rfl (.tmp 21) (.const (.int .i64 16)) rfl okB Try.underlying3 rfl HCUT.out rfl (by omega) (by omega) (by omega) 256 rfl (padL l) rfl ?_; intro d1' w1 f1 b1 z1; have hnc := f1.nc; have hrp := f1.rd; have hx2 := HX1.out.below b1 (by rw [HZ0.out]; omega); have hh2 := (b1.block (w.heap.size + 1) (by rw [HZ0.out]; omega)).trans HH1.out; have hb2 := below_to HB1.out b1 HB1.out.size; rw [HZ0.out] at hrp z1; rw [HZ0.out]; have HR2 := Lib.hid hrp; have HX2 := Lib.hid hx2; have HH2 := Lib.hid hh2; have HB2 := Lib.hid hb2; clear f1 b1 hrp hx2 hh2 hb2 d0 d1 d2 d3 hld)))
  refine (HROW.out _ _ w1 hnc HR2.out).mono ?_
  rintro e w2 ⟨D, d, rfl, f2, b2⟩
  have hd16 : 16 ≤ d := f2.nc
  have hx3 := HX2.out.below b2 (by omega)
  have hh3 := (b2.block (w.heap.size + 1) (by omega)).trans HH2.out
  have hb3 := below_to HB2.out b2 HB2.out.size
  have hf3 := hx3.frozen
  have hlt3 := hx3.lt
  have hrd3 := f2.rd
  have hDne : ∀ a, D = some a → a.block ≠ w.heap.size := fun a e => by have := (f2.row a.block (by subst e; simp [rowOf]; omega)).1; omega
  clear b2 f2
  obtain ⟨d0, d1, d2, d3⟩ := hx3.cells
  have HX3 := Lib.hid hx3
  have HH3 := Lib.hid hh3
  have HB3 := Lib.hid hb3
  have HR3 := Lib.hid hrd3
  clear hx3 hh3 hb3 hrd3
  have hX : (l.take 16).drop 4 = (l.drop 4).take 12 := List.drop_take
  have hX12 : ((l.take 16).drop 4).length = 12 := by rw [List.length_drop, List.length_take, hl]; rfl
  have hi12 : (Try.prog.info? 94).map (·.size) = some (bvs ((l.take 16).drop 4)).length := by rw [bvs_len, hX12]; kernel_rfl
  have hrg := range_of_row HH3.out 4
  have hne := fun W => run_bytes_neq (P := Try.prog) (t := 94) (e := 5) (n := 12) Try.underlying94 (by kernel_rfl) (by kernel_rfl) Try.underlying5 W ((l.take 16).drop 4) (noughts 12) hX12 (noughts_len 12)
  have hne2 : ∀ W, (binOp .neq 94 (.agg (bvs ((l.take 16).drop 4)).toArray) (.agg #[.int .u8 0, .int .u8 0, .int .u8 0, .int .u8 0, .int .u8 0, .int .u8 0, .int .u8 0, .int .u8 0, .int .u8 0, .int .u8 0, .int .u8 0, .int .u8 0])).run Try.prog W = .ok (.bool (!((l.take 16).drop 4 == noughts 12))) W := hne
  rw [hX, show ((l.drop 4).take 12 == noughts 12) = true from beq_iff_eq.2 h2] at hne2
  have ha12 := run_arrayAt_slice (P := Try.prog) Try.underlying94 (some ⟨w.heap.size + 1, 4, none⟩) 12 12 (by omega)
  rw [hX] at hrg hi12
  have HI12 := Lib.hid hi12
  have HRG := Lib.hid hrg
  clear hne hX hX12 hi12 hrg har hsz
  go_wp2_with (first
    | (refine wpList_load_mid_g (by simp [Region.wanted, yielded]) 94 (.tmp 30) rfl (w.heap.size + 1) 4 rfl _ _ HRG.out Try.underlying94 rfl HI12.out ?_))
  refine (HGET.out _ HB3.out).mono ?_
  rintro e w3 ⟨rfl, b4⟩
  have hx4 := HX3.out.below b4 hlt3
  have hh4 := (b4.block (w.heap.size + 1) (by have := (Array.getElem?_eq_some_iff.1 HH3.out).1; exact this)).trans HH3.out
  have hb4 := below_to HB3.out b4 HB3.out.size
  have hr4 := (HR3.out.below b4).more b4.size
  have hf4 := hx4.frozen
  have hlt4 := hx4.lt
  clear d0 d1 d2 d3 hf3 b4 hne2 ha12 hlt3
  have e0 : w3.cell? ⟨w.heap.size + 1, 0, none⟩ = some (.int .u8 (byteN l 0 : Int)) := by
    rw [cell_of_row w3 _ 0 _ _ _ hh4, bv_at (by omega)]
    rfl
  have e1 : w3.cell? ⟨w.heap.size + 1, 1, none⟩ = some (.int .u8 (byteN l 1 : Int)) := by
    rw [cell_of_row w3 _ 1 _ _ _ hh4, bv_at (by omega)]
    rfl
  obtain ⟨d0, d1, d2, d3⟩ := hx4.cells
  have HX4 := Lib.hid hx4
  have HB4 := Lib.hid hb4
  have HR4 := Lib.hid hr4
  have hw8 : IntKind.i64.wrap (byteN l 1 : Int) = (byteN l 1 : Int) := by
    have := (l.getD 1 0).toNat_lt
    rw [IntKind.wrap_i64]
    unfold byteN
    omega
  have HDNE := Lib.hid hDne
  clear hDne
  have hd15 : 15 ≤ d := by omega
  clear hx4 hb4 hr4 hh4
  go_wp2
  go_region
  have hx5 := HX4.out.put (byteN l 0 : Int) (byteN l 1 : Int) (numS l) (.slice D 15 15)
  have hb5 := below_put4 HB4.out (Nat.le_refl _) (.int .u8 (byteN l 0 : Int)) (.int .i64 (byteN l 1 : Int)) (.int .i64 (numS l)) (.slice D 15 15)
  have hr5 := (HR4.out.take (k := 15) (by omega)).put4 HDNE.out (.int .u8 (byteN l 0 : Int)) (.int .i64 (byteN l 1 : Int)) (.int .i64 (numS l)) (.slice D 15 15)
  rw [rows_last hl, pcs_app, List.take_left' (by rw [pcs_len, rdData_len])] at hr5
  have hz5 : (put4 w3 w.heap.size (.int .u8 (byteN l 0 : Int)) (.int .i64 (byteN l 1 : Int)) (.int .i64 (numS l)) (.slice D 15 15)).drew.heap.size = w3.heap.size := by simp [put4, World.drew]
  show Exit.then _ _ _ _ (put4 w3 w.heap.size (.int .u8 (byteN l 0 : Int)) (.int .i64 (byteN l 1 : Int)) (.int .i64 (numS l)) (.slice D 15 15)).drew
  have hx6 : ObBox (put4 w3 w.heap.size (.int .u8 (byteN l 0 : Int)) (.int .i64 (byteN l 1 : Int)) (.int .i64 (numS l)) (.slice D 15 15)).drew w.heap.size (byteN l 0 : Int) (byteN l 1 : Int) (numS l) (.slice D 15 15) := hx5
  have hb6 := hb5.drew
  have hr6 := hr5.drew
  clear hx5 hb5 hr5
  rw [← hz5] at hr6
  clear hz5 d0 d1 d2 d3 hf4 hlt4 e0 e1 hw8 hd15 hd16
  generalize (put4 w3 w.heap.size (.int .u8 (byteN l 0 : Int)) (.int .i64 (byteN l 1 : Int)) (.int .i64 (numS l)) (.slice D 15 15)).drew = w4 at *
  obtain ⟨d0, d1, d2, d3⟩ := hx6.cells
  have hf6 := hx6.frozen
  have hlt6 := hx6.lt
  have HX6 := Lib.hid hx6
  have HB6 := Lib.hid hb6
  have HR6 := Lib.hid hr6
  clear hx6 hb6 hr6
  go_wp2_with fail
  refine (HCK.out _ w4 HR6.out).mono ?_
  rintro e w5 ⟨rfl, b6⟩
  have hx7 := HX6.out.below b6 hlt6
  have hb7 := below_to HB6.out b6 HB6.out.size
  have hr7 := (HR6.out.below b6).more b6.size
  have hf7 := hx7.frozen
  clear d0 d1 d2 d3 hf6
  obtain ⟨d0, d1, d2, d3⟩ := hx7.cells
  have HX7 := Lib.hid hx7
  have HB7 := Lib.hid hb7
  have HR7 := Lib.hid hr7
  clear hx7 hb7 hr7 b6
  go_wp2
  have hx8 := HX7.out.put 0 0 0 (.slice none 0 0)
  have hb8 := below_put4 HB7.out (Nat.le_refl _) (.int .u8 0) (.int .i64 0) (.int .i64 0) (.slice none 0 0)
  obtain ⟨e0, e1, e2, e3⟩ := hx8.cells
  exact bodyPost_ret (v := .tuple #[.agg #[.int .u8 0, .int .i64 0, .int .i64 0, .slice none 0 0], .int .i64 8]) (by unfold put4 at e0 e1 e2 e3; simp [results, Try.results40, go_sem, e0, e1, e2, e3]) rfl ⟨rfl, hb8⟩
set_option maxHeartbeats 2000000 in
theorem obj_read_ok (A : Option Addr) (c : Nat) (l : List UInt8) (w : World) (hl : l.length = 256) (hc : 256 ≤ c) (hr : Rd w w.heap.size 1 A 256 (bvs l))
    (h1 : AllMay (rowsL (padL l)))
    (h2 : MidOk l)
    (h3 : ObMay (byteN l 0 : Int) (byteN l 1 : Int) (numS l) (rdData l))
    : Calls Try.prog 40 #[.slice A 256 c] w fun e w' =>
      ∃ D d, e = .returned (.tuple #[.agg #[.int .u8 (byteN l 0 : Int), .int .i64 (byteN l 1 : Int), .int .i64 (numS l), .slice D 15 15], .int .i64 0]) ∧ Fr w' (w.heap.size + 1) 31 5 D 15 d (pcs (rdData l)) ∧ Below w.heap.size w w' := by
  have hrow := fun (D : Option Addr) (d : Nat) (W : World) (hd : 256 ≤ d) hr => ptr_rows_256 D d (padL l) W (padL_len hl) hd hr
  rw [rowsE_may (padL_len hl) h1, rowsP_may (padL_len hl) h1, rowsL_len] at hrow
  have HROW := Lib.hid hrow
  clear hrow h1
  have hget : ∀ W, Below w.heap.size w W → Calls Try.prog 23 #[.slice A 256 c, .int .i64 2, .int .i64 2] W fun e w' => e = .returned (.tuple #[.int .i64 (numS l), .int .i64 0]) ∧ Below W.heap.size W w' := fun W h => get_ok A 256 c 2 2 W l (by omega) hc ((hr.below h).more h.size) (by omega) (by omega) (by omega) (by omega)
  have HGET := Lib.hid hget
  clear hget
  have hck := fun (A : Option Addr) (W : World) hr => obj_check (byteN l 0 : Int) (byteN l 1 : Int) (numS l) A 15 15 (rdData l) W (rdData_len l) hr (by have := (l.getD 0 0).toNat_lt; unfold byteN; omega) 0 (obE_yes h3)
  have HCK := Lib.hid hck
  clear hck h3
  obtain ⟨g, o, rfl, hg, -⟩ := hr.2 (by omega)
  have hx0 := ObBox.new w 0 0 0 (.slice none 0 0)
  have hb0 := below_new w (.cells #[.int .u8 0, .int .i64 0, .int .i64 0, .slice none 0 0] 50)
  have hr1 := hr.alloc (Nat.le_refl _) (.cells #[.int .u8 0, .int .i64 0, .int .i64 0, .slice none 0 0] 50)
  have hi16 : (Try.prog.info? 93).map (·.size) = some 16 := by kernel_rfl
  have hld := hr1.range 0 16
  have hsz : (Try.prog.info? 93).map (·.size) = some (bvs (l.take 16)).length := by rw [bvs_len, List.length_take, hl]; exact hi16
  have har := run_arrayAt_slice (P := Try.prog) Try.underlying93 (some ⟨g, o, none⟩) 256 c (by omega)
  obtain ⟨d0, d1, d2, d3⟩ := hx0.cells
  have HX0 := Lib.hid hx0
  have HB0 := Lib.hid hb0
  have HR := Lib.hid hr
  clear hx0 hb0 hr hr1
  go_enter Try.func40, Try.ntmps40
  have hz0 : ((w.alloc (.cells #[.int .u8 0, .int .i64 0, .int .i64 0, .slice none 0 0] 50)).alloc (.cells (bvs (l.take 16)).toArray 93)).heap.size = w.heap.size + 2 := by rw [World.size_alloc, World.size_alloc]
  have hb1 : Below w.heap.size w ((w.alloc (.cells #[.int .u8 0, .int .i64 0, .int .i64 0, .slice none 0 0] 50)).alloc (.cells (bvs (l.take 16)).toArray 93)) := below_alloc HB0.out _ (Nat.le_refl _)
  have hcut := ((HR.out.cut (l := 16) (m := c) (by omega) hc).below hb1).more hb1.size
  rw [if_neg (by omega), ← bvs_drop] at hcut
  have hx1 := HX0.out.alloc (.cells (bvs (l.take 16)).toArray 93)
  have hh1 : ((w.alloc (.cells #[.int .u8 0, .int .i64 0, .int .i64 0, .slice none 0 0] 50)).alloc (.cells (bvs (l.take 16)).toArray 93)).heap[w.heap.size + 1]? = some (.cells (bvs (l.take 16)).toArray 93 (0, 0)) := by
    have := heap_alloc_new (w.alloc (.cells #[.int .u8 0, .int .i64 0, .int .i64 0, .slice none 0 0] 50)) (.cells (bvs (l.take 16)).toArray 93)
    rw [World.size_alloc] at this
    exact this
  have HZ0 := Lib.hid hz0
  have HB1 := Lib.hid hb1
  have HX1 := Lib.hid hx1
  have HH1 := Lib.hid hh1
  have HCUT := Lib.hid hcut
  clear hz0 hb1 hx1 hh1 hcut
  go_wp2_with (first
    | (refine wpList_load_mid rfl 93 (.tmp 13) rfl g o rfl (bvs (l.take 16)) _ hld Try.underlying93 rfl hsz ?_)
    | (refine wpList_store_new rfl 93 (.tmp 4) (.tmp 14) rfl _ (l.take 16) (by simp [Act.eval, Act.put]) (by simp [Act.eval, Act.put]) (by rw [List.length_take, hl]; exact hi16) (by simp [hl]) ?_)
    | (at_builtin; go_loud (refine wpList_append_zeros (n := 240) (m := 16) (c := 240) rfl (.tmp 21) (.const (.int .i64 16)) rfl okB Try.underlying3 rfl HCUT.out rfl (by omega) (by omega) (by omega) 256 rfl (padL l) rfl ?_; intro d1' w1 f1 b1 z1; have hnc := f1.nc; have hrp := f1.rd; have hx2 := HX1.out.below b1 (by rw [HZ0.out]; omega); have hh2 := (b1.block (w.heap.size + 1) (by rw [HZ0.out]; omega)).trans HH1.out; have hb2 := below_to HB1.out b1 HB1.out.size; rw [HZ0.out] at hrp z1; rw [HZ0.out]; have HR2 := Lib.hid hrp; have HX2 := Lib.hid hx2; have HH2 := Lib.hid hh2; have HB2 := Lib.hid hb2; clear f1 b1 hrp hx2 hh2 hb2 d0 d1 d2 d3 hld)))
  refine (HROW.out _ _ w1 hnc HR2.out).mono ?_
  rintro e w2 ⟨D, d, rfl, f2, b2⟩
  have hd16 : 16 ≤ d := f2.nc
  have hx3 := HX2.out.below b2 (by omega)
  have hh3 := (b2.block (w.heap.size + 1) (by omega)).trans HH2.out
  have hb3 := below_to HB2.out b2 HB2.out.size
  have hf3 := hx3.frozen
  have hlt3 := hx3.lt
  have hrd3 := f2.rd
  have hDne : ∀ a, D = some a → a.block ≠ w.heap.size := fun a e => by have := (f2.row a.block (by subst e; simp [rowOf]; omega)).1; omega
  have HFR3 := Lib.hid (f2.mono (base' := w.heap.size + 1) (by omega))
  clear b2 f2
  obtain ⟨d0, d1, d2, d3⟩ := hx3.cells
  have HX3 := Lib.hid hx3
  have HH3 := Lib.hid hh3
  have HB3 := Lib.hid hb3
  have HR3 := Lib.hid hrd3
  clear hx3 hh3 hb3 hrd3
  have hX : (l.take 16).drop 4 = (l.drop 4).take 12 := List.drop_take
  have hX12 : ((l.take 16).drop 4).length = 12 := by rw [List.length_drop, List.length_take, hl]; rfl
  have hi12 : (Try.prog.info? 94).map (·.size) = some (bvs ((l.take 16).drop 4)).length := by rw [bvs_len, hX12]; kernel_rfl
  have hrg := range_of_row HH3.out 4
  have hne := fun W => run_bytes_neq (P := Try.prog) (t := 94) (e := 5) (n := 12) Try.underlying94 (by kernel_rfl) (by kernel_rfl) Try.underlying5 W ((l.take 16).drop 4) (noughts 12) hX12 (noughts_len 12)
  have hne2 : ∀ W, (binOp .neq 94 (.agg (bvs ((l.take 16).drop 4)).toArray) (.agg #[.int .u8 0, .int .u8 0, .int .u8 0, .int .u8 0, .int .u8 0, .int .u8 0, .int .u8 0, .int .u8 0, .int .u8 0, .int .u8 0, .int .u8 0, .int .u8 0])).run Try.prog W = .ok (.bool (!((l.take 16).drop 4 == noughts 12))) W := hne
  rw [hX, show ((l.drop 4).take 12 == noughts 12) = true from beq_iff_eq.2 h2] at hne2
  have ha12 := run_arrayAt_slice (P := Try.prog) Try.underlying94 (some ⟨w.heap.size + 1, 4, none⟩) 12 12 (by omega)
  rw [hX] at hrg hi12
  have HI12 := Lib.hid hi12
  have HRG := Lib.hid hrg
  clear hne hX hX12 hi12 hrg har hsz
  go_wp2_with (first
    | (refine wpList_load_mid_g (by simp [Region.wanted, yielded]) 94 (.tmp 30) rfl (w.heap.size + 1) 4 rfl _ _ HRG.out Try.underlying94 rfl HI12.out ?_))
  refine (HGET.out _ HB3.out).mono ?_
  rintro e w3 ⟨rfl, b4⟩
  have hx4 := HX3.out.below b4 hlt3
  have hh4 := (b4.block (w.heap.size + 1) (by have := (Array.getElem?_eq_some_iff.1 HH3.out).1; exact this)).trans HH3.out
  have hb4 := below_to HB3.out b4 HB3.out.size
  have hr4 := (HR3.out.below b4).more b4.size
  have hf4 := hx4.frozen
  have HFR4 := Lib.hid (HFR3.out.below b4 (Nat.le_refl _))
  have hlt4 := hx4.lt
  clear d0 d1 d2 d3 hf3 b4 hne2 ha12 hlt3
  have e0 : w3.cell? ⟨w.heap.size + 1, 0, none⟩ = some (.int .u8 (byteN l 0 : Int)) := by
    rw [cell_of_row w3 _ 0 _ _ _ hh4, bv_at (by omega)]
    rfl
  have e1 : w3.cell? ⟨w.heap.size + 1, 1, none⟩ = some (.int .u8 (byteN l 1 : Int)) := by
    rw [cell_of_row w3 _ 1 _ _ _ hh4, bv_at (by omega)]
    rfl
  obtain ⟨d0, d1, d2, d3⟩ := hx4.cells
  have HX4 := Lib.hid hx4
  have HB4 := Lib.hid hb4
  have HR4 := Lib.hid hr4
  have hw8 : IntKind.i64.wrap (byteN l 1 : Int) = (byteN l 1 : Int) := by
    have := (l.getD 1 0).toNat_lt
    rw [IntKind.wrap_i64]
    unfold byteN
    omega
  have HDNE := Lib.hid hDne
  clear hDne
  have hd15 : 15 ≤ d := by omega
  clear hx4 hb4 hr4 hh4
  go_wp2
  go_region
  have hx5 := HX4.out.put (byteN l 0 : Int) (byteN l 1 : Int) (numS l) (.slice D 15 15)
  have hb5 := below_put4 HB4.out (Nat.le_refl _) (.int .u8 (byteN l 0 : Int)) (.int .i64 (byteN l 1 : Int)) (.int .i64 (numS l)) (.slice D 15 15)
  have hr5 := (HR4.out.take (k := 15) (by omega)).put4 HDNE.out (.int .u8 (byteN l 0 : Int)) (.int .i64 (byteN l 1 : Int)) (.int .i64 (numS l)) (.slice D 15 15)
  rw [rows_last hl, pcs_app, List.take_left' (by rw [pcs_len, rdData_len])] at hr5
  have hfr5 := (HFR4.out.take (k := 15) (by omega)).put4 (Nat.lt_succ_self _) (.int .u8 (byteN l 0 : Int)) (.int .i64 (byteN l 1 : Int)) (.int .i64 (numS l)) (.slice D 15 15)
  rw [rows_last hl, pcs_app, List.take_left' (by rw [pcs_len, rdData_len])] at hfr5
  have hz5 : (put4 w3 w.heap.size (.int .u8 (byteN l 0 : Int)) (.int .i64 (byteN l 1 : Int)) (.int .i64 (numS l)) (.slice D 15 15)).drew.heap.size = w3.heap.size := by simp [put4, World.drew]
  show Exit.then _ _ _ _ (put4 w3 w.heap.size (.int .u8 (byteN l 0 : Int)) (.int .i64 (byteN l 1 : Int)) (.int .i64 (numS l)) (.slice D 15 15)).drew
  have hx6 : ObBox (put4 w3 w.heap.size (.int .u8 (byteN l 0 : Int)) (.int .i64 (byteN l 1 : Int)) (.int .i64 (numS l)) (.slice D 15 15)).drew w.heap.size (byteN l 0 : Int) (byteN l 1 : Int) (numS l) (.slice D 15 15) := hx5
  have hb6 := hb5.drew
  have hr6 := hr5.drew
  have hfr6 := hfr5.drew
  clear hfr5 HFR3 HFR4
  clear hx5 hb5 hr5
  rw [← hz5] at hr6
  clear hz5 d0 d1 d2 d3 hf4 hlt4 e0 e1 hw8 hd15 hd16
  generalize (put4 w3 w.heap.size (.int .u8 (byteN l 0 : Int)) (.int .i64 (byteN l 1 : Int)) (.int .i64 (numS l)) (.slice D 15 15)).drew = w4 at *
  obtain ⟨d0, d1, d2, d3⟩ := hx6.cells
  have hf6 := hx6.frozen
  have hlt6 := hx6.lt
  have HX6 := Lib.hid hx6
  have HB6 := Lib.hid hb6
  have HR6 := Lib.hid hr6
  have HFR6 := Lib.hid hfr6
  clear hfr6
  clear hx6 hb6 hr6
  go_wp2_with fail
  refine (HCK.out _ w4 HR6.out).mono ?_
  rintro e w5 ⟨rfl, b6⟩
  have hx7 := HX6.out.below b6 hlt6
  have hb7 := below_to HB6.out b6 HB6.out.size
  have hr7 := (HR6.out.below b6).more b6.size
  have hf7 := hx7.frozen
  clear d0 d1 d2 d3 hf6
  obtain ⟨d0, d1, d2, d3⟩ := hx7.cells
  have HX7 := Lib.hid hx7
  have HB7 := Lib.hid hb7
  have HR7 := Lib.hid hr7
  have HFR7 := Lib.hid (HFR6.out.below b6 (Nat.le_refl _))
  clear hx7 hb7 hr7 b6
  go_wp2
  have hx8 := HX7.out.put (byteN l 0 : Int) (byteN l 1 : Int) (numS l) (.slice D 15 15)
  have hb8 := below_put4 HB7.out (Nat.le_refl _) (.int .u8 (byteN l 0 : Int)) (.int .i64 (byteN l 1 : Int)) (.int .i64 (numS l)) (.slice D 15 15)
  have hr8 := HFR7.out.put4 (Nat.lt_succ_self _) (.int .u8 (byteN l 0 : Int)) (.int .i64 (byteN l 1 : Int)) (.int .i64 (numS l)) (.slice D 15 15)
  obtain ⟨e0, e1, e2, e3⟩ := hx8.cells
  exact bodyPost_ret (v := .tuple #[.agg #[.int .u8 (byteN l 0 : Int), .int .i64 (byteN l 1 : Int), .int .i64 (numS l), .slice D 15 15], .int .i64 0]) (by unfold put4 at e0 e1 e2 e3; simp [results, Try.results40, go_sem, e0, e1, e2, e3]) rfl ⟨_, _, rfl, hr8, hb8⟩
end Go.Proofs.Ytgcagenhfddpgaa
