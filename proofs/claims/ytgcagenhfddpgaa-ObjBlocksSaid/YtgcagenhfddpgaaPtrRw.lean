/-
  Contracts of package ptr: Rows.
-/
import Derived.Test.YtgcagenhfddpgaaPtrR
import Derived.Test.YtgcagenhfddpgaaChunkO
import Derived.Sort.CutIn
namespace Go.Proofs.Ytgcagenhfddpgaa
open Go.RowKit Go.Shelf
set_option linter.unusedVariables false
set_option linter.unusedSimpArgs false
set_option maxRecDepth 100000
attribute [local go_sem] Oper.semAt_some

theorem info_ptr : (Try.prog.info? 31).map (fun i => (i.zero, i.size, i.bytes)) = some (some (.agg #[.int .i64 0, .int .u32 0, .int .u32 0, .int .u32 0, .int .u32 0]), 5, 24) := by kernel_rfl
theorem okP : ElemOk Try.prog 42 31 5 24 (.agg #[.int .i64 0, .int .u32 0, .int .u32 0, .int .u32 0, .int .u32 0]) := by
  obtain ⟨i0, hi, hz0, hz1, hz2⟩ := info_parts info_ptr
  exact ⟨Try.underlying42, rfl, by decide, i0, hi, hz0, hz1, hz2⟩

/-! ### worlds that keep what is not the call's own row -/
theorem keeps_of_below {W W' : World} (h : Below W.heap.size W W') : KeepsOthers W W' := ⟨h.size, fun i o hi _ => (h.block i (Array.getElem?_eq_some_iff.1 hi).1).trans hi⟩
theorem Fr.cells_ {w : World} {base sz n c : Nat} {e : TypeId} {A : Option Addr} {xs : List Value} (h : Fr w base e sz A n c xs) : ∀ g, rowOf A c = some g → ∃ cur fz, w.heap[g]? = some (.cells cur e fz) := by
  intro g hg
  rcases h.2.2.2 with rfl | ⟨g', cur, fz, rfl, hb, hh, _⟩
  · simp [rowOf] at hg
  · have : g' = g := by
      unfold rowOf at hg
      split at hg
      · cases hg
      · simpa using hg
    subst this
    exact ⟨cur, fz, hh⟩
theorem Fr.keeps {w w' : World} {base sz n c : Nat} {e : TypeId} {A : Option Addr} {xs : List Value} (h : Fr w base e sz A n c xs) (hg : w.grownBy w' (rowOf A c)) : KeepsOthers w w' :=
  KeepsOthers.of_grownBy hg (fun j o hj ho => by
    obtain ⟨cur, fz, hc⟩ := h.cells_ j hj
    rw [hc] at ho
    cases ho
    rfl)
theorem Fr.own {w w' : World} {base sz n c : Nat} {e : TypeId} {A : Option Addr} {xs : List Value} {row : Option Nat} (h : Fr w base e sz A n c xs) (hg : w.grownBy w' row) (hr : ∀ r, row = some r → ∃ o : Obj, w.heap[r]? = some o ∧ o.isCells = false) : Fr w' base e sz A n c xs := by
  refine h.kept hg ?_
  by_cases hn : rowOf A c = none
  · exact .inl hn
  · refine .inr fun e' => ?_
    obtain ⟨g, hg'⟩ := Option.ne_none_iff_exists'.1 hn
    obtain ⟨cur, fz, hc⟩ := h.cells_ g hg'
    obtain ⟨o, ho, hoc⟩ := hr g (by rw [← e', hg'])
    rw [hc] at ho
    cases ho
    cases hoc
theorem block_own {w w' : World} {row : Option Nat} {g : Nat} {cur : Array Value} {t : TypeId} {fz : Nat × Nat} (h : w.heap[g]? = some (.cells cur t fz)) (hg : w.grownBy w' row) (hr : ∀ r, row = some r → ∃ o : Obj, w.heap[r]? = some o ∧ o.isCells = false) : w'.heap[g]? = some (.cells cur t fz) :=
  (hg.block g (Array.getElem?_eq_some_iff.1 h).1 (fun e => by
    obtain ⟨o, ho, hoc⟩ := hr g e.symm
    rw [h] at ho
    cases ho
    cases hoc)).trans h

theorem Rd.made2 (w : World) (o : Obj) (e : TypeId) (sz n : Nat) (vs : List Value) (h : vs.length = n * sz) : Rd ((w.alloc o).alloc (.cells vs.toArray e)) (w.heap.size + 1 + 1) sz (some ⟨w.heap.size + 1, 0, none⟩) n vs := by
  have := Rd.made (w.alloc o) e sz n vs h
  rwa [World.size_alloc] at this

/-- The pointers of these pieces. -/
def ptsOf (l : List UInt8) {m : Nat} (pre : List (Fin m)) : List Pt := pre.map fun i => rd16 (piece16 l i.val)
theorem ptsOf_snoc (l : List UInt8) {m : Nat} (pre : List (Fin m)) (i : Fin m) : ptsOf l (pre ++ [i]) = ptsOf l pre ++ [rd16 (piece16 l i.val)] := by simp [ptsOf]
theorem ptsOf_len (l : List UInt8) {m : Nat} (pre : List (Fin m)) : (ptsOf l pre).length = pre.length := by simp [ptsOf]
theorem ptsOf_fst (l : List UInt8) (m r : Nat) (h : r ≤ m) : ptsOf l (fst m r) = upto (fun k => rd16 (piece16 l k)) r := by
  induction r with
  | zero => rfl
  | succ r ih => rw [fst_succ m r h, ptsOf_snoc, ih (by omega), upto_succ]
theorem mem_rowsL (l : List UInt8) (i : Fin 16) : rd16 (piece16 l i.val) ∈ rowsL l := List.mem_map.2 ⟨i.val, List.mem_range.2 i.2, rfl⟩

/-- What the loop of Rows keeps. -/
def RowsI (l : List UInt8) (g o c : Nat) (w : World) (pre : List (Fin 16)) (W : World) : Prop :=
  ∃ D d, Boxed W w.heap.size 42 (.slice D pre.length d) ∧ Fr W (w.heap.size + 4) 31 5 D pre.length d (pcs (ptsOf l pre)) ∧ AllMay (ptsOf l pre) ∧ Boxed W (w.heap.size + 1) 24 (.int .i64 0) ∧
    W.heap[w.heap.size + 2]? = some (.cells #[.slice (some ⟨g, o, none⟩) (16 * 16) c] 23 (0, 0)) ∧ W.heap[w.heap.size + 3]? = some (.cells #[.int .i64 ((16 : Nat) : Int)] 3 (0, 0)) ∧ Below w.heap.size w W
/-- What it leaves where a pointer may not be. -/
def RowsX (l : List UInt8) (w : World) (c : Code) (pre : List (Fin 16)) (W : World) : Prop :=
  c = .ret ∧ ¬ AllMay (rowsL l) ∧ Boxed W w.heap.size 42 (.slice none 0 0) ∧ Boxed W (w.heap.size + 1) 24 (.int .i64 8) ∧ Below w.heap.size w W
theorem rowsI_own (l : List UInt8) (g o c : Nat) (w : World) (B : Nat) (hB : w.heap.size ≤ B) : OwnFrom B (RowsI l g o c w) := by
  rintro pre W W' row ⟨D, d, h1, h2, h3, h4, h5, h6, h7⟩ hg hr
  have hr' : ∀ r, row = some r → ∃ o : Obj, W.heap[r]? = some o ∧ o.isCells = false := fun r e => (hr r e).2
  exact ⟨D, d, block_own h1 hg hr', h2.own hg hr', h3, block_own h4 hg hr', block_own h5 hg hr', block_own h6 hg hr', h7.grown hg h7.size (fun k e => Nat.le_trans hB (hr k e).1)⟩
theorem rowsX_own (l : List UInt8) (w : World) (c : Code) (B : Nat) (hB : w.heap.size ≤ B) : OwnFrom B (RowsX l w c) := by
  rintro pre W W' row ⟨h1, h2, h3, h4, h5⟩ hg hr
  have hr' : ∀ r, row = some r → ∃ o : Obj, W.heap[r]? = some o ∧ o.isCells = false := fun r e => (hr r e).2
  exact ⟨h1, h2, block_own h3 hg hr', block_own h4 hg hr', h5.grown hg h5.size (fun k e => Nat.le_trans hB (hr k e).1)⟩

theorem ptr_rows_len (A : Option Addr) (n c : Nat) (w : World) (h : ((n : Int) != 256) = true) : Calls Try.prog 31 #[.slice A n c] w fun e w' => e = .returned (.tuple #[.slice none 0 0, .int .i64 3]) ∧ Below w.heap.size w w' := by
  go_enter Try.func31, Try.ntmps31
  go_wp2
  have hR : Boxed ((w.alloc (.cells #[.slice none 0 0] 42)).alloc (.cells #[.int .i64 3] 24)) w.heap.size 42 (.slice none 0 0) := (Boxed.new w _ _).alloc _
  have hE : Boxed ((w.alloc (.cells #[.slice none 0 0] 42)).alloc (.cells #[.int .i64 3] 24)) (w.heap.size + 1) 24 (.int .i64 3) := by
    have := Boxed.new (w.alloc (.cells #[.slice none 0 0] 42)) 24 (.int .i64 3)
    rwa [World.size_alloc] at this
  have c1 := hR.cell
  have c2 := hE.cell
  exact bodyPost_ret (v := .tuple #[.slice none 0 0, .int .i64 3]) (by simp [results, Try.results31, go_sem, c1, c2]) rfl ⟨rfl, (below_new w _).alloc (by rw [World.size_alloc]; omega) _⟩

set_option maxHeartbeats 8000000 in
theorem ptr_rows_256 (A : Option Addr) (c : Nat) (l : List UInt8) (w : World) (hl : l.length = 256) (hc : 256 ≤ c) (hr : Rd w w.heap.size 1 A 256 (bvs l)) :
    Calls Try.prog 31 #[.slice A 256 c] w fun e w' => ∃ D d, e = .returned (.tuple #[.slice D (rowsP l).length d, .int .i64 (rowsE l)]) ∧ Fr w' w.heap.size 31 5 D (rowsP l).length d (pcs (rowsP l)) ∧ Below w.heap.size w w' := by
  obtain ⟨g, o, rfl, hg, -⟩ := hr.2 (by omega)
  have hz0 : ((w.alloc (.cells #[.slice none 0 0] 42)).alloc (.cells #[.int .i64 0] 24)).heap.size = w.heap.size + 2 := by rw [World.size_alloc, World.size_alloc]
  have hb0 : Below w.heap.size w ((w.alloc (.cells #[.slice none 0 0] 42)).alloc (.cells #[.int .i64 0] 24)) := (below_new w _).alloc (by rw [World.size_alloc]; omega) _
  have hR0 : Boxed ((w.alloc (.cells #[.slice none 0 0] 42)).alloc (.cells #[.int .i64 0] 24)) w.heap.size 42 (.slice none 0 0) := (Boxed.new w _ _).alloc _
  have hE0 : Boxed ((w.alloc (.cells #[.slice none 0 0] 42)).alloc (.cells #[.int .i64 0] 24)) (w.heap.size + 1) 24 (.int .i64 0) := by
    have := Boxed.new (w.alloc (.cells #[.slice none 0 0] 42)) 24 (.int .i64 0)
    rwa [World.size_alloc] at this
  have HZ0 := Lib.hid hz0
  have HB0 := Lib.hid hb0
  have HR0 := Lib.hid hR0
  have HE0 := Lib.hid hE0
  clear hz0 hb0 hR0 hE0
  refine (callsIn_wide (n := 9)).1 ?_
  refine callsIn_of_wp_marks Try.func31 rfl trivial ?_ rfl
  refine wpIn_wide.2 ?_
  simp only [Try.ntmps31, List.size_toArray, List.length_cons, List.length_nil, Nat.reduceAdd, Nat.reduceSub, Array.replicate_succ, Array.replicate_zero, List.push_toArray, List.append_toArray, List.nil_append, List.cons_append]
  go_wp2_with fail
  generalize (w.alloc (.cells #[.slice none 0 0] 42)).alloc (.cells #[.int .i64 0] 24) = w0 at *
  refine ((callsIn_wide (n := 9)).1 (chunk_in Fence.wide 9 trivial rfl _ _ _ 16 (by omega) _)).mono ?_
  rintro e w3 ⟨rfl, hw3⟩
  have hz3 : w3.heap.size = w.heap.size + 4 := by rw [hw3, World.size_alloc, World.size_alloc, HZ0.out]
  have hb3 : Below w0.heap.size w0 w3 := by rw [hw3]; exact (below_new w0 _).alloc (by rw [World.size_alloc]; omega) _
  have hbs : w3.heap[w.heap.size + 2]? = some (.cells #[.slice (some ⟨g, o, none⟩) (16 * 16) c] 23 (0, 0)) := by
    rw [hw3, Below.heap_alloc _ _ _ (by rw [World.size_alloc, HZ0.out]; omega), ← HZ0.out]
    exact heap_alloc_new w0 _
  have hbk : w3.heap[w.heap.size + 3]? = some (.cells #[.int .i64 ((16 : Nat) : Int)] 3 (0, 0)) := by
    have h := heap_alloc_new (w0.alloc (.cells #[.slice (some ⟨g, o, none⟩) 256 c] 23)) (.cells #[.int .i64 16] 3)
    rw [World.size_alloc, HZ0.out] at h
    rw [hw3]
    exact h
  have hR3 : Boxed w3 w.heap.size 42 (.slice none 0 0) := (hb3.block _ (by rw [HZ0.out]; omega)).trans HR0.out
  have hE3 : Boxed w3 (w.heap.size + 1) 24 (.int .i64 0) := (hb3.block _ (by rw [HZ0.out]; omega)).trans HE0.out
  have hB3 := below_to HB0.out hb3 HB0.out.size
  have HZ := Lib.hid HZ0.out
  have hzz := HZ0.out
  clear hw3 HZ0 HB0 HR0 HE0 hb3
  rw [hzz]
  have HR := Lib.hid hr
  clear hr hzz
  go_wp2_with fail
  refine (wpIn_wide (n := 9)).1 ?_
  refine wpIn_rangeFunc_ownF rfl (by omega) (gf := 65) (lb := #[.pointer (some ⟨w.heap.size + 2, 0, none⟩), .pointer (some ⟨w.heap.size + 3, 0, none⟩)]) rfl trivial (enters_of Try.func65 (by kernel_rfl) rfl)
    (chunk_stops Fence.wide _ trivial rfl (by omega) (w.heap.size + 2) g o 16 16 c (by omega) (by omega) (by omega) (by omega) w3 hbs hbk) (fun h k => h.trans k) (KpC.put (by omega) (by omega)) (Below.refl _ _) (fun _ => rfl)
    (RowsI l g o c w) (RowsX l w) (rowsI_own l g o c w _ (by omega)) (fun c => rowsX_own l w c _ (by omega)) ?start ?a1 ?assign ?body ?done ?stop
  case start => exact ⟨none, 0, hR3, Fr.none_, (by intro p hp; cases hp), hE3, hbs, hbk, hB3⟩
  case assign =>
    intro l x W K hK
    gi_wp2
    exact hK
  case body =>
    rintro l1 pre x W ⟨D, d, hR, hF, hM, hE, hk1, hk2, hB⟩ hlt
    have hrd : Rd W W.heap.size 1 (some ⟨g, o + 16 * x.val, none⟩) 16 (bvs (piece16 l x.val)) := by
      have h1 := ((HR.out.below hB).more hB.size).sub (16 * x.val) 16 (by have := x.2; omega)
      rwa [← bvs_drop, ← bvs_take] at h1
    have hpl : (piece16 l x.val).length = 16 := piece16_len (by have := x.2; omega)
    have hsn := ptsOf_snoc l pre x
    have hmem := mem_rowsL l x
    have hlen := ptsOf_len l pre
    have hU := rd16_U (piece16 l x.val)
    by_cases hm : (rd16 (piece16 l x.val)).May
    · have hRd := ptr_readX (some ⟨g, o + 16 * x.val, none⟩) 16 16 (piece16 l x.val) W hpl (by omega) hrd (rd16 (piece16 l x.val)) 0 (readP_may hpl hm) (by rw [readE_16 hpl, Pt.chk_zero hm])
      have hMM : AllMay (ptsOf l (pre ++ [x])) := by
        rw [hsn]
        intro p hp
        rcases List.mem_append.1 hp with hp | hp
        · exact hM p hp
        · rw [List.mem_singleton.1 hp]; exact hm
      have HRD := Lib.hid hRd
      have HMM := Lib.hid hMM
      have HSN := Lib.hid hsn
      have HR1 := Lib.hid hR
      have HF := Lib.hid hF
      have HE := Lib.hid hE
      have HK1 := Lib.hid hk1
      have HK2 := Lib.hid hk2
      have HB := Lib.hid hB
      have HLT := Lib.hid hlt
      clear hRd hMM hsn hR hF hE hk1 hk2 hB hM hrd hpl hmem hm hU hlt hlen
      generalize 16 * x.val = p at *
      generalize rd16 (piece16 l x.val) = q at *
      have hsz : w.heap.size + 3 < W.heap.size := (Array.getElem?_eq_some_iff.1 HK2.out).1
      have hpl := HLT.out
      gi_wp2_with (first
        | (refine ⟨trivial, ?_⟩; gi_at_call 27; refine (CallsIn.inRound l1 (callsIn_wide.2 HRD.out)).mono ?_; rintro e W1 ⟨rfl, b1⟩; have hR1 : Boxed W1 w.heap.size 42 _ := (b1.block _ HR1.out.lt).trans HR1.out; have cR1 := hR1.cell; have fR1 := hR1.frozen; have lR1 := hR1.lt; have sz1 := b1.size; have HF1 := Lib.hid (HF.out.below b1 (Nat.le_refl _)); have HX1 := Lib.hid hR1; have HB1 := Lib.hid b1; clear hR1 b1)
        | (gi_at_builtin; go_loud (refine wpListIn_append_fr rfl (.tmp 21) (.tmp 23) rfl okP rfl ((HF1.out.alloc _).alloc _) rfl (Rd.made2 W1 _ _ 5 1 q.cs rfl) (by intro u hu; exact pcs_oneCell [q] u (by rw [pcs_one_]; exact hu)) (by unfold maxLen; omega) (by omega) (by rw [World.size_alloc, World.size_alloc]; omega) ?_; intro D2 d2 W2 f2 g2 r2; have hR2 : Boxed W2 w.heap.size 42 _ := (g2.block _ (by rw [World.size_alloc, World.size_alloc]; omega) (fun e => by have := (HF1.out.row _ e.symm).1; omega)).trans ((HX1.out.alloc _).alloc _); have cR2 := hR2.cell; have fR2 := hR2.frozen; have HX2 := Lib.hid hR2; have HF2 := Lib.hid f2; have HG2 := Lib.hid g2; clear hR2 f2 g2 r2)))
      have hsame : ∀ b, b < w.heap.size + 4 → b ≠ w.heap.size → (W2.setCell ⟨w.heap.size, 0, none⟩ (.slice D2 (pre.length + 1) d2)).heap[b]? = W.heap[b]? := fun b hb hne =>
        (Below.heap_setCell _ _ _ _ hne).trans ((HG2.out.block b (by rw [World.size_alloc, World.size_alloc]; omega) (fun e => by have := (HF1.out.row _ e.symm).1; omega)).trans ((Below.heap_alloc _ _ _ (by rw [World.size_alloc]; omega)).trans ((Below.heap_alloc _ _ _ (by omega)).trans (HB1.out.block b (by omega)))))
      have hbel : Below w.heap.size w (W2.setCell ⟨w.heap.size, 0, none⟩ (.slice D2 (pre.length + 1) d2)) :=
        (((((below_to HB.out HB1.out HB.out.size).alloc (by omega) _).alloc (by rw [World.size_alloc]; omega) _).grown HG2.out (by rw [World.size_alloc, World.size_alloc]; omega) (fun k e => by have := (HF1.out.row _ e).1; omega)).setCell (p := ⟨w.heap.size, 0, none⟩) (Nat.le_refl _) _)
      refine ⟨((((keeps_of_below HB1.out).trans (KeepsOthers.alloc _ _)).trans (KeepsOthers.alloc _ _)).trans (((HF1.out.alloc _).alloc _).keeps HG2.out)).trans (KeepsOthers.setCell _ _ _), ⟨hsame g (by omega) (by omega), hsame _ (by omega) (by omega), hsame _ (by omega) (by omega)⟩, D2, d2, ?_, ?_, HMM.out, (hsame _ (by omega) (by omega)).trans HE.out, (hsame _ (by omega) (by omega)).trans HK1.out, (hsame _ (by omega) (by omega)).trans HK2.out, hbel⟩
      · rw [List.length_append]
        exact HX2.out.set _
      · rw [HSN.out, pcs_app, pcs_one_, List.length_append]
        exact HF2.out.setCell (p := ⟨w.heap.size, 0, none⟩) (fun e => by have h : w.heap.size + 4 ≤ w.heap.size := (HF2.out.row _ e).1; omega) _
    · have hRd := ptr_readX (some ⟨g, o + 16 * x.val, none⟩) 16 16 (piece16 l x.val) W hpl (by omega) hrd Pt.zero 8 (readP_bad hm) (by rw [readE_16 hpl, Pt.chk_bad hm])
      have hMM : ¬ AllMay (rowsL l) := fun h => hm (h _ hmem)
      have HRD := Lib.hid hRd
      have HMM := Lib.hid hMM
      have HR1 := Lib.hid hR
      have HE := Lib.hid hE
      have HK2 := Lib.hid hk2
      have HB := Lib.hid hB
      clear hRd hMM hsn hR hF hE hk1 hk2 hB hM hrd hpl hmem hm hU hlt hlen
      generalize 16 * x.val = p at *
      have hsz : w.heap.size + 3 < W.heap.size := (Array.getElem?_eq_some_iff.1 HK2.out).1
      gi_wp2_with (refine ⟨trivial, ?_⟩; gi_at_call 27; refine (CallsIn.inRound l1 (callsIn_wide.2 HRD.out)).mono ?_; rintro e W1 ⟨rfl, b1⟩; have hR1 : Boxed W1 w.heap.size 42 _ := (b1.block _ HR1.out.lt).trans HR1.out; have hE1 : Boxed W1 (w.heap.size + 1) 24 _ := (b1.block _ HE.out.lt).trans HE.out; have cR1 := hR1.cell; have fR1 := hR1.frozen; have cE1 := hE1.cell; have fE1 := hE1.frozen; have lR1 := hR1.lt; have lE1 := hE1.lt; have sz1 := b1.size; have HX1 := Lib.hid hR1; have HE1 := Lib.hid hE1; have HB1 := Lib.hid b1; clear hR1 hE1 b1)
      have hsame : ∀ b, b < w.heap.size → W1.heap[b]? = W.heap[b]? := fun b hb => HB1.out.block b (by omega)
      have hl1 : w.heap.size + 1 < ((W1.setCell ⟨w.heap.size, 0, none⟩ (.slice none 0 0)).setCell ⟨w.heap.size + 1, 0, none⟩ (.int .i64 8)).heap.size := by simpa [World.setCell] using lE1
      refine ⟨(((keeps_of_below HB1.out).trans (KeepsOthers.setCell _ _ _)).trans (KeepsOthers.setCell _ _ _)).trans (KeepsOthers.alloc _ _), rfl, HMM.out, Boxed.alloc ((HX1.out.set (.slice none 0 0)).other (by omega) _) _, Boxed.alloc (Boxed.set (.int .i64 8) (HE1.out.other (by omega) _)) _, ?_⟩
      exact (((below_to HB.out HB1.out HB.out.size).setCell (p := ⟨w.heap.size, 0, none⟩) (Nat.le_refl _) _).setCell (p := ⟨w.heap.size + 1, 0, none⟩) (by show w.heap.size ≤ w.heap.size + 1; omega) _).alloc (by omega) _
  case done =>
    rintro D ys W hD rfl ⟨D', d, hR, hF, hM, hE, -, -, hB⟩ hK
    rw [ptsOf_fst l 16 16 (Nat.le_refl _)] at hF hM
    rw [fst_len 16 16 (Nat.le_refl _)] at hF hR
    have hP := rowsP_may hl hM
    have hEE := rowsE_may hl hM
    have HP := Lib.hid hP
    have HEE := Lib.hid hEE
    have cR := hR.cell
    have fR := hR.frozen
    have cE := hE.cell
    have fE := hE.frozen
    have HR1 := Lib.hid hR
    have HE1 := Lib.hid hE
    have HF := Lib.hid hF
    have HB := Lib.hid hB
    have HK := Lib.hid hK
    clear hP hEE hR hE hF hB hK hM
    go_wp2
    have hR2 : Boxed ((W.setCell ⟨w.heap.size, 0, none⟩ (.slice D' 16 d)).setCell ⟨w.heap.size + 1, 0, none⟩ (.int .i64 0)) w.heap.size 42 (.slice D' 16 d) := (HR1.out.set _).other (by omega) _
    have hE2 : Boxed ((W.setCell ⟨w.heap.size, 0, none⟩ (.slice D' 16 d)).setCell ⟨w.heap.size + 1, 0, none⟩ (.int .i64 0)) (w.heap.size + 1) 24 (.int .i64 0) := Boxed.set _ (HE1.out.other (by omega) _)
    have hK2 : ((W.setCell ⟨w.heap.size, 0, none⟩ (.slice D' 16 d)).setCell ⟨w.heap.size + 1, 0, none⟩ (.int .i64 0)).heap[D]? = some (.deferred (some [])) := (Below.heap_setCell _ _ _ _ (by show D ≠ w.heap.size + 1; omega)).trans ((Below.heap_setCell _ _ _ _ (by show D ≠ w.heap.size; omega)).trans HK.out)
    have hF2 : Fr ((W.setCell ⟨w.heap.size, 0, none⟩ (.slice D' 16 d)).setCell ⟨w.heap.size + 1, 0, none⟩ (.int .i64 0)) (w.heap.size + 4) 31 5 D' 16 d (pcs (rowsL l)) := (HF.out.setCell (p := ⟨w.heap.size, 0, none⟩) (fun e => by have h : w.heap.size + 4 ≤ w.heap.size := (HF.out.row _ e).1; omega) _).setCell (p := ⟨w.heap.size + 1, 0, none⟩) (fun e => by have h : w.heap.size + 4 ≤ w.heap.size + 1 := (HF.out.row _ e).1; omega) _
    have hB2 : Below w.heap.size w ((W.setCell ⟨w.heap.size, 0, none⟩ (.slice D' 16 d)).setCell ⟨w.heap.size + 1, 0, none⟩ (.int .i64 0)) := (HB.out.setCell (p := ⟨w.heap.size, 0, none⟩) (Nat.le_refl _) _).setCell (p := ⟨w.heap.size + 1, 0, none⟩) (by show w.heap.size ≤ w.heap.size + 1; omega) _
    generalize (W.setCell ⟨w.heap.size, 0, none⟩ (.slice D' 16 d)).setCell ⟨w.heap.size + 1, 0, none⟩ (.int .i64 0) = Wf at *
    refine ⟨by simp, .inl ⟨_, _, rfl, run_takeDeferred hK2, ?_⟩⟩
    have c1 : (Wf.putObj D (.deferred none)).cell? ⟨w.heap.size, 0, none⟩ = some (.slice D' 16 d) := Boxed.cell (t := 42) ((World.putObj_heap_other (by omega)).trans hR2)
    have c2 : (Wf.putObj D (.deferred none)).cell? ⟨w.heap.size + 1, 0, none⟩ = some (.int .i64 0) := Boxed.cell (t := 24) ((World.putObj_heap_other (by omega)).trans hE2)
    refine ⟨.tuple #[.slice D' 16 d, .int .i64 0], by simp [results, Try.results31, go_sem, c1, c2], D', d, ?_, ?_, hB2.trans (belowK_b (w := w) (Nat.le_refl _) Wf D _ _ (by omega) hK2 rfl rfl)⟩
    · rw [HP.out, HEE.out, rowsL_len]
    · rw [HP.out, rowsL_len]
      exact (hF2.own (grownBy_putObj' Wf D _) (fun r e => by cases e; exact ⟨_, hK2, rfl⟩)).mono (by omega)
  case stop =>
    rintro D c pre W hD _ ⟨rfl, hM, hR, hE, hB⟩ hK
    have hEE := rowsE_bad hl hM
    have hP := rowsP_err (b := l) (by rw [hEE]; omega)
    gi_wp2
    refine ⟨by simp, .inl ⟨_, _, rfl, run_takeDeferred hK, ?_⟩⟩
    have c1 : (W.putObj D (.deferred none)).cell? ⟨w.heap.size, 0, none⟩ = some (.slice none 0 0) := Boxed.cell (t := 42) ((World.putObj_heap_other (by omega)).trans hR)
    have c2 : (W.putObj D (.deferred none)).cell? ⟨w.heap.size + 1, 0, none⟩ = some (.int .i64 8) := Boxed.cell (t := 24) ((World.putObj_heap_other (by omega)).trans hE)
    refine ⟨.tuple #[.slice none 0 0, .int .i64 8], by simp [results, Try.results31, go_sem, c1, c2], none, 0, ?_, ?_, hB.trans (belowK_b (w := w) (Nat.le_refl _) W D _ _ (by omega) hK rfl rfl)⟩
    · rw [hP, hEE]
      rfl
    · rw [hP]
      exact Fr.none_

theorem ptr_rows (A : Option Addr) (n c : Nat) (l : List UInt8) (w : World) (hl : l.length = n) (hc : n ≤ c) (hr : Rd w w.heap.size 1 A n (bvs l)) :
    Calls Try.prog 31 #[.slice A n c] w fun e w' => ∃ D d, e = .returned (.tuple #[.slice D (rowsP l).length d, .int .i64 (rowsE l)]) ∧ Fr w' w.heap.size 31 5 D (rowsP l).length d (pcs (rowsP l)) ∧ Below w.heap.size w w' := by
  by_cases h : n = 256
  · subst h
    exact ptr_rows_256 A c l w hl hc hr
  · refine (ptr_rows_len A n c w (by simp; omega)).mono ?_
    rintro e w' ⟨rfl, hb⟩
    have hE := rowsE_len (b := l) (by omega)
    rw [hE, rowsP_err (by rw [hE]; omega)]
    exact ⟨none, 0, rfl, Fr.none_, hb⟩
end Go.Proofs.Ytgcagenhfddpgaa
