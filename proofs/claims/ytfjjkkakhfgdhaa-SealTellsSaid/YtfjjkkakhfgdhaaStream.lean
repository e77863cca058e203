/-
  Contracts of package cipher: Stream.
-/
import Derived.Test.YtfjjkkakhfgdhaaPieces
namespace Go.Proofs.Ytfjjkkakhfgdhaa
open Go.RowKit Go.Shelf
set_option linter.unusedVariables false
set_option linter.unusedSimpArgs false
set_option maxRecDepth 100000
attribute [local go_sem] Oper.semAt_some

/-- The first pieces of a stream. -/
def strm (k : List UInt8) (iv : Nat) : Nat → List UInt8
  | 0 => []
  | j + 1 => strm k iv j ++ blk k iv j
theorem strm_len (k : List UInt8) (iv j : Nat) : (strm k iv j).length = 16 * j := by
  induction j with
  | zero => rfl
  | succ j ih => rw [strm, List.length_append, ih, blk_len]; omega
theorem strm_more (k : List UInt8) (iv n j i : Nat) (h : n ≤ 16 * j) : (strm k iv (j + i)).take n = (strm k iv j).take n := by
  induction i with
  | zero => rfl
  | succ i ih =>
    rw [← Nat.add_assoc, strm, List.take_append_of_le_length (by rw [strm_len]; omega), ih]
def streamL (k : List UInt8) (iv n : Nat) : List UInt8 := (strm k iv (n / 16 + 1)).take n
theorem strm_take (k : List UInt8) (iv n j : Nat) (h : n ≤ 16 * j) : (strm k iv j).take n = streamL k iv n := by
  unfold streamL
  rcases Nat.le_total j (n / 16 + 1) with hj | hj
  · obtain ⟨i, hi⟩ := Nat.exists_eq_add_of_le hj
    rw [hi, strm_more k iv n j i h]
  · obtain ⟨i, rfl⟩ := Nat.exists_eq_add_of_le hj
    exact strm_more k iv n _ i (by omega)
theorem streamL_len (k : List UInt8) (iv n : Nat) : (streamL k iv n).length = n := by
  rw [streamL, List.length_take, strm_len]
  omega
theorem streamL_take (k : List UInt8) (iv n m : Nat) (h : m ≤ n) : (streamL k iv n).take m = streamL k iv m := by
  rw [streamL, List.take_take, Nat.min_eq_left h]
  exact strm_take k iv m _ (by omega)

theorem keeps_of_below {W W' : World} (h : Below W.heap.size W W') : KeepsOthers W W' := ⟨h.size, fun i o hi _ => (h.block i (Array.getElem?_eq_some_iff.1 hi).1).trans hi⟩
theorem Fr.cells_ {w : World} {base sz n c : Nat} {e : TypeId} {A : Option Addr} {xs : List Value} (h : Fr w base e sz A n c xs) : ∀ g, rowOf A c = some g → ∃ cur fz, w.heap[g]? = some (.cells cur e fz) := by
  intro g hg
  rcases h.2.2.2 with rfl | ⟨g', cur, fz, rfl, hb, hh, _⟩
  · simp [rowOf] at hg
  · have : g' = g := by
      unfold rowOf at hg
      split at hg
      · cases hg
      · simpa using hg
    subst this
    exact ⟨cur, fz, hh⟩
theorem Fr.keeps {w w' : World} {base sz n c : Nat} {e : TypeId} {A : Option Addr} {xs : List Value} (h : Fr w base e sz A n c xs) (hg : w.grownBy w' (rowOf A c)) : KeepsOthers w w' :=
  KeepsOthers.of_grownBy hg (fun j o hj ho => by
    obtain ⟨cur, fz, hc⟩ := h.cells_ j hj
    rw [hc] at ho
    cases ho
    rfl)
theorem Fr.own {w w' : World} {base sz n c : Nat} {e : TypeId} {A : Option Addr} {xs : List Value} {row : Option Nat} (h : Fr w base e sz A n c xs) (hg : w.grownBy w' row) (hr : ∀ r, row = some r → ∃ o : Obj, w.heap[r]? = some o ∧ o.isCells = false) : Fr w' base e sz A n c xs := by
  refine h.kept hg ?_
  by_cases hn : rowOf A c = none
  · exact .inl hn
  · refine .inr fun e' => ?_
    obtain ⟨g, hg'⟩ := Option.ne_none_iff_exists'.1 hn
    obtain ⟨cur, fz, hc⟩ := h.cells_ g hg'
    obtain ⟨o, ho, hoc⟩ := hr g (by rw [← e', hg'])
    rw [hc] at ho
    cases ho
    cases hoc
theorem block_own {w w' : World} {row : Option Nat} {g : Nat} {cur : Array Value} {t : TypeId} {fz : Nat × Nat} (h : w.heap[g]? = some (.cells cur t fz)) (hg : w.grownBy w' row) (hr : ∀ r, row = some r → ∃ o : Obj, w.heap[r]? = some o ∧ o.isCells = false) : w'.heap[g]? = some (.cells cur t fz) :=
  (hg.block g (Array.getElem?_eq_some_iff.1 h).1 (fun e => by
    obtain ⟨o, ho, hoc⟩ := hr g e.symm
    rw [h] at ho
    cases ho
    cases hoc)).trans h

theorem c_stream_k (A : Option Addr) (m c : Nat) (iv : Nat) (n : Int) (w : World)
    (h1 : ((m : Int) != 16) = true)
    : Calls Try.prog 35 #[.slice A m c, .int .u32 (iv : Int), .int .i64 n] w fun e w' => e = .returned (.tuple #[.slice none 0 0, .int .i64 2]) ∧ Below w.heap.size w w' := by
  have hx := Boxed.new w 3 (.int .i64 n)
  have cx := hx.cell
  have hb := below_new w (.cells #[.int .i64 n] 3)
  go_enter Try.func35, Try.ntmps35
  go_wp2
  go_ret2
  exact ⟨rfl, hb⟩
theorem c_stream_l (A : Option Addr) (m c : Nat) (iv : Nat) (n : Int) (w : World)
    (h1 : m = 16)
    (h2 : n < 0)
    : Calls Try.prog 35 #[.slice A m c, .int .u32 (iv : Int), .int .i64 n] w fun e w' => e = .returned (.tuple #[.slice none 0 0, .int .i64 2]) ∧ Below w.heap.size w w' := by
  subst h1
  have hx := Boxed.new w 3 (.int .i64 n)
  have cx := hx.cell
  have hb := below_new w (.cells #[.int .i64 n] 3)
  go_enter Try.func35, Try.ntmps35
  go_wp2
  go_ret2
  exact ⟨rfl, hb⟩
theorem c_stream_h (A : Option Addr) (m c : Nat) (iv : Nat) (n : Int) (w : World)
    (h1 : m = 16)
    (h2 : decide (n < 0) = false)
    (h3 : 4096 < n)
    : Calls Try.prog 35 #[.slice A m c, .int .u32 (iv : Int), .int .i64 n] w fun e w' => e = .returned (.tuple #[.slice none 0 0, .int .i64 2]) ∧ Below w.heap.size w w' := by
  subst h1
  have hx := Boxed.new w 3 (.int .i64 n)
  have cx := hx.cell
  have hb := below_new w (.cells #[.int .i64 n] 3)
  go_enter Try.func35, Try.ntmps35
  go_wp2
  go_ret2
  exact ⟨rfl, hb⟩

def StrI (k : List UInt8) (iv n HB : Nat) (w : World) (pre : List (Option Addr × Nat)) (W : World) : Prop :=
  ∃ D d, Boxed W (w.heap.size + 1) 28 (.slice D (16 * pre.length) d) ∧ Fr W HB 5 1 D (16 * pre.length) d (bvs (strm k iv pre.length)) ∧ Boxed W w.heap.size 3 (.int .i64 (n : Int)) ∧ pre.length < n / 16 + 2 ∧ Below w.heap.size w W ∧ HB ≤ W.heap.size
def StrX (k : List UInt8) (iv n HB : Nat) (w : World) (c : Code) (pre : List (Option Addr × Nat)) (W : World) : Prop :=
  c = .exit 0 ∧ ∃ D d j, n ≤ 16 * j ∧ j < n / 16 + 2 ∧ Boxed W (w.heap.size + 1) 28 (.slice D (16 * j) d) ∧ Fr W HB 5 1 D (16 * j) d (bvs (strm k iv j)) ∧ Boxed W w.heap.size 3 (.int .i64 (n : Int)) ∧ Below w.heap.size w W ∧ HB ≤ W.heap.size
theorem strI_own (k : List UInt8) (iv n HB : Nat) (w : World) (B : Nat) (hB : w.heap.size ≤ B) : OwnFrom B (StrI k iv n HB w) := by
  rintro pre W W' row ⟨D, d, h1, h2, h3, h4, h5, h6⟩ hg hr
  have hr' : ∀ r, row = some r → ∃ o : Obj, W.heap[r]? = some o ∧ o.isCells = false := fun r e => (hr r e).2
  exact ⟨D, d, block_own h1 hg hr', h2.own hg hr', block_own h3 hg hr', h4, h5.grown hg h5.size (fun k e => Nat.le_trans hB (hr k e).1), Nat.le_trans h6 hg.size⟩
theorem strX_own (k : List UInt8) (iv n HB : Nat) (w : World) (c : Code) (B : Nat) (hB : w.heap.size ≤ B) : OwnFrom B (StrX k iv n HB w c) := by
  rintro pre W W' row ⟨h0, D, d, j, h1, h2, h3, h4, h5, h6, h7⟩ hg hr
  have hr' : ∀ r, row = some r → ∃ o : Obj, W.heap[r]? = some o ∧ o.isCells = false := fun r e => (hr r e).2
  exact ⟨h0, D, d, j, h1, h2, block_own h3 hg hr', h4.own hg hr', block_own h5 hg hr', h6.grown hg h6.size (fun k e => Nat.le_trans hB (hr k e).1), Nat.le_trans h7 hg.size⟩

set_option maxHeartbeats 8000000 in
theorem c_stream (A : Option Addr) (c : Nat) (k : List UInt8) (iv n : Nat) (hiv : (iv : Int) < 4294967296) (hn : (n : Int) ≤ 4096) (w : World) (hk : k.length = 16) (hrk : Rd w w.heap.size 1 A 16 (bvs k)) :
    Calls Try.prog 35 #[.slice A 16 c, .int .u32 (iv : Int), .int .i64 (n : Int)] w fun e w' => ∃ D d, e = .returned (.tuple #[.slice D n d, .int .i64 0]) ∧ Fr w' w.heap.size 5 1 D n d (bvs (streamL k iv n)) ∧ Below w.heap.size w w' := by
  obtain ⟨bk, off, rfl, hbk, -⟩ := hrk.2 (by omega)
  have hn0 : ¬ ((n : Int) < 0) := by omega
  have hx0 : Boxed ((w.alloc (.cells #[.int .i64 (n : Int)] 3)).alloc (.cells #[.slice none 0 0] 28)) w.heap.size 3 (.int .i64 (n : Int)) := (Boxed.new w _ _).alloc _
  have ho0 : Boxed ((w.alloc (.cells #[.int .i64 (n : Int)] 3)).alloc (.cells #[.slice none 0 0] 28)) (w.heap.size + 1) 28 (.slice none 0 0) := by
    have := Boxed.new (w.alloc (.cells #[.int .i64 (n : Int)] 3)) 28 (.slice none 0 0)
    rwa [World.size_alloc] at this
  have hb0 := below_alloc (below_new w (.cells #[.int .i64 (n : Int)] 3)) (.cells #[.slice none 0 0] 28) (Nat.le_refl _)
  have hz0 : ((w.alloc (.cells #[.int .i64 (n : Int)] 3)).alloc (.cells #[.slice none 0 0] 28)).heap.size = w.heap.size + 2 := by rw [World.size_alloc, World.size_alloc]
  have cx := (Boxed.new w 3 (.int .i64 (n : Int))).cell
  have HX0 := Lib.hid hx0
  have HO0 := Lib.hid ho0
  have HB0 := Lib.hid hb0
  have HZ0 := Lib.hid hz0
  have HRK := Lib.hid hrk
  have HN := Lib.hid hn
  have HIV := Lib.hid hiv
  have hn1 : decide (4096 < (n : Int)) = false := by simp; omega
  have hn2 : decide ((n : Int) < 0) = false := by simp
  clear hx0 ho0 hb0 hz0 hrk hn hiv hn0
  refine (callsIn_wide (n := 9)).1 ?_
  refine callsIn_of_wp_marks Try.func35 rfl trivial ?_ rfl
  refine wpIn_wide.2 ?_
  simp only [Try.ntmps35, List.size_toArray, List.length_cons, List.length_nil, Nat.reduceAdd, Nat.reduceSub, Array.replicate_succ, Array.replicate_zero, List.push_toArray, List.append_toArray, List.nil_append, List.cons_append]
  go_wp2_with fail
  generalize (w.alloc (.cells #[.int .i64 (n : Int)] 3)).alloc (.cells #[.slice none 0 0] 28) = w1 at *
  refine (c_pieces (some ⟨bk, off, none⟩) 16 c iv HIV.out w1).mono ?_
  rintro e w2 ⟨FB, g1, c1, rfl, hKB, hFB, hrf, hlt1, hlt2, b2⟩
  have hx2 : Boxed w2 w.heap.size 3 (.int .i64 (n : Int)) := Boxed.low HX0.out b2 HX0.out.lt
  have ho2 : Boxed w2 (w.heap.size + 1) 28 (.slice none 0 0) := Boxed.low HO0.out b2 HO0.out.lt
  have hB2 := below_to HB0.out b2 HB0.out.size
  have hrk2 := (HRK.out.below hB2).more hB2.size
  have hz1 := HZ0.out
  have hz2 := b2.size
  have hgl : g1 < w2.heap.size := by
    obtain ⟨b, o, e, hb, _⟩ := hrf.2 (by omega)
    cases e
    exact hb
  rw [hz1] at hKB hlt1 hlt2 hz2 ⊢
  clear cx HX0 HO0 HB0 HZ0 HRK b2 hz1
  go_wp2_with fail
  refine (wpIn_wide (n := 9)).1 ?_
  have hn := HN.out
  have hseq := pieces_endless 8 (by omega) (w.heap.size + 2) FB (w.heap.size + 1) (n / 16 + 2) (by omega) bk off c g1 c1 k iv hk w2 hKB hFB hrk2 hrf (by omega) (by omega) hgl (by omega) (by omega) (by omega)
  refine range_endless rfl (by omega) (gf := 75) (lb := #[.pointer (some ⟨w.heap.size + 2, 0, none⟩), .pointer (some ⟨FB, 0, none⟩)]) rfl trivial (enters_of Try.func75 (by kernel_rfl) rfl)
    hseq
    (fun h k => h.trans k) (fun W l o o' hl h1 h2 => ⟨fun b hb _ => World.putObj_heap_other (by omega), by simp⟩)
    ?g (Below.refl _ _) (fun _ => rfl)
    (StrI k iv n w2.heap.size w) (StrX k iv n w2.heap.size w) (strI_own k iv n _ w _ (by omega)) (fun c => strX_own k iv n _ w c _ (by omega)) ?start ?hN ?a1 ?assign ?body ?stop
  case g =>
    intro j x W l o o' h1 h2 hr
    refine ⟨hr.1, fun h16 => ?_⟩
    obtain ⟨b, o2, e, hb, hc⟩ := hr.2 h16
    refine ⟨b, o2, e, by simpa using hb, fun i u hu => ?_⟩
    refine (World.cell?_of_block (a := ⟨b, o2 + i, none⟩) (World.putObj_heap_other ?_)).trans (hc i u hu)
    rintro rfl
    have h0 := hc i u hu
    simp only [World.cell?, h1] at h0
    cases o <;> simp_all [Obj.isCells]
  case start => exact ⟨none, 0, ho2, Fr.none_, hx2, by simp, hB2, Nat.le_refl _⟩
  case hN =>
    rintro pre W ⟨_, _, _, _, _, h4, _⟩
    exact h4
  case assign =>
    intro l x W K hK
    gi_wp2
    exact hK
  case body =>
    rintro l1 pre x W ⟨D, d, hO, hF, hX, hl, hB, hs⟩ hg
    have cO := hO.cell
    have fO := hO.frozen
    have cX := hX.cell
    have HO := Lib.hid hO
    have HF := Lib.hid hF
    have HX := Lib.hid hX
    have HB := Lib.hid hB
    have HG := Lib.hid hg
    have HL := Lib.hid hl
    have HS := Lib.hid hs
    clear hO hF hX hB hg hl hs hseq hn
    obtain ⟨L, hL⟩ : ∃ L, L = 16 * pre.length := ⟨_, rfl⟩
    rw [← hL] at HO HF cO
    have HLL := Lib.hid hL
    clear hL
    by_cases hd : n ≤ L
    · have hd1 : decide ((n : Int) ≤ (L : Int)) = true := by simp; omega
      gi_wp2
      have hLL := HLL.out
      exact ⟨KeepsOthers.refl _, rfl, D, d, pre.length, by omega, HL.out, by rw [← hLL]; exact HO.out, by rw [← hLL]; exact HF.out, HX.out, HB.out, HS.out⟩
    · have hd1 : decide ((n : Int) ≤ (L : Int)) = false := by simp; omega
      have hLt : L ≤ 5000 := by have := HN.out; omega
      have hOl := HO.out.lt
      have hz3 : w.heap.size + 1 < w2.heap.size := by omega
      have HLT := Lib.hid hLt
      clear hLt
      gi_wp2_with (gi_at_builtin; go_loud (refine wpListIn_append_fr rfl (.tmp 29) (.tmp 30) rfl okB rfl HF.out rfl HG.out (bvs_one _) (by have := HLT.out; unfold maxLen; omega) (by have := HLT.out; omega) HS.out ?_; intro D2 d2 W2 f2 g2 r2; have hR2 : Boxed W2 (w.heap.size + 1) 28 _ := (g2.block _ hOl (fun e => by have := (HF.out.row _ e.symm).1; omega)).trans HO.out; have cR2 := hR2.cell; have fR2 := hR2.frozen; have HR2 := Lib.hid hR2; have HF2 := Lib.hid f2; have HG2 := Lib.hid g2; clear hR2 f2 g2 r2))
      have hLL := HLL.out
      have hll := HL.out
      have hrow : ∀ q, rowOf D d = some q → w2.heap.size ≤ q := fun q e => (HF.out.row _ e).1
      have hsm : ∀ b, b < w2.heap.size → b ≠ w.heap.size + 1 → (W2.setCell ⟨w.heap.size + 1, 0, none⟩ (.slice D2 (L + 16) d2)).heap[b]? = W.heap[b]? := fun b hb hne =>
        (Below.heap_setCell _ _ _ _ hne).trans (HG2.out.block b (by have := HS.out; omega) (fun e => by have := hrow _ e.symm; omega))
      have hbel : Below w.heap.size w (W2.setCell ⟨w.heap.size + 1, 0, none⟩ (.slice D2 (L + 16) d2)) :=
        (HB.out.grown HG2.out HB.out.size (fun q e => by have := hrow _ e; omega)).setCell (p := ⟨w.heap.size + 1, 0, none⟩) (by show w.heap.size ≤ w.heap.size + 1; omega) _
      have hsz : W.heap.size ≤ (W2.setCell ⟨w.heap.size + 1, 0, none⟩ (.slice D2 (L + 16) d2)).heap.size := by simpa [World.setCell] using HG2.out.size
      have hlen : 16 * (pre ++ [x]).length = L + 16 := by rw [List.length_append, List.length_singleton]; omega
      refine ⟨(HF.out.keeps HG2.out).trans (KeepsOthers.setCell _ _ _), ⟨hsm, hsz⟩, D2, d2, ?_, ?_, (hsm _ (by omega) (by omega)).trans HX.out, ?_, hbel, Nat.le_trans HS.out hsz⟩
      · rw [hlen]
        exact HR2.out.set _
      · rw [hlen, List.length_append, List.length_singleton, strm, bvs_app]
        exact HF2.out.setCell (p := ⟨w.heap.size + 1, 0, none⟩) (fun e => by have h : w2.heap.size ≤ w.heap.size + 1 := (HF2.out.row _ e).1; omega) _
      · rw [List.length_append, List.length_singleton]
        omega
  case stop =>
    rintro D' c' pre W hD ⟨rfl, D, d, j, hj1, hj2, hO, hF, hX, hB, hs⟩ hK
    have hst := strm_take k iv n j hj1
    have hnc := hF.nc
    have hrn := hF.rd.take (k := n) (by omega)
    rw [Nat.mul_one, ← bvs_take, hst] at hrn
    have cO := hO.cell
    have cX := hX.cell
    have hnd : (n : Int) ≤ (d : Int) := by omega
    have HB := Lib.hid hB
    have HRN := Lib.hid hrn
    have HK := Lib.hid hK
    have HS := Lib.hid hs
    have HLen := Lib.hid (streamL_len k iv n)
    clear hO hF hX hB hK hs hseq hn hst hrn hnc hj1 hj2
    generalize 16 * j = L at *
    gi_wp2
    go_wp2_with fail
    refine (m_clone D n d (streamL k iv n) W HLen.out (by have := HN.out; omega) HRN.out).mono ?_
    rintro e W1 ⟨A1, c1, rfl, f1, b1⟩
    have hK1 : W1.heap[D']? = some (.deferred (some [])) := (b1.block _ (Array.getElem?_eq_some_iff.1 HK.out).1).trans HK.out
    have hB1 := below_to HB.out b1 HB.out.size
    have hf1 := f1.own (grownBy_putObj' W1 D' (.deferred none)) (fun r e => by cases e; exact ⟨_, hK1, rfl⟩)
    have HF1 := Lib.hid (hf1.mono HB.out.size)
    have HB1 := Lib.hid hB1
    have HK1 := Lib.hid hK1
    clear f1 hf1 hB1 hK1 b1
    go_wp2
    refine ⟨by simp, .inl ⟨_, _, rfl, run_takeDeferred HK1.out, ?_⟩⟩
    exact ⟨_, results_tmp2 rfl _ _ _, A1, c1, rfl, HF1.out, HB1.out.trans (belowK_b (w := w) (Nat.le_refl _) W1 D' _ _ (by omega) HK1.out rfl rfl)⟩
end Go.Proofs.Ytfjjkkakhfgdhaa
