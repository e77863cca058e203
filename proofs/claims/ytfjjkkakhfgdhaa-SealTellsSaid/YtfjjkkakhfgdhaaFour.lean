/-
  mix.four, by its contract.
-/
import Derived.Test.YtfjjkkakhfgdhaaFourA
import Derived.Test.YtfjjkkakhfgdhaaChunk
import Derived.Sort.CutIn
namespace Go.Proofs.Ytfjjkkakhfgdhaa
open Go.RowKit Go.Shelf
set_option linter.unusedVariables false
set_option maxRecDepth 100000
attribute [local go_sem] Oper.semAt_some

/-! ### plain -/
/-- Bytes, one byte 1 behind them, and noughts up to a multiple of 8. -/
def fill (n : Nat) : Nat := (8 - (n + 1) % 8) % 8
def padded (l : List UInt8) : List UInt8 := l ++ [1] ++ List.replicate (fill l.length) 0
theorem padded_len (l : List UInt8) : (padded l).length = 8 * ((l.length + 8) / 8) := by
  simp only [padded, fill, List.length_append, List.length_replicate, List.length_cons, List.length_nil]
  omega
/-- What a piece does to the words. -/
def step (l : List UInt8) (x : W4) : W4 := often 4 ⟨x.a ^^^ word l, x.b, x.c ^^^ word (l.drop 4), x.d⟩
/-- The words behind the first i pieces. -/
def mixed (l : List UInt8) : Nat → W4
  | 0 => ⟨1, 2, 3, 4⟩
  | i + 1 => step ((l.drop (8 * i)).take 8) (mixed l i)
def fourOf (l : List UInt8) : W4 :=
  let x := mixed (padded l) ((l.length + 8) / 8)
  often 8 ⟨x.a, x.b ^^^ BitVec.ofNat 32 l.length, x.c, x.d⟩

def w4v (x : W4) : Value := .agg #[.int .u32 (wi x.a), .int .u32 (wi x.b), .int .u32 (wi x.c), .int .u32 (wi x.d)]

theorem fill_step {n k : Nat} (h : k < fill n) : (n + 1 + k) % 8 ≠ 0 := by unfold fill at h; omega
theorem fill_done (n : Nat) : (n + 1 + fill n) % 8 = 0 := by unfold fill; omega
def PadRel (l : List UInt8) (n : Nat) (w : World) (v : Value) (wr : World) : Prop :=
  ∃ A k c, k ≤ fill n ∧ v = .slice A (n + 1 + k) c ∧ Fr wr (w.heap.size + 2) 5 1 A (n + 1 + k) c (bvs (l ++ [1] ++ List.replicate k 0)) ∧
    Box4 wr (w.heap.size + 1) 62 ⟨1, 2, 3, 4⟩ ∧ Box4 wr w.heap.size 62 ⟨0, 0, 0, 0⟩ ∧ Below w.heap.size w wr

/-- A slice of a row reads as before where the row lies as it lay. -/
theorem Rd.at_block {w W : World} {B sz n g : Nat} {xs : List Value} (h : Rd w B sz (some ⟨g, 0, none⟩) n xs) (hg : W.heap[g]? = w.heap[g]?) : Rd W B sz (some ⟨g, 0, none⟩) n xs :=
  ⟨h.1, fun hn => by
    obtain ⟨b, off, e, hb, hc⟩ := h.2 hn
    cases e
    exact ⟨g, 0, rfl, hb, fun j u hu => (World.cell?_of_block (a := ⟨g, 0 + j, none⟩) hg).trans (hc j u hu)⟩⟩
/-- A piece of eight. -/
theorem Rd.piece {w : World} {B g m i : Nat} {l : List UInt8} (h : Rd w B 1 (some ⟨g, 0, none⟩) (8 * m) (bvs l)) (hi : i < m) : Rd w B 1 (some ⟨g, 8 * i, none⟩) 8 (bvs ((l.drop (8 * i)).take 8)) := by
  have h1 := (h.cut (l := 8 * i) (m := 8 * m) (by omega) (Nat.le_refl _)).take (k := 8) (by omega)
  rw [if_neg (by omega)] at h1
  simp only [Nat.mul_one, Option.map_some, add_lit, Nat.zero_add] at h1
  rw [bvs_take, bvs_drop]
  exact h1
theorem own_four (B g : Nat) (hg : g < B) {β : Type} (t : TypeId) (f : β → W4) : OwnFrom B (fun s W => Box4 W g t (f s)) := fun s W W' row hs hgr hr =>
  (hgr.block _ hs.lt (fun e => by have := (hr _ e.symm).1; omega)).trans hs
theorem own_block (B g : Nat) (hg : g < B) {β : Type} (O : Obj) : OwnFrom B (fun (s : β) W => W.heap[g]? = some O) := fun s W W' row hs hgr hr =>
  (hgr.block _ (Array.getElem?_eq_some_iff.1 hs).1 (fun e => by have := (hr _ e.symm).1; omega)).trans hs
theorem keeps_below {W W' : World} (h : Below W.heap.size W W') : KeepsOthers W W' := ⟨h.size, fun i o hi _ => (h.block i (Array.getElem?_eq_some_iff.1 hi).1).trans hi⟩
/-- The words behind these pieces. -/
def mixTo (L : List UInt8) {m : Nat} (pre : List (Fin m)) : W4 := pre.foldl (fun X i => step ((L.drop (8 * i.val)).take 8) X) ⟨1, 2, 3, 4⟩
theorem mixTo_snoc (L : List UInt8) {m : Nat} (pre : List (Fin m)) (i : Fin m) : mixTo L (pre ++ [i]) = step ((L.drop (8 * i.val)).take 8) (mixTo L pre) := by
  unfold mixTo
  rw [List.foldl_append]
  rfl
theorem mixTo_fst (L : List UInt8) (m r : Nat) (h : r ≤ m) : mixTo L (fst m r) = mixed L r := by
  induction r with
  | zero => rfl
  | succ r ih => rw [fst_succ m r h, mixTo_snoc, ih (by omega)]; rfl

theorem word_take (l : List UInt8) : word (l.take 4) = word l := by
  unfold word
  rw [List.take_take]
  rfl
/-- The two numbers of a piece, by their contract, in any world where the row lies as it lay. -/
theorem piece_fst {w : World} {g p : Nat} {l : List UInt8} (h : Rd w w.heap.size 1 (some ⟨g, p, none⟩) 8 (bvs l)) :
    Calls Try.prog 69 #[.slice (some ⟨g, p, none⟩) 4 8] w fun e w' => e = .returned (.int .u32 (wi (word l))) ∧ Below w.heap.size w w' := by
  have h1 := h.take (k := 4) (by omega)
  simp only [Nat.mul_one] at h1
  rw [← bvs_take] at h1
  have := m_number (some ⟨g, p, none⟩) 4 8 (l.take 4) w (by omega) (by omega) h1 (by omega)
  rwa [word_take] at this
theorem piece_snd {w : World} {g p : Nat} {l : List UInt8} (h : Rd w w.heap.size 1 (some ⟨g, p, none⟩) 8 (bvs l)) :
    Calls Try.prog 69 #[.slice (some ⟨g, p + 4, none⟩) 4 4] w fun e w' => e = .returned (.int .u32 (wi (word (l.drop 4)))) ∧ Below w.heap.size w w' := by
  have h1 := h.cut (l := 4) (m := 8) (by omega) (by omega)
  rw [if_neg (by omega)] at h1
  simp only [Nat.mul_one, Option.map_some, add_lit] at h1
  rw [← bvs_drop] at h1
  exact m_number (some ⟨g, p + 4, none⟩) 4 4 (l.drop 4) w (by omega) (by omega) h1 (by omega)

theorem grown_below {W W1 : World} (h : Below W.heap.size W W1) (g : Nat) : W.grownBy W1 (some g) := ⟨h.os, h.tape, h.output, h.size, fun k hk _ => h.block k hk⟩
theorem grown_trans {A B C : World} {g : Nat} (h : A.grownBy B (some g)) (k : B.grownBy C (some g)) : A.grownBy C (some g) :=
  ⟨k.os.trans h.os, k.tape.trans h.tape, k.output.trans h.output, Nat.le_trans h.size k.size, fun i hi hne => (k.block i (Nat.lt_of_lt_of_le hi h.size) hne).trans (h.block i hi hne)⟩
theorem grown_drew {W V : World} {g : Nat} (h : W.drew.grownBy V (some g)) : W.grownBy V (some g) := ⟨h.os, h.tape, h.output, h.size, h.block⟩
theorem Rd.piece_kept {W V : World} {gx g p n : Nat} {xs : List Value} (h : Rd W W.heap.size 1 (some ⟨g, p, none⟩) n xs) (hg : W.grownBy V (some gx)) (hne : g ≠ gx) : Rd V V.heap.size 1 (some ⟨g, p, none⟩) n xs :=
  (h.grown_ne hg (Nat.le_refl _) (fun a e => by cases e; intro e; injection e with e; exact hne e)).more hg.size
theorem keeps_grown {W V : World} {g : Nat} {t : TypeId} {x : W4} (h : W.grownBy V (some g)) (hx : Box4 W g t x) : KeepsOthers W V :=
  ⟨h.size, fun i o hi ho => (h.block i (Array.getElem?_eq_some_iff.1 hi).1 (fun e => by
    injection e with e
    subst e
    unfold Box4 at hx
    rw [hx] at hi
    cases hi
    cases ho)).trans hi⟩

set_option maxHeartbeats 8000000 in
theorem m_four (A : Option Addr) (n c : Nat) (l : List UInt8) (w : World) (hl : l.length = n) (hn : (n : Int) ≤ 1000000) (hcap : n ≤ c) (hr : Rd w w.heap.size 1 A n (bvs l)) :
    Calls Try.prog 47 #[.slice A n c] w fun e w' => e = .returned (.agg #[.int .u32 (wi (fourOf l).a), .int .u32 (wi (fourOf l).b), .int .u32 (wi (fourOf l).c), .int .u32 (wi (fourOf l).d)]) ∧ Below w.heap.size w w' := by
  refine (callsIn_wide (n := 9)).1 ?_
  refine callsIn_of_wp_marks Try.func47 rfl trivial ?_ rfl
  refine wpIn_wide.2 ?_
  simp only [Try.ntmps47, List.size_toArray, List.length_cons, List.length_nil, Nat.reduceAdd, Nat.reduceSub, Array.replicate_succ, Array.replicate_zero, List.push_toArray, List.append_toArray, List.nil_append, List.cons_append]
  have z1 : (w.alloc (.cells #[.int .u32 0, .int .u32 0, .int .u32 0, .int .u32 0] 62)).heap.size = w.heap.size + 1 := by simp only [World.alloc, Array.size_push]
  have hbx : Box4 ((w.alloc (.cells #[.int .u32 0, .int .u32 0, .int .u32 0, .int .u32 0] 62)).alloc (.cells #[.int .u32 1, .int .u32 2, .int .u32 3, .int .u32 4] 62)) (w.heap.size + 1) 62 ⟨1, 2, 3, 4⟩ := by
    have h := heap_alloc_new (w.alloc (.cells #[.int .u32 0, .int .u32 0, .int .u32 0, .int .u32 0] 62)) (.cells #[.int .u32 1, .int .u32 2, .int .u32 3, .int .u32 4] 62)
    rw [z1] at h
    exact h
  have hrs : Box4 ((w.alloc (.cells #[.int .u32 0, .int .u32 0, .int .u32 0, .int .u32 0] 62)).alloc (.cells #[.int .u32 1, .int .u32 2, .int .u32 3, .int .u32 4] 62)) w.heap.size 62 ⟨0, 0, 0, 0⟩ := (Box4.new w _ ⟨0, 0, 0, 0⟩).alloc _
  have hb0 : Below w.heap.size w ((w.alloc (.cells #[.int .u32 0, .int .u32 0, .int .u32 0, .int .u32 0] 62)).alloc (.cells #[.int .u32 1, .int .u32 2, .int .u32 3, .int .u32 4] 62)) := ((Below.refl _ w).alloc (Nat.le_refl _) _).alloc (by rw [z1]; omega) _
  have hz0 : ((w.alloc (.cells #[.int .u32 0, .int .u32 0, .int .u32 0, .int .u32 0] 62)).alloc (.cells #[.int .u32 1, .int .u32 2, .int .u32 3, .int .u32 4] 62)).heap.size = w.heap.size + 2 := by simp only [World.alloc, Array.size_push]
  have hcl := fun W (h : Below w.heap.size w W) => m_clone A n c l W hl (by omega) ((hr.below h).more h.size)
  have HC := Lib.hid hcl
  have HX := Lib.hid hbx
  have HS := Lib.hid hrs
  have HB := Lib.hid hb0
  have HZ := Lib.hid hz0
  clear hcl hbx hrs hb0 hz0 z1
  go_wp2_with fail
  generalize (w.alloc (.cells #[.int .u32 0, .int .u32 0, .int .u32 0, .int .u32 0] 62)).alloc (.cells #[.int .u32 1, .int .u32 2, .int .u32 3, .int .u32 4] 62) = w0 at *
  refine (HC.out _ HB.out).mono ?_
  rintro e w1 ⟨A1, c1, rfl, f1, b1⟩
  have hn1 := f1.nc
  go_wp2_with fail
  refine (m_clip A1 n c1 hn1 _).mono ?_
  rintro e w1' ⟨rfl, rfl⟩
  have hx1 := HX.out.below b1 (by rw [HZ.out]; omega)
  have hs1 := HS.out.below b1 (by rw [HZ.out]; omega)
  have hb1 := HB.out.trans (below_mono b1 (by rw [HZ.out]; omega))
  have hz1 := b1.size
  rw [HZ.out] at hz1
  have hrd1 := f1.rd
  clear HX HS HB b1 f1
  go_wp2_with (at_builtin; refine wpList_append_more rfl (.tmp 9) (.tmp 10) rfl okB rfl (hrd1.alloc (Nat.le_refl _) _) rfl (Rd.made w1 _ 1 1 _ rfl) (by omega) (by unfold maxLen; omega) (by omega) ?_; intro d w2 f2 b2 _)
  have hx2 := (hx1.alloc (.cells #[.int .u8 1] 5)).below b2 (by simp only [World.alloc, Array.size_push]; omega)
  have hs2 := (hs1.alloc (.cells #[.int .u8 1] 5)).below b2 (by simp only [World.alloc, Array.size_push]; omega)
  have hb2 := (hb1.alloc (by omega) (.cells #[.int .u8 1] 5)).trans (below_mono b2 (by simp only [World.alloc, Array.size_push]; omega))
  have hf2 : Fr w2 (w.heap.size + 2) 5 1 _ (n + 1) d _ := f2.mono (by simp only [World.alloc, Array.size_push]; omega)
  clear f2 b2 hx1 hs1 hb1 hrd1 hz1 hn1
  go_loopw [4] (fun v wr => PadRel l n w v wr) (fun v _ => n + 1 + fill n - lenOf v)
  case atStart => 
    have hz : (w1.alloc (.cells #[.int .u8 1] 5)).heap.size = w1.heap.size + 1 := by simp only [World.alloc, Array.size_push]
    rw [hz] at hf2
    exact ⟨_, 0, d, Nat.zero_le _, rfl, by simpa [bvs_app, bvs, bv] using hf2, hx2, hs2, hb2⟩
  case round =>
    clear hx2 hs2 hb2 hf2
    obtain ⟨A3, k, c3, hk, rfl, hf, hx, hs, hb⟩ := hrel
    have hfl : fill n ≤ 7 := by unfold fill; omega
    by_cases hlt : k < fill n
    · have h8 := fill_step hlt
      generalize hN : n + 1 + k = N at *
      have h9 : ¬ ((N : Int) % 8 = 0) := by omega
      have HX := Lib.hid hx
      have HS := Lib.hid hs
      have HB := Lib.hid hb
      have HH := Lib.hid hb.size
      have HL := Lib.hid hx.lt
      clear hx hs hb
      go_wp2_with (at_builtin; refine wpList_append_fr rfl (.tmp 16) (.tmp 17) rfl okB rfl (hf.alloc _) rfl (Rd.made wr _ 1 1 _ rfl) (ones1 rfl) (by unfold maxLen; omega) (by omega) (by have := HL.out; simp; omega) ?_; intro D dd w4 hf4 hg4 _)
      have hr4 : ∀ g, rowOf A3 c3 = some g → w.heap.size + 2 ≤ g := fun g hg => (hf.row g hg).1
      go_roundw
      case rel =>
        refine ⟨D, k + 1, dd, hlt, by rw [← hN]; rfl, ?_, ?_, ?_, ?_⟩
        · have e1 : bvs (l ++ [1] ++ List.replicate (k + 1) 0) = bvs (l ++ [1] ++ List.replicate k 0) ++ [.int .u8 0] := by
            rw [List.replicate_succ', ← List.append_assoc, bvs_app _ [0]]
            rfl
          rw [e1]
          rw [show n + 1 + (k + 1) = N + 1 by omega]
          exact hf4
        · exact (hg4.block _ (by have := HL.out; simp only [World.alloc, Array.size_push]; omega) (fun e => by have := hr4 _ e.symm; omega)).trans ((HX.out).alloc _)
        · exact (hg4.block _ (by have := HL.out; simp only [World.alloc, Array.size_push]; omega) (fun e => by have := hr4 _ e.symm; omega)).trans ((HS.out).alloc _)
        · exact (HB.out.alloc HH.out _).grown hg4 (by have := HH.out; simp only [World.alloc, Array.size_push]; omega) (fun g e => by have := hr4 _ e; omega)
      case measure => simp [lenOf]; omega
    · have hkn : k = fill n := by omega
      have h8 := fill_done n
      rw [← hkn] at h8
      generalize hN : n + 1 + k = N at *
      have h9 : (N : Int) % 8 = 0 := by omega
      obtain ⟨m, hm⟩ : ∃ m, m = (l.length + 8) / 8 := ⟨_, rfl⟩
      have hNm : N = 8 * m := by omega
      have hm9 : m ≤ 1000000 := by omega
      have hpl : l ++ [1] ++ List.replicate k 0 = padded l := by rw [hkn, ← hl]; rfl
      rw [hpl] at hf
      obtain ⟨g, rfl, hg1, hg2⟩ := hf.form (by have := hf.nc; omega)
      obtain ⟨O, hO⟩ : ∃ O, wr.heap[g]? = some O := ⟨_, Array.getElem?_eq_getElem hg2⟩
      have hnc := hf.nc
      have hrd := hf.rd
      subst hNm
      have HX := Lib.hid hx
      have HS := Lib.hid hs
      have HB := Lib.hid hb
      have HR := Lib.hid hrd
      have HM := Lib.hid hm
      clear hx hs hb hf hrd hm h8 hN hkn hpl hk
      go_wp2_with fail
      refine ((callsIn_wide (n := 9)).1 (chunk_in Fence.wide 9 trivial rfl _ _ _ 8 (by omega) _)).mono ?_
      rintro e w3 ⟨rfl, hw3⟩
      have hz3 : w3.heap.size = wr.heap.size + 2 := by rw [hw3]; simp only [World.alloc, Array.size_push]
      have hb3 : Below wr.heap.size wr w3 := by rw [hw3]; exact ((Below.refl _ wr).alloc (Nat.le_refl _) _).alloc (by simp only [World.alloc, Array.size_push]; omega) _
      have hbs : w3.heap[wr.heap.size]? = some (.cells #[.slice (some ⟨g, 0, none⟩) (8 * m) c3] 28 (0, 0)) := by
        rw [hw3, Below.heap_alloc _ _ _ (by simp only [World.alloc, Array.size_push]; omega)]
        exact heap_alloc_new wr _
      have hbk : w3.heap[wr.heap.size + 1]? = some (.cells #[.int .i64 ((8 : Nat) : Int)] 3 (0, 0)) := by
        have h := heap_alloc_new (wr.alloc (.cells #[.slice (some ⟨g, 0, none⟩) (8 * m) c3] 28)) (.cells #[.int .i64 8] 3)
        rw [show (wr.alloc (.cells #[.slice (some ⟨g, 0, none⟩) (8 * m) c3] 28)).heap.size = wr.heap.size + 1 by simp only [World.alloc, Array.size_push]] at h
        rw [hw3]
        exact h
      clear hw3
      go_wp2_with fail
      refine (wpIn_wide (n := 9)).1 ?_
      refine wpIn_rangeFunc_ownF rfl (by omega) (gf := 77) (lb := #[.pointer (some ⟨wr.heap.size, 0, none⟩), .pointer (some ⟨wr.heap.size + 1, 0, none⟩)]) rfl trivial (enters_of Try.func77 (by kernel_rfl) rfl)
        (chunk_stops Fence.wide _ trivial rfl (by omega) wr.heap.size g 8 m c3 (by omega) (by omega) hm9 hnc w3 hbs hbk) (fun h k => h.trans k) (KpC.put (by omega) (by omega)) (Below.refl _ _) (fun _ => rfl)
        (fun pre W => Box4 W (w.heap.size + 1) 62 (mixTo (padded l) pre) ∧ Box4 W w.heap.size 62 ⟨0, 0, 0, 0⟩ ∧ W.heap[g]? = some O ∧ W.heap[wr.heap.size]? = some (.cells #[.slice (some ⟨g, 0, none⟩) (8 * m) c3] 28 (0, 0)) ∧ W.heap[wr.heap.size + 1]? = some (.cells #[.int .i64 ((8 : Nat) : Int)] 3 (0, 0)) ∧ Below w.heap.size w W)
        (fun _ _ _ => False)
        ?own
        (fun _ _ _ _ _ hs _ _ => hs)
        ?start ?a1 ?assign ?body ?done ?stop
      case assign =>
        intro l x W K hK
        gi_wp2
        exact hK
      case own =>
        exact OwnFrom.and (own_four _ _ (by have := HX.out.lt; omega) _ _) (OwnFrom.and (own_four _ _ (by have := HS.out.lt; omega) _ (fun _ => ⟨0, 0, 0, 0⟩)) (OwnFrom.and (own_block _ _ (by omega) _) (OwnFrom.and (own_block _ _ (by omega) _) (OwnFrom.and (own_block _ _ (by omega) _) (ownFrom_below (Nat.le_refl _) (by have := HB.out.size; omega))))))
      case start =>
        exact ⟨HX.out.below hb3 HX.out.lt, HS.out.below hb3 HS.out.lt, (hb3.block _ hg2).trans hO, hbs, hbk, HB.out.trans (below_mono hb3 HB.out.size)⟩
      case body =>
        rintro l1 pre x W ⟨hx, hs, hO', hk1, hk2, hB⟩ hlt
        obtain ⟨P8, hP8⟩ : ∃ P8, P8 = ((padded l).drop (8 * x.val)).take 8 := ⟨_, rfl⟩
        have hrd : Rd W W.heap.size 1 (some ⟨g, 8 * x.val, none⟩) 8 (bvs P8) := by
          rw [hP8]
          have hgW : g < W.heap.size := (Array.getElem?_eq_some_iff.1 hO').1
          have h1 := (HR.out.at_block (hO'.trans hO.symm)).piece x.2
          obtain ⟨hl1, h2⟩ := h1
          exact ⟨hl1, fun hn => by obtain ⟨b, off, e, hb, hc⟩ := h2 hn; cases e; exact ⟨g, 8 * x.val, rfl, hgW, hc⟩⟩
        have hmix := mixTo_snoc (padded l) pre x
        rw [← hP8] at hmix
        have HMX := Lib.hid hmix
        have HRD := Lib.hid hrd
        clear hmix hrd hP8
        generalize mixTo (padded l) pre = X at *
        generalize 8 * x.val = p at *
        obtain ⟨c0, c1, c2, c3'⟩ := hx.cells
        have fz := hx.frozen
        have a1 := xor_w X.a (word P8)
        have a2 := xor_w X.c (word (P8.drop 4))
        have HX1 := Lib.hid hx
        have HS1 := Lib.hid hs
        have HB1 := Lib.hid hB
        clear hx hs hB
        have hfo : Try.prog.follows .mixedOrders = true := by kernel_rfl
        gi_wp2
        gi_cut [] from 22 (fun wc => ∃ W1, Below W.drew.heap.size W.drew W1 ∧ wc = W1.setCell ⟨w.heap.size + 1, 0, none⟩ (.int .u32 (wi (X.a ^^^ word P8))))
        case first =>
          gi_region_with_o ((refine ⟨trivial, ?_⟩; gi_at_call 69; refine (CallsIn.inRound l1 (callsIn_wide.2 (piece_fst (HRD.out.drew)))).mono ?_; rintro e W1 ⟨rfl, b1⟩; have hx1 := (show Box4 W.drew _ _ _ from HX1.out).below b1 HX1.out.lt; obtain ⟨q0, q1, q2, q3⟩ := hx1.cells; have fz1 := hx1.frozen))
          all_goals
            gi_wp2
            gi_meet
            case rel => exact ⟨W1, b1, rfl⟩
        case rest =>
          obtain ⟨V1, hV1⟩ : ∃ V, V = wc := ⟨_, rfl⟩
          subst hV1
          obtain ⟨W1, b1, hwc⟩ := hcut
          have hG : W.grownBy V1 (some (w.heap.size + 1)) := by
            rw [hwc]
            exact grown_more (grown_drew (grown_below b1 _)) _
          have hxV : Box4 V1 (w.heap.size + 1) 62 ⟨X.a ^^^ word P8, X.b, X.c, X.d⟩ := by
            rw [hwc]
            exact Box4.set ((show Box4 W.drew _ _ _ from HX1.out).below b1 HX1.out.lt) 0 _
          have hrV := HRD.out.piece_kept hG (by omega)
          clear hwc b1 c0 c1 c2 c3' fz
          obtain ⟨c0, c1, c2, c3'⟩ := hxV.cells
          have fz := hxV.frozen
          have HXV := Lib.hid hxV
          have HRV := Lib.hid hrV
          have HG := Lib.hid hG
          clear hxV hrV hG
          gi_wp2
          gi_cut [] from 29 (fun wc2 => ∃ W1, Below V1.drew.heap.size V1.drew W1 ∧ wc2 = W1.setCell ⟨w.heap.size + 1, 2, none⟩ (.int .u32 (wi (X.c ^^^ word (P8.drop 4)))))
          case first =>
            gi_region_with_o ((refine ⟨trivial, ?_⟩; gi_at_call 69; refine (CallsIn.inRound l1 (callsIn_wide.2 (piece_snd (HRV.out.drew)))).mono ?_; rintro e W1 ⟨rfl, b1⟩; have hx1 := (show Box4 V1.drew _ _ _ from HXV.out).below b1 HXV.out.lt; obtain ⟨q0, q1, q2, q3⟩ := hx1.cells; have fz1 := hx1.frozen))
            all_goals
              gi_wp2
              gi_meet
              case rel => exact ⟨W1, b1, rfl⟩
          case rest =>
            obtain ⟨V2, hV2⟩ : ∃ V, V = wc := ⟨_, rfl⟩
            subst hV2
            obtain ⟨W1, b1, hwc⟩ := hcut
            have hG2 : V1.grownBy V2 (some (w.heap.size + 1)) := by
              rw [hwc]
              exact grown_more (grown_drew (grown_below b1 _)) _
            have hxV : Box4 V2 (w.heap.size + 1) 62 ⟨X.a ^^^ word P8, X.b, X.c ^^^ word (P8.drop 4), X.d⟩ := by
              rw [hwc]
              exact Box4.set ((show Box4 V1.drew _ _ _ from HXV.out).below b1 HXV.out.lt) 2 _
            clear hwc b1 c0 c1 c2 c3' fz
            obtain ⟨c0, c1, c2, c3'⟩ := hxV.cells
            have HXV2 := Lib.hid hxV
            have HG2 := Lib.hid (grown_trans HG.out hG2)
            clear hxV hG2
            gi_wp2_with ((refine ⟨trivial, ?_⟩; gi_at_call 70; refine (CallsIn.inRound l1 (callsIn_wide.2 (m_often ⟨X.a ^^^ word P8, X.b, X.c ^^^ word (P8.drop 4), X.d⟩ 4 (by omega) _))).mono ?_; rintro e V3 ⟨rfl, b3⟩; have hx3 := HXV2.out.below b3 HXV2.out.lt; obtain ⟨q0, q1, q2, q3⟩ := hx3.cells; have fz3 := hx3.frozen; have HX3 := Lib.hid hx3; have HB3 := Lib.hid b3; clear hx3 b3))
            have hV : W.grownBy _ (some (w.heap.size + 1)) := grown_more (i := 3) (grown_more (i := 2) (grown_more (i := 1) (grown_more (i := 0) (grown_trans HG2.out (grown_below HB3.out _)) (.int .u32 (wi (often 4 ⟨X.a ^^^ word P8, X.b, X.c ^^^ word (P8.drop 4), X.d⟩).a))) (.int .u32 (wi (often 4 ⟨X.a ^^^ word P8, X.b, X.c ^^^ word (P8.drop 4), X.d⟩).b))) (.int .u32 (wi (often 4 ⟨X.a ^^^ word P8, X.b, X.c ^^^ word (P8.drop 4), X.d⟩).c))) (.int .u32 (wi (often 4 ⟨X.a ^^^ word P8, X.b, X.c ^^^ word (P8.drop 4), X.d⟩).d))
            have l1 := HS1.out.lt
            have l2 := (Array.getElem?_eq_some_iff.1 hO').1
            have l3 := (Array.getElem?_eq_some_iff.1 hk1).1
            have l4 := (Array.getElem?_eq_some_iff.1 hk2).1
            have e1 := hV.block w.heap.size l1 (by intro e; injection e with e; omega)
            have e2 := hV.block g l2 (by intro e; injection e with e; omega)
            have e3 := hV.block wr.heap.size l3 (by intro e; injection e with e; have := HX.out.lt; omega)
            have e4 := hV.block (wr.heap.size + 1) l4 (by intro e; injection e with e; have := HX.out.lt; omega)
            refine ⟨keeps_grown hV HX1.out, ⟨e2, e3, e4⟩, ?_, e1.trans HS1.out, e2.trans hO', e3.trans hk1, e4.trans hk2, HB1.out.grown hV HB1.out.size (fun k e => by injection e with e; omega)⟩
            rw [HMX.out]
            exact HX3.out.put _
      case done =>
        rintro D ys W hD rfl ⟨hx, hs, -, -, -, hB⟩ hK
        rw [mixTo_fst _ _ _ (Nat.le_refl _)] at hx
        have hmm := HM.out
        have hfour : fourOf l = often 8 ⟨(mixed (padded l) m).a, (mixed (padded l) m).b ^^^ BitVec.ofNat 32 l.length, (mixed (padded l) m).c, (mixed (padded l) m).d⟩ := by rw [hmm]; rfl
        have HF := Lib.hid hfour
        clear hfour hmm
        generalize mixed (padded l) m = X at *
        obtain ⟨c0, c1, c2, c3'⟩ := hx.cells
        have fz := hx.frozen
        have hwn : wi (BitVec.ofNat 32 l.length) = (n : Int) := by
          unfold wi
          rw [BitVec.toNat_ofNat, hl]
          omega
        have a1 := xor_w X.b (BitVec.ofNat 32 l.length)
        rw [hwn] at a1
        have HX1 := Lib.hid hx
        have HS1 := Lib.hid hs
        have HB1 := Lib.hid hB
        have HK := Lib.hid hK
        clear hx hs hB hK
        rw [hl] at HF
        go_wp2_with fail
        refine (m_often ⟨X.a, X.b ^^^ BitVec.ofNat 32 n, X.c, X.d⟩ 8 (by omega) _).mono ?_
        rintro e W1 ⟨rfl, b1⟩
        have hs1 : Box4 W1 w.heap.size 62 ⟨0, 0, 0, 0⟩ := by
          refine Box4.below ?_ b1 ?_
          · exact (Below.heap_setCell _ _ _ _ (by show w.heap.size ≠ w.heap.size + 1; omega)).trans HS1.out
          · simpa [World.setCell] using HS1.out.lt
        have hK1 : W1.heap[D]? = some (.deferred (some [])) := by
          have hlt := (Array.getElem?_eq_some_iff.1 HK.out).1
          have hDx : D ≠ w.heap.size + 1 := by have := HX.out.lt; omega
          exact (b1.block D (by simpa [World.setCell] using hlt)).trans ((Below.heap_setCell _ _ _ _ (by show D ≠ w.heap.size + 1; omega)).trans HK.out)
        have hB1 : Below w.heap.size w W1 := (HB1.out.setCell (p := ⟨w.heap.size + 1, 1, none⟩) (by show _ ≤ _ + 1; omega) _).trans (below_mono b1 (by simpa [World.setCell] using HB1.out.size))
        obtain ⟨q0, q1, q2, q3⟩ := hs1.cells
        have fz1 := hs1.frozen
        obtain ⟨e0, e1, e2, e3⟩ := hs1.four (.int .u32 (wi (fourOf l).a)) (.int .u32 (wi (fourOf l).b)) (.int .u32 (wi (fourOf l).c)) (.int .u32 (wi (fourOf l).d))
        rw [← HF.out]
        have HB2 := Lib.hid hB1
        have HK2 := Lib.hid hK1
        have HS2 := Lib.hid hs1
        clear hB1 b1 c0 c1 c2 c3' fz hK1 hs1
        go_wp2
        have hxf := HS2.out.put (fourOf l)
        have hDx : D ≠ w.heap.size := by have := HX.out.lt; omega
        have hKf := (Below.heap_setCell ((((W1.setCell ⟨w.heap.size, 0, none⟩ (.int .u32 (wi (fourOf l).a)))).setCell ⟨w.heap.size, 1, none⟩ (.int .u32 (wi (fourOf l).b))).setCell ⟨w.heap.size, 2, none⟩ (.int .u32 (wi (fourOf l).c))) ⟨w.heap.size, 3, none⟩ (.int .u32 (wi (fourOf l).d)) D hDx).trans ((Below.heap_setCell _ ⟨w.heap.size, 2, none⟩ _ D hDx).trans ((Below.heap_setCell _ ⟨w.heap.size, 1, none⟩ _ D hDx).trans ((Below.heap_setCell _ ⟨w.heap.size, 0, none⟩ _ D hDx).trans HK2.out)))
        have hBf := below_four HB2.out (Nat.le_refl _) (.int .u32 (wi (fourOf l).a)) (.int .u32 (wi (fourOf l).b)) (.int .u32 (wi (fourOf l).c)) (.int .u32 (wi (fourOf l).d))
        clear e0 e1 e2 e3 q0 q1 q2 q3 fz1
        generalize ((((W1.setCell ⟨w.heap.size, 0, none⟩ (.int .u32 (wi (fourOf l).a)))).setCell ⟨w.heap.size, 1, none⟩ (.int .u32 (wi (fourOf l).b))).setCell ⟨w.heap.size, 2, none⟩ (.int .u32 (wi (fourOf l).c))).setCell ⟨w.heap.size, 3, none⟩ (.int .u32 (wi (fourOf l).d)) = Wf at *
        refine ⟨by simp, .inl ⟨_, _, rfl, run_takeDeferred hKf, ?_⟩⟩
        have hxo : ∀ o, Box4 (Wf.putObj D o) w.heap.size 62 (fourOf l) := fun o => (World.putObj_heap_other (by omega)).trans hxf
        obtain ⟨e0, e1, e2, e3⟩ := (hxo (.deferred none)).cells
        refine ⟨.agg #[.int .u32 (wi (fourOf l).a), .int .u32 (wi (fourOf l).b), .int .u32 (wi (fourOf l).c), .int .u32 (wi (fourOf l).d)], by simp [results, Try.results47, go_sem, e0, e1, e2, e3], rfl, hBf.trans (belowK_b (w := w) (Nat.le_refl _) Wf D _ _ (by omega) hKf rfl rfl)⟩
      case stop =>
        rintro D c pre W _ _ h _
        exact h.elim
end Go.Proofs.Ytfjjkkakhfgdhaa
