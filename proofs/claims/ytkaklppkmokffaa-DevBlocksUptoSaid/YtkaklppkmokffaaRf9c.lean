/-
  Tables of blocks and of writes that are filled one by one; contract of charterhouseref09.New.
-/
import Derived.Test.YtkaklppkmokffaaDevN
import Derived.Test.YtkaklppkmokffaaDevR
namespace Go.Proofs.Ytkaklppkmokffaa
open Go.RowKit
set_option linter.unusedVariables false
set_option linter.unusedSimpArgs false
set_option maxRecDepth 100000

def nilS : Sl := ⟨none, 0, 0, []⟩
theorem nilS_came (w : World) : nilS.came w := ⟨rfl, Rd.nil_, Nat.le_refl _, Nat.zero_le _⟩
theorem nilS_own (w : World) (base : Nat) : Own w base nilS := fun h => absurd h (Nat.lt_irrefl _)
theorem Fr.setG {w : World} {base sz n c : Nat} {e : TypeId} {g : Nat} {xs : List Value} (h : Fr w base e sz (some ⟨g, 0, none⟩) n c xs) (hc : 0 < c) (i : Nat) (u : Value) : Fr (w.setCell ⟨g, i, none⟩ u) base e sz (some ⟨g, 0, none⟩) n c (xs.set i u) := by
  obtain ⟨h1, h2, h3, h4⟩ := h
  obtain ⟨g', cur, fz, hg', hb, hh, hf, hs, ht⟩ := h4.resolve_left (by omega)
  obtain rfl : g = g' := by injection hg' with h; injection h
  refine ⟨by simpa using h1, h2, h3, .inr ⟨g, cur.setIfInBounds i u, fz, rfl, hb, ?_, by simpa using hf, by simpa using hs, ?_⟩⟩
  · rw [setCell_eq_setRow w g i cur e fz u hh, setRow_heap w g cur _ e _ hh]
  · rw [Array.toList_setIfInBounds, List.take_set, ht]
theorem Fr.cellG {w : World} {base sz n c : Nat} {e : TypeId} {g : Nat} {xs : List Value} (h : Fr w base e sz (some ⟨g, 0, none⟩) n c xs) {i : Nat} {u : Value} (hu : xs[i]? = some u) : w.cell? ⟨g, i, none⟩ = some u ∧ w.frozen? ⟨g, i, none⟩ = false := by
  obtain ⟨h1, h2, h3, h4⟩ := h
  have hi := (List.getElem?_eq_some_iff.1 hu).1
  have hc0 : c ≠ 0 := by
    rintro rfl
    obtain rfl : n = 0 := by omega
    simp at h1
    rw [h1] at hi
    simp at hi
  obtain ⟨g', cur, fz, hg', hb, hh, hf, hs, ht⟩ := h4.resolve_left hc0
  obtain rfl : g = g' := by injection hg' with h; injection h
  rw [← ht, List.getElem?_take] at hu
  split at hu
  · have hu' : cur[i]? = some u := by simpa using hu
    have := hf i (Array.getElem?_eq_some_iff.1 hu').1
    obtain ⟨lo, hi'⟩ := fz
    refine ⟨by rw [cell_of_row w g i _ _ _ hh]; exact hu', ?_⟩
    simp only [World.frozen?, hh]
    exact this
  · cases hu
/-- Blocks of the call's own, the first k of which are as is wanted. -/
structure Bk (n k : Nat) (want : Nat → List UInt8) (ps : List Sl) (base : Nat) (w : World) : Prop where
  len : ps.length = n
  own : ∀ s ∈ ps, s.came w ∧ Own w base s
  done : ∀ i, i < k → (ps[i]?).map Sl.l = some (want i)
  rest : ∀ i, k ≤ i → i < n → ps[i]? = some nilS
theorem Bk.start (n : Nat) (want : Nat → List UInt8) (base : Nat) (w : World) : Bk n 0 want (List.replicate n nilS) base w :=
  ⟨List.length_replicate, fun s hs => by rw [List.eq_of_mem_replicate hs]; exact ⟨nilS_came w, nilS_own w base⟩, fun i h => absurd h (Nat.not_lt_zero _), fun i _ h => by rw [List.getElem?_replicate, if_pos h]⟩
theorem Bk.grown {n k : Nat} {want : Nat → List UInt8} {ps : List Sl} {base : Nat} {w w' : World} {row : Option Nat} (h : Bk n k want ps base w) (hg : w.grownBy w' row) (hr : ∀ j, row = some j → j < base ∨ ∃ cur fz e, w.heap[j]? = some (.cells cur e fz) ∧ e ≠ 5) : Bk n k want ps base w' :=
  ⟨h.len, fun s hs => own_came (h.own s hs).1 (h.own s hs).2 hg hr, h.done, h.rest⟩
theorem Bk.below {n k : Nat} {want : Nat → List UInt8} {ps : List Sl} {base : Nat} {w w' : World} (h : Bk n k want ps base w) (hb : Below w.heap.size w w') : Bk n k want ps base w' := h.grown (grown_of_below hb none) (fun j hj => by cases hj)
theorem Bk.step {n k : Nat} {want : Nat → List UInt8} {ps : List Sl} {base : Nat} {w : World} (h : Bk n k want ps base w) (hk : k < n) {s : Sl} (hs : s.came w) (ho : Own w base s) (hl : s.l = want k) : Bk n (k + 1) want (ps.set k s) base w := by
  have hkl : k < ps.length := by rw [h.len]; exact hk
  refine ⟨by rw [List.length_set]; exact h.len, fun t ht => ?_, fun i hi => ?_, fun i h1 h2 => ?_⟩
  · rcases List.mem_or_eq_of_mem_set ht with h1 | rfl
    · exact h.own t h1
    · exact ⟨hs, ho⟩
  · rw [List.getElem?_set]
    by_cases e : k = i
    · subst e
      rw [if_pos rfl, if_pos hkl, Option.map_some, hl]
    · rw [if_neg e]
      exact h.done i (by omega)
  · rw [List.getElem?_set, if_neg (by omega)]
    exact h.rest i (by omega) h2
theorem vset (ps : List Sl) (k : Nat) (s : Sl) : (ps.map Sl.v).set k s.v = (ps.set k s).map Sl.v := by rw [List.map_set]
theorem Bk.vals {n : Nat} {want : Nat → List UInt8} {ps : List Sl} {base : Nat} {w : World} (h : Bk n n want ps base w) : ps.map Sl.l = (List.range n).map want := by
  apply List.ext_getElem?
  intro i
  rw [List.getElem?_map, List.getElem?_map]
  by_cases hi : i < n
  · rw [h.done i hi, List.getElem?_range hi]
    rfl
  · rw [List.getElem?_eq_none (by rw [h.len]; omega), List.getElem?_eq_none (by simp; omega)]
    rfl
theorem Bk.nwB {n : Nat} {want : Nat → List UInt8} {ps : List Sl} {base base' : Nat} {w : World} {A : Option Addr} (h : Bk n n want ps base w) (hf : Fr w base 41 1 A n n (ps.map Sl.v)) (hb : base' ≤ base) : Nw ⟨(List.range n).map want, []⟩ base' ⟨A, n, n, ps, none, 0, 0, []⟩ w := by
  refine ⟨⟨h.len, hf.rd, fun s hs => (h.own s hs).1, rfl, Rd.nil_, fun x hx => (by cases hx), ⟨hf.nc, hf.cm⟩, ⟨Nat.le_refl _, Nat.zero_le _⟩⟩, ?_, hf.mono hb, Fr.none_, fun s hs => (h.own s hs).2.mono hb, fun x hx => (by cases hx)⟩
  simp only [Dk.c, List.map_nil, h.vals]
theorem run_mkBs (kl kc : IntKind) (n : Nat) (hn : n ≤ 1000000) (w : World) :
    (Instr.makeSlice 22 (.int kl (n : Int)) (.int kc (n : Int))).run Try.prog w = .ok (.slice (some ⟨w.heap.size, 0, none⟩) n n) (w.alloc (.cells ((List.replicate n nilS).map Sl.v).toArray 41)) := by
  obtain ⟨ht, _, _, i, hi, hz, hs, hb⟩ := okBs
  have h := run_make (P := Try.prog) w 22 41 i _ ht hi hz kl kc n n (by omega) (by omega) (by rw [hb]; omega) (by omega)
  rw [h]
  simp only [Int.toNat_natCast, hs, Nat.mul_one]
  congr 3
  apply Array.ext
  · simp [madeCells]
  · intro j h1 h2
    simp [madeCells, Value.cells, Nat.mod_one, nilS, Sl.v]
theorem fr_mkBs (w : World) (n : Nat) (hn : n ≤ 1000000) {base : Nat} (hb : base ≤ w.heap.size) : Fr (w.alloc (.cells ((List.replicate n nilS).map Sl.v).toArray 41)) base 41 1 (some ⟨w.heap.size, 0, none⟩) n n ((List.replicate n nilS).map Sl.v) :=
  Fr.made w _ n n hb (by unfold maxLen; omega) (Nat.le_refl _) (by simp) (by simp) (by rw [List.take_of_length_le (by simp)])
/-! ### New -/
def nts (n : Nat) : List UInt8 := List.replicate n 0
theorem run_mkNt (w : World) : (Instr.makeSlice 41 (.int .i64 256) (.int .i64 256)).run Try.prog w = .ok (.slice (some ⟨w.heap.size, 0, none⟩) 256 256) (w.alloc (.cells (bvs (nts 256)).toArray 5)) := run_mkB (P := Try.prog) okB .i64 .i64 256 (by omega) w
theorem fr_mkNt (w : World) : Fr (w.alloc (.cells (bvs (nts 256)).toArray 5)) w.heap.size 5 1 (some ⟨w.heap.size, 0, none⟩) 256 256 (bvs (nts 256)) := fr_mkB w 5 256 (by omega) (Nat.le_refl _)
def NewR (G gB base : Nat) (w : World) (x : Value) (wr : World) : Prop :=
  ∃ (k : Nat) (ps : List Sl), k ≤ 256 ∧ x = .int .i64 (k : Int) ∧ DkBox wr G (.slice (some ⟨gB, 0, none⟩) 256 256) (.slice none 0 0) ∧ DkBox wr w.heap.size (.slice none 0 0) (.slice none 0 0) ∧ Fr wr (w.heap.size + 1) 41 1 (some ⟨gB, 0, none⟩) 256 256 (ps.map Sl.v) ∧ Bk 256 k (fun _ => nts 256) ps (w.heap.size + 1) wr ∧ Below w.heap.size w wr
set_option maxHeartbeats 4000000 in
theorem r_new (w : World) : Calls Try.prog 31 #[] w fun e w' => ∃ d' : Dk, e = .returned (.agg #[.slice d'.A d'.nB d'.cB, .slice d'.W d'.nW d'.cW]) ∧ Nw Ct.new w.heap.size d' w' ∧ Below w.heap.size w w' := by
  have hm1 : ∀ W, (Instr.makeSlice 22 (.int .i64 256) (.int .i64 256)).run Try.prog W = .ok (.slice (some ⟨W.heap.size, 0, none⟩) 256 256) (W.alloc (.cells ((List.replicate 256 nilS).map Sl.v).toArray 41)) := fun W => run_mkBs .i64 .i64 256 (by omega) W
  obtain ⟨T, hT⟩ : ∃ T, T = (List.replicate 256 nilS).map Sl.v := ⟨_, rfl⟩
  rw [← hT] at hm1
  have HT := Lib.hid hT
  clear hT
  go_enter Try.func31, Try.ntmps31
  go_wp2
  obtain ⟨W3, hW3⟩ : ∃ V, V = ((w.alloc (.cells #[.slice none 0 0, .slice none 0 0] 25)).alloc (.cells T.toArray 41)).alloc (.cells #[.slice (some ⟨w.heap.size + 1, 0, none⟩) 256 256, .slice none 0 0] 25) := ⟨_, rfl⟩
  have hb3 : Below w.heap.size w W3 := by rw [hW3]; exact ((below_new' w _).alloc (by simp) _).alloc (by simp; omega) _
  have hx0 : DkBox W3 w.heap.size (.slice none 0 0) (.slice none 0 0) := by rw [hW3]; exact ((DkBox.new w _ _).alloc _).alloc _
  have hxG : DkBox W3 (w.heap.size + 2) (.slice (some ⟨w.heap.size + 1, 0, none⟩) 256 256) (.slice none 0 0) := by
    rw [hW3]
    have := DkBox.new ((w.alloc (.cells #[.slice none 0 0, .slice none 0 0] 25)).alloc (.cells T.toArray 41)) (.slice (some ⟨w.heap.size + 1, 0, none⟩) 256 256) (.slice none 0 0)
    rw [World.size_alloc, World.size_alloc] at this
    exact this
  have hf3 : Fr W3 (w.heap.size + 1) 41 1 (some ⟨w.heap.size + 1, 0, none⟩) 256 256 T := by
    rw [hW3]
    have := fr_mkBs (w.alloc (.cells #[.slice none 0 0, .slice none 0 0] 25)) 256 (by omega) (base := w.heap.size + 1) (by simp)
    rw [← HT.out, World.size_alloc] at this
    exact this.alloc _
  rw [← hW3]
  have HB3 := Lib.hid hb3
  have HX0 := Lib.hid hx0
  have HXG := Lib.hid hxG
  have HF3 := Lib.hid hf3
  clear hb3 hx0 hxG hf3 hW3 hm1
  go_loopw [2] (fun q wr => NewR (w.heap.size + 2) (w.heap.size + 1) (w.heap.size + 1) w q wr) (fun q _ => 256 - (intOf q).toNat)
  case atStart => exact ⟨0, _, Nat.zero_le _, rfl, HXG.out, HX0.out, by rw [← HT.out]; exact HF3.out, Bk.start _ _ _ _, HB3.out⟩
  case round =>
    clear HB3 HX0 HXG HF3
    obtain ⟨k, ps, hk, rfl, hx, hy, hf, hbk, hb⟩ := hrel
    by_cases hlt : k < 256
    · have hwx : DkBox wr.drew (w.heap.size + 2) (.slice (some ⟨w.heap.size + 1, 0, none⟩) 256 256) (.slice none 0 0) := hx
      have HY := Lib.hid (show DkBox wr.drew w.heap.size _ _ from hy)
      have hd := (Below.refl wr.heap.size wr).drew
      have HF := Lib.hid (hf.below hd (Nat.le_refl _))
      have HBK := Lib.hid (hbk.below hd)
      have hbd := hb.drew
      have HB := Lib.hid hbd
      have hlti : (k : Int) < 256 := by omega
      have h0 : ¬ ((k : Int) < 0) := by omega
      have hxl := hx.lt
      have HXL := Lib.hid hxl
      clear hy hf hbk hb hd hbd hx hxl
      go_wp2
      refine wp_region_held_drew (S := fun V => DkBox V (w.heap.size + 2) (.slice (some ⟨w.heap.size + 1, 0, none⟩) 256 256) (.slice none 0 0)) (by kernel_rfl) hwx (fun hS => ?_)
      refine wpAnyH_take (i := 0) (v := ?_) rfl (by kernel_rfl) (by kernel_rfl) (by kernel_rfl) (fun _ _ _ h => h) (Or.inl ⟨by rfl, ?hyq⟩) hS ?_
      case hyq =>
        intro w hw
        go_simp
        try (with_reducible rfl)
      refine wpAnyH_take (i := 1) (v := ?_) rfl (by kernel_rfl) (by kernel_rfl) (by kernel_rfl) (fun _ _ _ h => h) (Or.inl ⟨by rfl, ?hyq⟩) hS ?_
      case hyq =>
        intro w hw
        obtain ⟨k0, k1⟩ := hw.cells
        go_simp
        try (with_reducible rfl)
      refine wpAnyH_take (i := 2) (v := ?_) rfl (by kernel_rfl) (by kernel_rfl) (by kernel_rfl) (fun _ _ _ h => h) (Or.inl ⟨by rfl, ?hyq⟩) hS ?_
      case hyq =>
        intro w hw
        go_simp
        try (with_reducible rfl)
      refine wpAnyH_ready (rs := [3]) (by kernel_rfl) (by simp) ?_
      refine all_consH rfl (fun K hK => ?_) ?_
      · skip
        obtain ⟨W0, hW0⟩ : ∃ V, V = wr.drew := ⟨_, rfl⟩
        obtain ⟨g8, hg8⟩ : ∃ b, b = W0.heap.size := ⟨_, rfl⟩
        obtain ⟨w8, hw8⟩ : ∃ W, W = W0.alloc (.cells (bvs (nts 256)).toArray 5) := ⟨_, rfl⟩
        have hmk := run_mkNt
        refine stp_run (v := .slice (some ⟨g8, 0, none⟩) 256 256) (w' := w8) rfl (by rw [hg8, hw8]; rw [hW0]; go_simp) ?_
        have hb8 := below_new' W0 (.cells (bvs (nts 256)).toArray 5)
        have hfr := fr_mkNt W0
        rw [← hw8] at hb8 hfr
        rw [← hg8] at hfr
        have hsl := hfr.cameS
        have hso := hfr.ownS
        have hlow : w.heap.size + 1 ≤ W0.heap.size := by rw [hW0]; have := HXL.out; show _ ≤ wr.heap.size; omega
        have HSL := Lib.hid hsl
        have HSO := Lib.hid (hso.mono (base' := w.heap.size + 1) (by omega))
        rw [hW0] at hb8
        have hSn := hS.below hb8 hS.lt
        replace HY := Lib.hid (HY.out.below hb8 HY.out.lt)
        replace HF := Lib.hid (HF.out.below hb8 (Nat.le_refl _))
        replace HBK := Lib.hid (HBK.out.below hb8)
        replace HB := Lib.hid (below_to HB.out hb8 HB.out.size)
        clear hmk hb8 hfr hsl hso hlow hw8 hg8 hW0
        refine hK.out _ _ hSn (fun hS => ?_)
        clear hK K hSn
        refine wpAnyH_take (i := 4) (v := ?_) rfl (by kernel_rfl) (by kernel_rfl) (by kernel_rfl) (fun _ _ _ h => h) (Or.inl ⟨by rfl, ?hyq⟩) hS ?_
        case hyq =>
          intro w hw
          go_simp
          try (with_reducible rfl)
        refine wpAnyH_ready (rs := [5]) (by kernel_rfl) (by simp) ?_
        refine all_consH rfl (fun K hK => ?_) ?_
        · skip
          refine Stp.mk ?_
          have hps : ps[k]? = some nilS := HBK.out.rest k (Nat.le_refl _) hlt
          have hcl := HF.out.cellG (i := k) (u := nilS.v) (by rw [List.getElem?_map, hps]; rfl)
          obtain ⟨m0, mf⟩ := hcl
          obtain ⟨cur, fz, hrow⟩ := HF.out.cells_ (w.heap.size + 1) (rowOf_some _ _ _ (by omega))
          have hg9 := grown_setCell w8 ⟨w.heap.size + 1, k, none⟩ (Sl.v ⟨some ⟨g8, 0, none⟩, 256, 256, nts 256⟩)
          have hF9 := HF.out.setG (by omega) k (Sl.v ⟨some ⟨g8, 0, none⟩, 256, 256, nts 256⟩)
          rw [vset] at hF9
          have hK9 := (HBK.out.step hlt (s := ⟨some ⟨g8, 0, none⟩, 256, 256, nts 256⟩) HSL.out HSO.out rfl).grown hg9 (fun j hj => .inr (by cases hj; exact ⟨cur, fz, _, hrow, by decide⟩))
          have hB9 := HB.out.setCell (p := ⟨w.heap.size + 1, k, none⟩) (Nat.le_succ _) (Sl.v ⟨some ⟨g8, 0, none⟩, 256, 256, nts 256⟩)
          have hY9 := HY.out.grown hg9 (by simp)
          have hSn := hS.grown hg9 (by simp)
          clear hrow hg9
          simp only [Sl.v, nilS] at *
          go_simp
          clear m0 mf
          refine hK.out _ _ hSn (fun hS => ?_)
          clear hK K hSn
          refine wpAnyH_done (by kernel_rfl) ?_ _
          go_wp2
          go_roundw
          case rel => exact ⟨k + 1, _, by omega, by simp, hS, hY9, hF9, hK9, hB9⟩
          case measure => simp [intOf]; omega
        exact AllReadyH.nil
      exact AllReadyH.nil
    · obtain rfl : k = 256 := by omega
      have hnw := hbk.nwB hf (base' := w.heap.size) (Nat.le_succ _)
      have hcc : (⟨(List.range 256).map fun _ => nts 256, []⟩ : Ct) = Ct.new := by
        rw [List.map_const', List.length_range]
        rfl
      rw [hcc] at hnw
      have hn1 := (hnw.grown_box (grown_setCell _ ⟨w.heap.size, 0, none⟩ (.slice (some ⟨w.heap.size + 1, 0, none⟩) 256 256)) hy).grown_box (grown_setCell _ ⟨w.heap.size, 1, none⟩ (.slice none 0 0)) (hy.put0 _)
      have hb1 := (hb.setCell (p := ⟨w.heap.size, 0, none⟩) (Nat.le_refl _) (.slice (some ⟨w.heap.size + 1, 0, none⟩) 256 256)).setCell (p := ⟨w.heap.size, 1, none⟩) (Nat.le_refl _) (.slice none 0 0)
      have hy1 := (hy.put0 (.slice (some ⟨w.heap.size + 1, 0, none⟩) 256 256)).put1 (.slice none 0 0)
      obtain ⟨x0, x1⟩ := hx.cells
      obtain ⟨y0, y1⟩ := hy.cells
      have yf := hy.frozen
      obtain ⟨z0, z1⟩ := hy1.cells
      have HN1 := Lib.hid hn1
      have HB1 := Lib.hid hb1
      clear hnw hcc hn1 hb1 hy1 hx hy hf hbk hb
      go_wp2
      refine bodyPost_ret (v := .agg #[.slice (some ⟨w.heap.size + 1, 0, none⟩) 256 256, .slice none 0 0]) (by simp [results, Try.results31, go_sem, z0, z1]) rfl ?_
      exact ⟨⟨_, _, _, _, none, 0, 0, []⟩, rfl, HN1.out, HB1.out⟩
end Go.Proofs.Ytkaklppkmokffaa
