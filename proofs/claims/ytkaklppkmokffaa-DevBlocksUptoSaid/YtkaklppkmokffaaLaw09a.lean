/-
  The walks of charterhouselaw09.first, alive.
-/
import Derived.Test.YtkaklppkmokffaaDevN
import Derived.Test.YtkaklppkmokffaaDevR
import Derived.Test.YtkaklppkmokffaaDevT
namespace Go.Proofs.Ytkaklppkmokffaa
open Go.RowKit
set_option linter.unusedVariables false
set_option linter.unusedSimpArgs false
set_option maxRecDepth 100000

/-! ### plain -/
theorem new_may : Ct.new.May := ⟨newB_len, fun x hx => by rw [List.eq_of_mem_replicate (show x ∈ List.replicate 256 _ from hx)]; exact List.length_replicate, Nat.zero_le _, fun x hx => by cases hx⟩
theorem Ct.write_may {c : Ct} (h : c.May) {a : Int} (ha : 0 ≤ a ∧ a < 256) {b : List UInt8} (hb : b.length = 256) (hw : c.w.length < 4096) : (c.write a b).May :=
  ⟨h.1, h.2.1, by show (c.w ++ [_]).length ≤ 4096; rw [List.length_append]; show c.w.length + 1 ≤ 4096; omega, fun x hx => by
    rcases List.mem_append.1 (show x ∈ c.w ++ [_] from hx) with h1 | h1
    · exact h.2.2.2 x h1
    · obtain rfl : x = (a, b) := by simpa using h1
      exact ⟨ha, hb⟩⟩
theorem errW_ok {c : Ct} (h : c.May) {a : Int} (ha : 0 ≤ a ∧ a < 256) {m : Nat} (hm : m = 256) (hw : c.w.length < 4096) : errW c a m = 0 := by
  unfold errW
  rw [decide_eq_true ha, errG_ok h, if_pos rfl, if_pos hm, if_neg (by omega)]
theorem leftB_nil (b : List (List UInt8)) (so : Nat → Bool) : leftB b [] so = b := by
  apply List.ext_getElem
  · simp [leftB]
  · intro k h1 h2
    simp only [leftB, List.getElem_map, List.getElem_range, lastI, List.length_nil, List.getD_eq_getElem?_getD, List.getElem?_eq_getElem h2, Option.getD_some]
theorem Ct.left_left (c : Ct) (so so' : Nat → Bool) : (c.left so).left so' = c.left so := by
  unfold Ct.left
  simp only [leftB_nil]
theorem Dk.ok.sizes {d : Dk} {w : World} {c : Ct} (h : d.ok w) (hc : d.c = c) (hm : c.May) : d.nB = 256 ∧ d.nW = c.w.length := by
  subst hc
  have h1 := hm.1
  rw [Dk.c_b, List.length_map, h.lb] at h1
  refine ⟨h1, ?_⟩
  rw [Dk.c_w, List.length_map, h.lw]
def ct1 : Ct := Ct.new.write 20 (ofL 7)
def ct2 : Ct := ct1.write 20 (ofL 8)
theorem ct1_may : ct1.May := Ct.write_may new_may (by decide) (ofL_len 7) (by decide)
theorem ct2_may : ct2.May := Ct.write_may ct1_may (by decide) (ofL_len 8) (by decide)
def ct3 (one two : Bool) : Ct := ct2.left (markB [one, two])
theorem ct3_may (one two : Bool) : (ct3 one two).May := Ct.left_may ct2_may _
def firstL (one two : Bool) : List UInt8 := if two then ofL 8 else if one then ofL 7 else List.replicate 256 0
theorem firstL_len (one two : Bool) : (firstL one two).length = 256 := by cases one <;> cases two <;> exact List.length_replicate
theorem ct3_at (one two : Bool) : ((ct3 one two).left fun _ => true).b.getD 20 [] = firstL one two := by
  rw [ct3, Ct.left_left]
  have h : (ct2.left (markB [one, two])).b[20]? = some (firstL one two) := by
    show (leftB newB [(20, ofL 7), (20, ofL 8)] (markB [one, two]))[20]? = _
    rw [leftB_get _ _ _ (by rw [newB_len]; decide)]
    have h0 : newB[20]'(by rw [newB_len]; decide) = List.replicate 256 0 := List.getElem_replicate ..
    rw [h0]
    cases one <;> cases two <;> rfl
  rw [List.getD_eq_getElem?_getD, h]
  rfl
def firstV (one two : Bool) : Int := if two then 8 else if one then 7 else 0
theorem firstL_at (one two : Bool) : (bvs (firstL one two))[0]? = some (.int .u8 (firstV one two)) := by cases one <;> cases two <;> rfl

/-! ### first, alive -/
def FsR (w : World) (g : Nat) (e : Value) (wc : World) : Prop :=
  e = .int .i64 0 ∧ ∃ d2 : Dk, DkBox wc g (.slice d2.A d2.nB d2.cB) (.slice d2.W d2.nW d2.cW) ∧ Nw ct2 w.heap.size d2 wc ∧ Below w.heap.size w wc
set_option maxHeartbeats 4000000 in
theorem l_first (one two : Bool) (w : World) : Calls Try.prog 59 #[.bool one, .bool two] w fun e w' => e = .returned (.int .u8 (firstV one two)) ∧ Below w.heap.size w w' := by
  go_enter Try.func59, Try.ntmps59
  go_wp2_with fail
  refine (d_new w).mono ?_
  rintro e w1 ⟨d0, rfl, hn0, hb1⟩
  have HN0 := Lib.hid hn0
  have HB1 := Lib.hid hb1
  clear hn0 hb1
  go_wp2_with fail
  refine (l_of 7 w1).mono ?_
  rintro e w2 ⟨s7, rfl, hc7, ho7, hl7, hb2⟩
  have hn2 := HN0.out.below hb2
  obtain ⟨hz1, hz2⟩ := hn2.ok.sizes hn2.cc new_may
  have hwr := d_write d0 w2 hn2.ok (by omega) (by have : Ct.new.w.length = 0 := rfl; omega) 20 ⟨by decide, by decide⟩ s7 hc7 (by have := hc7.1; rw [hl7, ofL_len] at this; omega) 0 (by rw [hl7, hn2.cc]; exact (errW_ok new_may (by decide) (ofL_len 7) (by decide)).symm)
  rw [hl7, hn2.cc] at hwr
  have HWR := Lib.hid hwr
  have HB2 := Lib.hid (below_to HB1.out hb2 HB1.out.size)
  clear hc7 ho7 hl7 hb2 hn2 hz1 hz2 hwr HN0 HB1
  go_wp2_with fail
  refine HWR.out.mono ?_
  rintro e w3 ⟨d1, rfl, hn3, hb3⟩
  rw [if_pos rfl] at hn3
  have HN3 := Lib.hid (show Nw ct1 w2.heap.size d1 w3 from hn3)
  have HB3 := Lib.hid (below_to HB2.out hb3 HB2.out.size)
  clear hn3 hb3 HWR HB2
  go_wp2_with fail
  obtain ⟨g, hg⟩ : ∃ g, g = w3.heap.size := ⟨_, rfl⟩
  obtain ⟨v3, hv3⟩ : ∃ V, V = w3.alloc (.cells #[.slice d1.A d1.nB d1.cB, .slice d1.W d1.nW d1.cW] 25) := ⟨_, rfl⟩
  have hx := DkBox.new w3 (.slice d1.A d1.nB d1.cB) (.slice d1.W d1.nW d1.cW)
  have hbv := below_new' w3 (.cells #[.slice d1.A d1.nB d1.cB, .slice d1.W d1.nW d1.cW] 25)
  have hn := HN3.out.below hbv
  have hnd := hn.below ((Below.refl _ _).drew)
  have hbb := (below_to HB3.out hbv HB3.out.size).drew
  have hgg : w.heap.size ≤ g := by rw [hg]; exact HB3.out.size
  rw [← hg, ← hv3] at *
  have HX := Lib.hid (show DkBox v3.drew g _ _ from hx)
  have HN := Lib.hid (show Nw ct1 w2.heap.size d1 v3.drew from hnd)
  have HB := Lib.hid hbb
  have HG := Lib.hid hgg
  clear hx hbv hn hnd hbb hgg hg hv3 HN3 HB3
  go_cut [7] from 8 (fun e wc => FsR w g e wc)
  case first =>
    refine wp_region_any (by kernel_rfl) ?_
    try (change wpAny _ _ _ _ _ _ _ (World.drew _))
    refine wpAny_ready (rs := [0, 1]) (by kernel_rfl) (by simp) ?_
    refine all_cons rfl (fun K hK => ?_) ?_
    · skip
      refine Stp.mk ?_
      obtain ⟨m0, m1⟩ := HX.out.cells
      go_simp
      clear m0 m1
      refine hK _ _ ?_
      clear hK K
      refine wpAny_ready (rs := [1]) (by kernel_rfl) (by simp) ?_
      refine all_cons rfl (fun K hK => ?_) ?_
      · skip
        refine Stp.mk ?_
        go_simp
        go_wp2_with fail
        refine (l_of 8 _).mono ?_
        rintro e w4 ⟨s8, rfl, hc8, ho8, hl8, hb4⟩
        have HX1 := Lib.hid (HX.out.below hb4 HX.out.lt)
        have hn4 := HN.out.below hb4
        obtain ⟨hz1, hz2⟩ := hn4.ok.sizes hn4.cc ct1_may
        have hwr := d_write d1 w4 hn4.ok (by omega) (by have : ct1.w.length = 1 := rfl; omega) 20 ⟨by decide, by decide⟩ s8 hc8 (by have := hc8.1; rw [hl8, ofL_len] at this; omega) 0 (by rw [hl8, hn4.cc]; exact (errW_ok ct1_may (by decide) (ofL_len 8) (by decide)).symm)
        rw [hl8, hn4.cc] at hwr
        have HWR := Lib.hid hwr
        have HB4 := Lib.hid (below_to HB.out hb4 HB.out.size)
        clear hc8 ho8 hl8 hb4 hn4 hz1 hz2 hwr
        go_wp2
        refine wpAny_ready (rs := [2]) (by kernel_rfl) (by simp) ?_
        refine all_cons rfl (fun K hK => ?_) ?_
        · skip
          refine Stp.mk ?_
          go_simp
          go_wp2_with fail
          refine HWR.out.mono ?_
          rintro e w5 ⟨d2, rfl, hn5, hb5⟩
          rw [if_pos rfl] at hn5
          have HN5 := Lib.hid (show Nw ct2 w4.heap.size d2 w5 from hn5)
          have HX5 := Lib.hid (HX1.out.below hb5 HX1.out.lt)
          have HB5 := Lib.hid (below_to HB4.out hb5 HB4.out.size)
          have HW45 := Lib.hid (show w.heap.size ≤ w4.heap.size from HB4.out.size)
          clear hn5 hb5
          go_wp2
          refine wpAny_take (i := 3) (v := ?_) rfl (by kernel_rfl) (by kernel_rfl) (by kernel_rfl) (fun _ _ _ h => h) (Or.inl ⟨by rfl, ?hyq⟩) ?_
          case hyq => (intro w; go_simp; try (with_reducible rfl))
          refine wpAny_take (i := 4) (v := ?_) rfl (by kernel_rfl) (by kernel_rfl) (by kernel_rfl) (fun _ _ _ h => h) (Or.inl ⟨by rfl, ?hyq⟩) ?_
          case hyq => (intro w; go_simp; try (with_reducible rfl))
          refine wpAny_take (i := 5) (v := ?_) rfl (by kernel_rfl) (by kernel_rfl) (by kernel_rfl) (fun _ _ _ h => h) (Or.inl ⟨by rfl, ?hyq⟩) ?_
          case hyq => (intro w; go_simp; try (with_reducible rfl))
          refine wpAny_ready (rs := [6]) (by kernel_rfl) (by simp) ?_
          refine all_cons rfl (fun K hK => ?_) ?_
          · skip
            refine Stp.mk ?_
            obtain ⟨m0, m1⟩ := HX5.out.cells
            have mf := HX5.out.frozen
            have hX9 := (HX5.out.put0 (.slice d2.A d2.nB d2.cB)).put1 (.slice d2.W d2.nW d2.cW)
            have hN9 := (HN5.out.grown_box (grown_setCell _ ⟨g, 0, none⟩ (.slice d2.A d2.nB d2.cB)) HX5.out).grown_box (grown_setCell _ ⟨g, 1, none⟩ (.slice d2.W d2.nW d2.cW)) (HX5.out.put0 (.slice d2.A d2.nB d2.cB))
            have hB9 := (HB5.out.setCell (p := ⟨g, 0, none⟩) HG.out (.slice d2.A d2.nB d2.cB)).setCell (p := ⟨g, 1, none⟩) HG.out (.slice d2.W d2.nW d2.cW)
            go_simp
            clear m0 m1 mf
            refine hK _ _ ?_
            clear hK K
            refine wpAny_ready (rs := [7]) (by kernel_rfl) (by simp) ?_
            refine all_cons rfl (fun K hK => ?_) ?_
            · skip
              refine Stp.mk ?_
              go_simp
              refine hK _ _ ?_
              clear hK K
              refine wpAny_done (by kernel_rfl) ?_ _
              go_wp2
              go_meet
              case rel => exact ⟨rfl, d2, hX9, hN9.mono HW45.out, hB9⟩
            exact AllReady.nil
          exact AllReady.nil
        exact AllReady.nil
      exact AllReady.nil
    refine all_cons rfl (fun K hK => ?_) ?_
    · skip
      refine Stp.mk ?_
      go_simp
      go_wp2_with fail
      refine (l_of 8 _).mono ?_
      rintro e w4 ⟨s8, rfl, hc8, ho8, hl8, hb4⟩
      have HX1 := Lib.hid (HX.out.below hb4 HX.out.lt)
      have hn4 := HN.out.below hb4
      obtain ⟨hz1, hz2⟩ := hn4.ok.sizes hn4.cc ct1_may
      have hwr := d_write d1 w4 hn4.ok (by omega) (by have : ct1.w.length = 1 := rfl; omega) 20 ⟨by decide, by decide⟩ s8 hc8 (by have := hc8.1; rw [hl8, ofL_len] at this; omega) 0 (by rw [hl8, hn4.cc]; exact (errW_ok ct1_may (by decide) (ofL_len 8) (by decide)).symm)
      rw [hl8, hn4.cc] at hwr
      have HWR := Lib.hid hwr
      have HB4 := Lib.hid (below_to HB.out hb4 HB.out.size)
      clear hc8 ho8 hl8 hb4 hn4 hz1 hz2 hwr
      go_wp2
      refine wpAny_ready (rs := [0]) (by kernel_rfl) (by simp) ?_
      refine all_cons rfl (fun K hK => ?_) ?_
      · skip
        refine Stp.mk ?_
        obtain ⟨m0, m1⟩ := HX1.out.cells
        go_simp
        clear m0 m1
        refine hK _ _ ?_
        clear hK K
        refine wpAny_ready (rs := [2]) (by kernel_rfl) (by simp) ?_
        refine all_cons rfl (fun K hK => ?_) ?_
        · skip
          refine Stp.mk ?_
          go_simp
          go_wp2_with fail
          refine HWR.out.mono ?_
          rintro e w5 ⟨d2, rfl, hn5, hb5⟩
          rw [if_pos rfl] at hn5
          have HN5 := Lib.hid (show Nw ct2 w4.heap.size d2 w5 from hn5)
          have HX5 := Lib.hid (HX1.out.below hb5 HX1.out.lt)
          have HB5 := Lib.hid (below_to HB4.out hb5 HB4.out.size)
          have HW45 := Lib.hid (show w.heap.size ≤ w4.heap.size from HB4.out.size)
          clear hn5 hb5
          go_wp2
          refine wpAny_take (i := 3) (v := ?_) rfl (by kernel_rfl) (by kernel_rfl) (by kernel_rfl) (fun _ _ _ h => h) (Or.inl ⟨by rfl, ?hyq⟩) ?_
          case hyq => (intro w; go_simp; try (with_reducible rfl))
          refine wpAny_take (i := 4) (v := ?_) rfl (by kernel_rfl) (by kernel_rfl) (by kernel_rfl) (fun _ _ _ h => h) (Or.inl ⟨by rfl, ?hyq⟩) ?_
          case hyq => (intro w; go_simp; try (with_reducible rfl))
          refine wpAny_take (i := 5) (v := ?_) rfl (by kernel_rfl) (by kernel_rfl) (by kernel_rfl) (fun _ _ _ h => h) (Or.inl ⟨by rfl, ?hyq⟩) ?_
          case hyq => (intro w; go_simp; try (with_reducible rfl))
          refine wpAny_ready (rs := [6]) (by kernel_rfl) (by simp) ?_
          refine all_cons rfl (fun K hK => ?_) ?_
          · skip
            refine Stp.mk ?_
            obtain ⟨m0, m1⟩ := HX5.out.cells
            have mf := HX5.out.frozen
            have hX9 := (HX5.out.put0 (.slice d2.A d2.nB d2.cB)).put1 (.slice d2.W d2.nW d2.cW)
            have hN9 := (HN5.out.grown_box (grown_setCell _ ⟨g, 0, none⟩ (.slice d2.A d2.nB d2.cB)) HX5.out).grown_box (grown_setCell _ ⟨g, 1, none⟩ (.slice d2.W d2.nW d2.cW)) (HX5.out.put0 (.slice d2.A d2.nB d2.cB))
            have hB9 := (HB5.out.setCell (p := ⟨g, 0, none⟩) HG.out (.slice d2.A d2.nB d2.cB)).setCell (p := ⟨g, 1, none⟩) HG.out (.slice d2.W d2.nW d2.cW)
            go_simp
            clear m0 m1 mf
            refine hK _ _ ?_
            clear hK K
            refine wpAny_ready (rs := [7]) (by kernel_rfl) (by simp) ?_
            refine all_cons rfl (fun K hK => ?_) ?_
            · skip
              refine Stp.mk ?_
              go_simp
              refine hK _ _ ?_
              clear hK K
              refine wpAny_done (by kernel_rfl) ?_ _
              go_wp2
              go_meet
              case rel => exact ⟨rfl, d2, hX9, hN9.mono HW45.out, hB9⟩
            exact AllReady.nil
          exact AllReady.nil
        exact AllReady.nil
      exact AllReady.nil
    exact AllReady.nil
  case rest =>
    obtain ⟨rfl, d2, hx, hn, hb⟩ := hcut
    clear HX HN HB
    have HN := Lib.hid hn
    have HB := Lib.hid hb
    obtain ⟨m0, m1⟩ := hx.cells
    have hxl := hx.lt
    clear hx hn hb
    go_wp2_with fail
    have hbk := below_new' wc (.cells #[.bool one, .bool two] 4)
    have hrk : Rd (wc.alloc (.cells #[.bool one, .bool two] 4)) (wc.alloc (.cells #[.bool one, .bool two] 4)).heap.size 1 (some ⟨wc.heap.size, 0, none⟩) 2 (bos [one, two]) := by
      have := Rd.made wc 4 1 2 (bos [one, two]) rfl
      rw [World.size_alloc]
      exact this
    have hn2 := HN.out.below hbk
    obtain ⟨hz1, hz2⟩ := hn2.ok.sizes hn2.cc ct2_may
    have hw2 : ct2.w.length = 2 := rfl
    have hcr := d_crash d2 _ hn2.ok (by omega) (by omega) (some ⟨wc.heap.size, 0, none⟩) 2 2 [one, two] rfl hrk (by omega) 0 (by rw [hn2.cc, decide_eq_true (by omega)]; exact (errG_ok ct2_may).symm)
    rw [hn2.cc] at hcr
    have HCR := Lib.hid hcr
    have HB1 := Lib.hid (below_to HB.out hbk HB.out.size)
    clear hbk hrk hn2 hz1 hz2 hw2 hcr m0 m1 hxl
    refine HCR.out.mono ?_
    rintro e w6 ⟨d3, rfl, hn6, hb6⟩
    rw [if_pos rfl] at hn6
    have hb7 := below_new' w6 (.cells #[.slice d3.A d3.nB d3.cB, .slice d3.W d3.nW d3.cW] 25)
    have hn7 := (show Nw (ct3 one two) _ d3 w6 from hn6).below hb7
    obtain ⟨hz1, hz2⟩ := hn7.ok.sizes hn7.cc (ct3_may one two)
    have hw3 : (ct3 one two).w.length = 0 := rfl
    have hrd := d_read d3 _ hn7.ok (by omega) (by omega) 20 ⟨by decide, by decide⟩ 0 (by rw [hn7.cc, decide_eq_true (by decide)]; exact (errG_ok (ct3_may one two)).symm)
    rw [hn7.cc] at hrd
    have HRD := Lib.hid hrd
    have HB7 := Lib.hid (below_to (below_to HB1.out hb6 HB1.out.size) hb7 (below_to HB1.out hb6 HB1.out.size).size)
    clear hn6 hb6 hb7 hn7 hz1 hz2 hw3 hrd HCR HB1 HN HB
    go_wp2_with fail
    refine HRD.out.mono ?_
    rintro e w8 ⟨s, rfl, hs, ho, hl, hb8⟩
    rw [if_pos rfl] at hl
    have hl2 : s.l = firstL one two := hl.trans (ct3_at one two)
    have hsn : s.n = 256 := by rw [← hs.1, hl2, firstL_len]
    have hr8 := hs.2.1
    obtain ⟨b, off, hA, hbb, hc⟩ := hr8.2 (by omega)
    have hc0 := hc 0 _ (by rw [hl2]; exact firstL_at one two)
    rw [Nat.add_zero] at hc0
    have HB8 := Lib.hid (below_to HB7.out hb8 HB7.out.size)
    obtain ⟨sA, sn, sc, sl⟩ := s
    simp only at hsn hA
    subst hsn hA
    clear hs ho hl hl2 hr8 hc hb8 HRD HB7
    go_wp2
    go_ret
    exact ⟨rfl, HB8.out⟩
theorem alive09 (w : World) : Calls Try.prog 32 #[] w fun e w' => e = .returned (.bool true) ∧ Below w.heap.size w w' := by
  go_enter Try.func32, Try.ntmps32
  go_wp2_with fail
  refine (l_first true false w).mono ?_
  rintro e w1 ⟨rfl, b1⟩
  have B1 := Lib.hid b1
  clear b1
  rw [show firstV true false = 7 from rfl]
  go_wp2_with fail
  refine (l_first true true w1).mono ?_
  rintro e w2 ⟨rfl, b2⟩
  have B2 := Lib.hid (below_to B1.out b2 B1.out.size)
  clear b2
  rw [show firstV true true = 8 from rfl]
  go_wp2_with fail
  refine (l_first false false w2).mono ?_
  rintro e w3 ⟨rfl, b3⟩
  have B3 := Lib.hid (below_to B2.out b3 B2.out.size)
  clear b3
  rw [show firstV false false = 0 from rfl]
  go_wp2
  go_ret
  exact ⟨rfl, B3.out⟩
end Go.Proofs.Ytkaklppkmokffaa
