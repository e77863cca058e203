/-
  The walk of DevNames.
-/
import Derived.Test.YtkaklppkmokffaaLaw09b
import Derived.Test.YtkaklppkmokffaaDevQ
namespace Go.Proofs.Ytkaklppkmokffaa
open Go.RowKit
set_option linter.unusedVariables false
set_option linter.unusedSimpArgs false
set_option maxRecDepth 100000
attribute [local go_sem] str_toList toList_mk

/-! ### plain -/
def ct1l : Ct := ct1.left fun _ => true
theorem ct1l_may : ct1l.May := Ct.left_may ct1_may _
theorem ct1l_at : ct1l.b[20]? = some (ofL 7) := by
  show (leftB newB [(20, ofL 7)] (fun _ => true))[20]? = _
  rw [leftB_get _ _ _ (by rw [newB_len]; decide)]
  rfl
theorem ct1l_get : ct1l.b.getD (20 : Int).toNat [] = ofL 7 := by
  show ct1l.b.getD 20 [] = _
  rw [List.getD_eq_getElem?_getD, ct1l_at]
  rfl
def ctt : Ct := ct1l.tamper 20 3 1
def ofT : List UInt8 := turnB (ofL 7) 3 1
theorem ofT_len : ofT.length = 256 := by rw [ofT, turnB_len, ofL_len]
theorem ctt_may : ctt.May := by
  refine ⟨by show (ct1l.b.set _ _).length = 256; rw [List.length_set]; exact ct1l_may.1, fun x hx => ?_, ct1l_may.2.2.1, ct1l_may.2.2.2⟩
  obtain ⟨j, hj, rfl⟩ := List.mem_iff_getElem.1 (show x ∈ ct1l.b.set 20 _ from hx)
  rw [List.getElem_set]
  split
  · rw [turnB_len, List.getD_eq_getElem?_getD, ct1l_at]
    exact ofL_len 7
  · exact ct1l_may.2.1 _ (List.getElem_mem _)
theorem ctt_get : (ctt.left fun _ => true).b.getD (20 : Int).toNat [] = ofT := by
  show (leftB ctt.b [] (fun _ => true)).getD 20 [] = _
  rw [leftB_nil]
  show (ct1l.b.set 20 (turnB (ct1l.b.getD 20 []) 3 1)).getD 20 [] = _
  have hlt : 20 < ct1l.b.length := by rw [ct1l_may.1]; decide
  rw [List.getD_eq_getElem?_getD, List.getElem?_set_self hlt, List.getD_eq_getElem?_getD, ct1l_at]
  rfl
theorem ofT_2 : (bvs ofT)[2]? = some (.int .u8 7) := rfl
theorem ofT_3 : (bvs ofT)[3]? = some (.int .u8 6) := rfl
theorem not_nil : ¬ Ct.May ⟨[], []⟩ := fun h => by
  have := h.1
  simp at this
theorem ew2 : errW ct1 256 (ofL 7).length = 2 := by
  unfold errW
  rw [decide_eq_false (by decide), errG_arg ct1_may, if_neg (by decide)]
theorem ew3 : errW ct1 1 ((ofL 7).drop 1).length = 3 := by
  unfold errW
  rw [decide_eq_true (by decide), errG_ok ct1_may, if_pos rfl, if_neg]
  rw [List.length_drop, ofL_len]
  decide
theorem cut_came {w : World} {b o c : Nat} {l : List UInt8} (h : Sl.came ⟨some ⟨b, o, none⟩, 256, c, l⟩ w) : Sl.came ⟨some ⟨b, o + 1, none⟩, 255, c - 1, l.drop 1⟩ w := by
  obtain ⟨h1, h2, h3, h4⟩ := h
  simp only at h1 h3 h4
  refine ⟨by rw [List.length_drop, h1], ⟨by rw [bvs_len, List.length_drop, h1]; rfl, fun _ => ?_⟩, by simp only; omega, by simp only; omega⟩
  obtain ⟨b', o', e, hb, hc⟩ := h2.2 (show 0 < 256 by omega)
  cases e
  refine ⟨b, o + 1, rfl, hb, fun j u hu => ?_⟩
  have := hc (1 + j) u (by rw [← hu, bvs_get, bvs_get, List.getElem?_drop])
  rwa [← Nat.add_assoc] at this
theorem came_cell {w : World} {b o c i : Nat} {l : List UInt8} {u : Value} (h : Sl.came ⟨some ⟨b, o, none⟩, 256, c, l⟩ w) (hu : (bvs l)[i]? = some u) : w.cell? ⟨b, o + i, none⟩ = some u := by
  obtain ⟨b', o', e, hb, hc⟩ := h.2.1.2 (show 0 < 256 by omega)
  cases e
  exact hc i u hu
/-! ### the walk -/
def NmR (E : Int) (V : World) (e : Value) (wc : World) : Prop := e = .int .i64 E ∧ Below V.heap.size V wc
structure NmS (x y : Sl) (V : World) : Prop where
  x : x.came V
  y : y.came V
theorem NmS.below {x y : Sl} {V V' : World} (h : NmS x y V) (hb : Below V.heap.size V V') : NmS x y V' := ⟨h.x.below hb, h.y.below hb⟩
set_option maxHeartbeats 4000000 in
theorem devNames_walk (w : World) : Calls Try.prog 10 #[] w fun e w' => e = .returned (.bool true) ∧ Below w.heap.size w w' := by
  go_enter Try.func10, Try.ntmps10
  go_wp2_with fail
  refine (d_new w).mono ?_
  rintro e w1 ⟨d0, rfl, hn0, hb1⟩
  have HN0 := Lib.hid hn0
  have HB1 := Lib.hid hb1
  clear hn0 hb1
  go_wp2_with fail
  refine (l_of 7 w1).mono ?_
  rintro e w2 ⟨s7, rfl, hc7, ho7, hl7, hb2⟩
  have hn2 := HN0.out.below hb2
  obtain ⟨hz1, hz2⟩ := hn2.ok.sizes hn2.cc new_may
  have hwr := d_write d0 w2 hn2.ok (by omega) (by have : Ct.new.w.length = 0 := rfl; omega) 20 ⟨by decide, by decide⟩ s7 hc7 (by have := hc7.1; rw [hl7, ofL_len] at this; omega) 0 (by rw [hl7, hn2.cc]; exact (errW_ok new_may (by decide) (ofL_len 7) (by decide)).symm)
  rw [hl7, hn2.cc] at hwr
  have HWR := Lib.hid hwr
  have HB2 := Lib.hid (below_to HB1.out hb2 HB1.out.size)
  clear hc7 ho7 hl7 hb2 hn2 hz1 hz2 hwr HN0 HB1
  go_wp2_with fail
  refine HWR.out.mono ?_
  rintro e w3 ⟨d1, rfl, hn3, hb3⟩
  rw [if_pos rfl] at hn3
  have hb4 := below_new' w3 (.cells #[.slice d1.A d1.nB d1.cB, .slice d1.W d1.nW d1.cW] 25)
  have HN4 := Lib.hid ((show Nw ct1 _ d1 w3 from hn3).below hb4)
  have HX4 := Lib.hid (DkBox.new w3 (.slice d1.A d1.nB d1.cB) (.slice d1.W d1.nW d1.cW))
  have HB4 := Lib.hid (below_to (below_to HB2.out hb3 HB2.out.size) hb4 (below_to HB2.out hb3 HB2.out.size).size)
  clear hn3 hb3 hb4 HWR HB2
  obtain ⟨hz1, hz2⟩ := HN4.out.ok.sizes HN4.out.cc ct1_may
  have hw1 : ct1.w.length = 1 := rfl
  have HZ := Lib.hid (show d1.nB = 256 ∧ d1.nW = 1 from ⟨hz1, hz2⟩)
  clear hz1 hz2 hw1
  have hfl := d_flush d1 _ HN4.out.ok (by have := HZ.out; omega) (by have := HZ.out; omega) 0 (by rw [HN4.out.cc]; exact (errG_ok ct1_may).symm)
  rw [HN4.out.cc] at hfl
  simp only [Dk.v] at hfl
  have HFL := Lib.hid hfl
  clear hfl
  go_wp2_with fail
  refine HFL.out.mono ?_
  rintro e w5 ⟨f, rfl, hnf, b5⟩
  rw [if_pos rfl] at hnf
  have hb6 := below_new' w5 (.cells #[.slice f.A f.nB f.cB, .slice f.W f.nW f.cW] 25)
  have HNF := Lib.hid ((show Nw ct1l _ f w5 from hnf).below hb6)
  have hx5 := HX4.out.below b5 HX4.out.lt
  have HX6 := Lib.hid (hx5.below hb6 hx5.lt)
  have HN6 := Lib.hid ((HN4.out.below b5).below hb6)
  have HB6 := Lib.hid (below_to (below_to HB4.out b5 HB4.out.size) hb6 (below_to HB4.out b5 HB4.out.size).size)
  clear hnf b5 hb6 hx5 HX4 HN4 HB4 HFL
  obtain ⟨hz1, hz2⟩ := HNF.out.ok.sizes HNF.out.cc ct1l_may
  have hw1 : ct1l.w.length = 0 := rfl
  have htm := d_tamper f _ HNF.out.ok (by omega) (by omega) 20 3 1 ⟨by decide, by decide⟩ ⟨by decide, by decide⟩ 0 (by rw [HNF.out.cc, decide_eq_true (by decide)]; exact (errG_ok ct1l_may).symm)
  rw [HNF.out.cc] at htm
  simp only [Dk.v] at htm
  have HTM := Lib.hid (show Calls _ _ #[_, _, _, .int .u8 1] _ (AnsP ctt 0 _) from htm)
  clear hz1 hz2 hw1 htm
  go_wp2_with fail
  refine HTM.out.mono ?_
  rintro e w7 ⟨t, rfl, hnt, b7⟩
  rw [if_pos rfl] at hnt
  have hb8 := below_new' w7 (.cells #[.slice t.A t.nB t.cB, .slice t.W t.nW t.cW] 25)
  have hx7 := HX6.out.below b7 HX6.out.lt
  have hxl := hx7.lt
  obtain ⟨x0, x1⟩ := hx7.cells
  have HX8 := Lib.hid (hx7.below hb8 hx7.lt)
  have HN8 := Lib.hid ((HN6.out.below b7).below hb8)
  have HNT := Lib.hid (hnt.below hb8)
  have HT8 := Lib.hid (DkBox.new w7 (.slice t.A t.nB t.cB) (.slice t.W t.nW t.cW))
  have HB8 := Lib.hid (below_to (below_to HB6.out b7 HB6.out.size) hb8 (below_to HB6.out b7 HB6.out.size).size)
  clear hnt b7 hb8 hx7 HX6 HN6 HB6 HTM HNF
  have hr1 := d_read d1 _ HN8.out.ok (by have := HZ.out; omega) (by have := HZ.out; omega) 20 ⟨by decide, by decide⟩ 0 (by rw [HN8.out.cc, decide_eq_true (by decide)]; exact (errG_ok ct1_may).symm)
  rw [HN8.out.cc] at hr1
  simp only [Dk.v] at hr1
  have HR1 := Lib.hid hr1
  clear hr1
  go_wp2_with fail
  refine HR1.out.mono ?_
  rintro e w9 ⟨sx, rfl, hsx, -, hlx, b9⟩
  have hlx2 : sx.l = ofL 7 := by
    simp only [if_true] at hlx
    exact hlx.trans ct1l_get
  have hx9 := HX8.out.below b9 HX8.out.lt
  have ht9 := HT8.out.below b9 HT8.out.lt
  have HX9 := Lib.hid hx9
  have HN9 := Lib.hid (HN8.out.below b9)
  have HNT9 := Lib.hid (HNT.out.below b9)
  have HSX := Lib.hid hsx
  have HLX := Lib.hid hlx2
  have HB9 := Lib.hid (below_to HB8.out b9 HB8.out.size)
  clear x0 x1 hxl hsx hlx hlx2 b9 hx9 HX8 HN8 HB8 HNT HT8 HR1
  obtain ⟨t0, t1⟩ := ht9.cells
  clear ht9
  obtain ⟨hz1, hz2⟩ := HNT9.out.ok.sizes HNT9.out.cc ctt_may
  have hw1 : ctt.w.length = 0 := rfl
  have hr2 := d_read t w9 HNT9.out.ok (by omega) (by omega) 20 ⟨by decide, by decide⟩ 0 (by rw [HNT9.out.cc, decide_eq_true (by decide)]; exact (errG_ok ctt_may).symm)
  rw [HNT9.out.cc] at hr2
  simp only [Dk.v] at hr2
  have HR2 := Lib.hid hr2
  clear hr2 hz1 hz2 hw1
  go_wp2_with fail
  refine HR2.out.mono ?_
  rintro e w10 ⟨sy, rfl, hsy, -, hly, b10⟩
  have hly2 : sy.l = ofT := by
    simp only [if_true] at hly
    exact hly.trans ctt_get
  have hx10 := HX9.out.below b10 HX9.out.lt
  have HX10 := Lib.hid hx10
  have HN10 := Lib.hid (HN9.out.below b10)
  have HS10 := Lib.hid (show NmS sx sy w10 from ⟨HSX.out.below b10, hsy⟩)
  have HLY := Lib.hid hly2
  have HB10 := Lib.hid (below_to HB9.out b10 HB9.out.size)
  clear t0 t1 hsy hly hly2 b10 HX9 HN9 HNT9 HB9 HSX HR2
  obtain ⟨x0, x1⟩ := hx10.cells
  clear hx10
  have hcr := d_crash d1 w10 HN10.out.ok (by have := HZ.out; omega) (by have := HZ.out; omega) none 0 0 [] rfl (Rd.nil_) (by decide) 2 (by rw [HN10.out.cc, decide_eq_false (by have := HZ.out; omega)]; exact (errG_arg ct1_may).symm)
  simp only [Dk.v] at hcr
  have HCR := Lib.hid hcr
  clear hcr
  go_wp2_with fail
  refine HCR.out.mono ?_
  rintro e w11 ⟨dc, rfl, -, b11⟩
  have hb12 := below_new' w11 (.cells #[.slice dc.A dc.nB dc.cB, .slice dc.W dc.nW dc.cW] 25)
  have hx11 := HX10.out.below b11 HX10.out.lt
  obtain ⟨W12, hW12⟩ : ∃ V, V = w11.alloc (.cells #[.slice dc.A dc.nB dc.cB, .slice dc.W dc.nW dc.cW] 25) := ⟨_, rfl⟩
  rw [← hW12] at hb12
  have HX12 := Lib.hid (hx11.below hb12 hx11.lt)
  have HN12 := Lib.hid ((HN10.out.below b11).below hb12)
  have HS12 := Lib.hid ((HS10.out.below b11).below hb12)
  have HB12 := Lib.hid (below_to (below_to HB10.out b11 HB10.out.size) hb12 (below_to HB10.out b11 HB10.out.size).size)
  have HW12 := Lib.hid hW12
  clear x0 x1 b11 hb12 hx11 hW12 HX10 HN10 HS10 HB10 HCR
  go_wp2
  rw [← HW12.out]
  clear HW12
  obtain ⟨G, hG⟩ : ∃ G, G = w3.heap.size := ⟨_, rfl⟩
  rw [← hG] at HX12 ⊢
  clear hG
  go_cut [13, 14] from 48 (fun _ e wc => NmR 2 W12 e wc)
  case first =>
    have hwx : DkBox W12.drew G (.slice d1.A d1.nB d1.cB) (.slice d1.W d1.nW d1.cW) := HX12.out
    have hbd := (Below.refl W12.heap.size W12).drew
    have HBD := Lib.hid hbd
    have HND := Lib.hid (HN12.out.below hbd)
    have HGl := Lib.hid HX12.out.lt
    clear hbd
    refine wp_region_held_drew (S := fun V => DkBox V G (.slice d1.A d1.nB d1.cB) (.slice d1.W d1.nW d1.cW)) (by kernel_rfl) hwx (fun hS => ?_)
    refine wpAnyH_take (i := 0) (v := ?_) rfl (by kernel_rfl) (by kernel_rfl) (by kernel_rfl) (fun _ _ _ h => h) (Or.inl ⟨by rfl, ?hyq⟩) hS ?_
    case hyq =>
      intro w hw
      obtain ⟨k0, k1⟩ := hw.cells
      go_simp
      try (with_reducible rfl)
    try go_simp
    refine wpAnyH_ready (rs := [1, 6]) (by kernel_rfl) (by simp) ?_
    refine all_consH rfl (fun K hK => ?_) ?_
    · skip
      refine Stp.mk ?_
      go_simp
      go_wp2_with fail
      refine (l_of 7 _).mono ?_
      rintro e w13 ⟨s8, rfl, hc8, ho8, hl8, hb13⟩
      have hSn := hS.below hb13 hS.lt
      have HB13 := Lib.hid (below_to HBD.out hb13 HBD.out.size)
      have HN13 := Lib.hid (HND.out.below hb13)
      have hs8 : s8.n = 256 := by rw [← hc8.1, hl8, ofL_len]
      obtain ⟨b8, o8, hA8, hbb8, -⟩ := hc8.2.1.2 (by omega)
      obtain ⟨sA, sn, sc, sl⟩ := s8
      simp only at hs8 hA8 hl8
      subst hs8 hA8 hl8
      have hsc : 256 ≤ sc := hc8.2.2.1
      have HC8 := Lib.hid hc8
      clear hc8 ho8 hb13 hbb8
      go_wp2
      refine hK.out _ _ hSn (fun hS => ?_)
      clear hK K hSn
      try go_simp
      refine wpAnyH_ready (rs := [2, 6]) (by kernel_rfl) (by simp) ?_
      refine all_consH rfl (fun K hK => ?_) ?_
      · skip
        refine Stp.mk ?_
        go_simp
        go_wp2_with fail
        have hwr := d_write d1 _ HN13.out.ok (by have := HZ.out; omega) (by have := HZ.out; omega) 256 ⟨by decide, by decide⟩ ⟨some ⟨b8, o8, none⟩, 256, sc, ofL 7⟩ HC8.out (by show ((256 : Nat) : Int) ≤ _; omega) 2 (by rw [HN13.out.cc]; exact ew2.symm)
        simp only [Dk.v] at hwr
        refine hwr.mono ?_
        clear hwr
        rintro e w16 ⟨d', rfl, -, hb16⟩
        have hSn := hS.below hb16 hS.lt
        replace HB13 := Lib.hid (below_to HB13.out hb16 HB13.out.size)
        clear hb16 HN13 HC8
        go_wp2
        refine hK.out _ _ hSn (fun hS => ?_)
        clear hK K hSn
        refine wpAnyH_take (i := 3) (v := ?_) rfl (by kernel_rfl) (by kernel_rfl) (by kernel_rfl) (fun _ _ _ h => h) (Or.inl ⟨by rfl, ?hyq⟩) hS ?_
        case hyq =>
          intro w hw
          go_simp
          try (with_reducible rfl)
        refine wpAnyH_take (i := 4) (v := ?_) rfl (by kernel_rfl) (by kernel_rfl) (by kernel_rfl) (fun _ _ _ h => h) (Or.inl ⟨by rfl, ?hyq⟩) hS ?_
        case hyq =>
          intro w hw
          go_simp
          try (with_reducible rfl)
        refine wpAnyH_take (i := 5) (v := ?_) rfl (by kernel_rfl) (by kernel_rfl) (by kernel_rfl) (fun _ _ _ h => h) (Or.inl ⟨by rfl, ?hyq⟩) hS ?_
        case hyq =>
          intro w hw
          go_simp
          try (with_reducible rfl)
        try go_simp
        refine wpAnyH_ready (rs := [6]) (by kernel_rfl) (by simp) ?_
        refine all_consH rfl (fun K hK => ?_) ?_
        · skip
          obtain ⟨W0, hW0⟩ : ∃ V, V = w16 := ⟨_, rfl⟩
          obtain ⟨g6, hg6⟩ : ∃ b, b = W0.heap.size := ⟨_, rfl⟩
          obtain ⟨w15, hw15⟩ : ∃ W, W = W0.alloc (.cells #[.slice none 0 0, .slice none 0 0] 25) := ⟨_, rfl⟩
          refine stp_run (v := .pointer (some ⟨g6, 0, none⟩)) (w' := w15) rfl (by rw [hg6, hw15, hW0]; go_simp) ?_
          have hb15 := below_new' W0 (.cells #[.slice none 0 0, .slice none 0 0] 25)
          have hy15 := DkBox.new W0 (.slice none 0 0) (.slice none 0 0)
          rw [← hw15] at hb15 hy15
          rw [← hg6] at hy15
          rw [hW0] at hb15 hg6
          have hSn := hS.below hb15 hS.lt
          have HY := Lib.hid hy15
          have HG6 := Lib.hid (show W12.heap.size ≤ g6 from by rw [hg6]; exact HB13.out.size)
          replace HB13 := Lib.hid (below_to HB13.out hb15 HB13.out.size)
          clear hb15 hy15 hw15 hg6 hW0
          refine hK.out _ _ hSn (fun hS => ?_)
          clear hK K hSn
          try go_simp
          refine wpAnyH_ready (rs := [7]) (by kernel_rfl) (by simp) ?_
          refine all_consH rfl (fun K hK => ?_) ?_
          · skip
            refine Stp.mk ?_
            obtain ⟨m0, m1⟩ := HY.out.cells
            have mf := HY.out.frozen
            have hB9 := (HB13.out.setCell (p := ⟨g6, 0, none⟩) HG6.out (.slice d'.A d'.nB d'.cB)).setCell (p := ⟨g6, 1, none⟩) HG6.out (.slice d'.W d'.nW d'.cW)
            have hSn := (hS.set ⟨g6, 0, none⟩ (by have := HG6.out; have := HGl.out; simp; omega) (.slice d'.A d'.nB d'.cB)).set ⟨g6, 1, none⟩ (by have := HG6.out; have := HGl.out; simp; omega) (.slice d'.W d'.nW d'.cW)
            go_simp
            clear m0 m1 mf
            refine hK.out _ _ hSn (fun hS => ?_)
            clear hK K hSn
            try go_simp
            refine wpAnyH_ready (rs := [8]) (by kernel_rfl) (by simp) ?_
            refine all_consH rfl (fun K hK => ?_) ?_
            · skip
              refine Stp.mk ?_
              go_simp
              have hSn := hS
              refine hK.out _ _ hSn (fun hS => ?_)
              clear hK K hSn
              refine wpAnyH_done (by kernel_rfl) ?_ _
              go_wp2
              go_meet
              case rel => exact ⟨rfl, hB9⟩
            exact AllReadyH.nil
          exact AllReadyH.nil
        exact AllReadyH.nil
      refine all_consH rfl (fun K hK => ?_) ?_
      · skip
        obtain ⟨W0, hW0⟩ : ∃ V, V = w13 := ⟨_, rfl⟩
        obtain ⟨g6, hg6⟩ : ∃ b, b = W0.heap.size := ⟨_, rfl⟩
        obtain ⟨w15, hw15⟩ : ∃ W, W = W0.alloc (.cells #[.slice none 0 0, .slice none 0 0] 25) := ⟨_, rfl⟩
        refine stp_run (v := .pointer (some ⟨g6, 0, none⟩)) (w' := w15) rfl (by rw [hg6, hw15, hW0]; go_simp) ?_
        have hb15 := below_new' W0 (.cells #[.slice none 0 0, .slice none 0 0] 25)
        have hy15 := DkBox.new W0 (.slice none 0 0) (.slice none 0 0)
        rw [← hw15] at hb15 hy15
        rw [← hg6] at hy15
        rw [hW0] at hb15 hg6
        have hSn := hS.below hb15 hS.lt
        have HY := Lib.hid hy15
        have HG6 := Lib.hid (show W12.heap.size ≤ g6 from by rw [hg6]; exact HB13.out.size)
        replace HB13 := Lib.hid (below_to HB13.out hb15 HB13.out.size)
        replace HN13 := Lib.hid (HN13.out.below hb15)
        replace HC8 := Lib.hid (HC8.out.below hb15)
        clear hb15 hy15 hw15 hg6 hW0
        refine hK.out _ _ hSn (fun hS => ?_)
        clear hK K hSn
        try go_simp
        refine wpAnyH_ready (rs := [2]) (by kernel_rfl) (by simp) ?_
        refine all_consH rfl (fun K hK => ?_) ?_
        · skip
          refine Stp.mk ?_
          go_simp
          go_wp2_with fail
          have hwr := d_write d1 _ HN13.out.ok (by have := HZ.out; omega) (by have := HZ.out; omega) 256 ⟨by decide, by decide⟩ ⟨some ⟨b8, o8, none⟩, 256, sc, ofL 7⟩ HC8.out (by show ((256 : Nat) : Int) ≤ _; omega) 2 (by rw [HN13.out.cc]; exact ew2.symm)
          simp only [Dk.v] at hwr
          refine hwr.mono ?_
          clear hwr
          rintro e w16 ⟨d', rfl, -, hb16⟩
          have hSn := hS.below hb16 hS.lt
          replace HB13 := Lib.hid (below_to HB13.out hb16 HB13.out.size)
          replace HY := Lib.hid (HY.out.below hb16 HY.out.lt)
          clear hb16 HN13 HC8
          go_wp2
          refine hK.out _ _ hSn (fun hS => ?_)
          clear hK K hSn
          refine wpAnyH_take (i := 3) (v := ?_) rfl (by kernel_rfl) (by kernel_rfl) (by kernel_rfl) (fun _ _ _ h => h) (Or.inl ⟨by rfl, ?hyq⟩) hS ?_
          case hyq =>
            intro w hw
            go_simp
            try (with_reducible rfl)
          refine wpAnyH_take (i := 4) (v := ?_) rfl (by kernel_rfl) (by kernel_rfl) (by kernel_rfl) (fun _ _ _ h => h) (Or.inl ⟨by rfl, ?hyq⟩) hS ?_
          case hyq =>
            intro w hw
            go_simp
            try (with_reducible rfl)
          refine wpAnyH_take (i := 5) (v := ?_) rfl (by kernel_rfl) (by kernel_rfl) (by kernel_rfl) (fun _ _ _ h => h) (Or.inl ⟨by rfl, ?hyq⟩) hS ?_
          case hyq =>
            intro w hw
            go_simp
            try (with_reducible rfl)
          try go_simp
          refine wpAnyH_ready (rs := [7]) (by kernel_rfl) (by simp) ?_
          refine all_consH rfl (fun K hK => ?_) ?_
          · skip
            refine Stp.mk ?_
            obtain ⟨m0, m1⟩ := HY.out.cells
            have mf := HY.out.frozen
            have hB9 := (HB13.out.setCell (p := ⟨g6, 0, none⟩) HG6.out (.slice d'.A d'.nB d'.cB)).setCell (p := ⟨g6, 1, none⟩) HG6.out (.slice d'.W d'.nW d'.cW)
            have hSn := (hS.set ⟨g6, 0, none⟩ (by have := HG6.out; have := HGl.out; simp; omega) (.slice d'.A d'.nB d'.cB)).set ⟨g6, 1, none⟩ (by have := HG6.out; have := HGl.out; simp; omega) (.slice d'.W d'.nW d'.cW)
            go_simp
            clear m0 m1 mf
            refine hK.out _ _ hSn (fun hS => ?_)
            clear hK K hSn
            try go_simp
            refine wpAnyH_ready (rs := [8]) (by kernel_rfl) (by simp) ?_
            refine all_consH rfl (fun K hK => ?_) ?_
            · skip
              refine Stp.mk ?_
              go_simp
              have hSn := hS
              refine hK.out _ _ hSn (fun hS => ?_)
              clear hK K hSn
              refine wpAnyH_done (by kernel_rfl) ?_ _
              go_wp2
              go_meet
              case rel => exact ⟨rfl, hB9⟩
            exact AllReadyH.nil
          exact AllReadyH.nil
        exact AllReadyH.nil
      exact AllReadyH.nil
    refine all_consH rfl (fun K hK => ?_) ?_
    · skip
      obtain ⟨W0, hW0⟩ : ∃ V, V = W12.drew := ⟨_, rfl⟩
      obtain ⟨g6, hg6⟩ : ∃ b, b = W0.heap.size := ⟨_, rfl⟩
      obtain ⟨w15, hw15⟩ : ∃ W, W = W0.alloc (.cells #[.slice none 0 0, .slice none 0 0] 25) := ⟨_, rfl⟩
      refine stp_run (v := .pointer (some ⟨g6, 0, none⟩)) (w' := w15) rfl (by rw [hg6, hw15, hW0]; go_simp) ?_
      have hb15 := below_new' W0 (.cells #[.slice none 0 0, .slice none 0 0] 25)
      have hy15 := DkBox.new W0 (.slice none 0 0) (.slice none 0 0)
      rw [← hw15] at hb15 hy15
      rw [← hg6] at hy15
      rw [hW0] at hb15 hg6
      have hSn := hS.below hb15 hS.lt
      have HY := Lib.hid hy15
      have HG6 := Lib.hid (show W12.heap.size ≤ g6 from by rw [hg6]; exact Nat.le_refl _)
      have HB15 := Lib.hid (below_to HBD.out hb15 HBD.out.size)
      have HN15 := Lib.hid (HND.out.below hb15)
      clear hb15 hy15 hw15 hg6 hW0
      refine hK.out _ _ hSn (fun hS => ?_)
      clear hK K hSn
      try go_simp
      refine wpAnyH_ready (rs := [1]) (by kernel_rfl) (by simp) ?_
      refine all_consH rfl (fun K hK => ?_) ?_
      · skip
        refine Stp.mk ?_
        go_simp
        go_wp2_with fail
        refine (l_of 7 _).mono ?_
        rintro e w13 ⟨s8, rfl, hc8, ho8, hl8, hb13⟩
        have hSn := hS.below hb13 hS.lt
        have HB13 := Lib.hid (below_to HB15.out hb13 HB15.out.size)
        have HN13 := Lib.hid (HN15.out.below hb13)
        replace HY := Lib.hid (HY.out.below hb13 HY.out.lt)
        have hs8 : s8.n = 256 := by rw [← hc8.1, hl8, ofL_len]
        obtain ⟨b8, o8, hA8, hbb8, -⟩ := hc8.2.1.2 (by omega)
        obtain ⟨sA, sn, sc, sl⟩ := s8
        simp only at hs8 hA8 hl8
        subst hs8 hA8 hl8
        have hsc : 256 ≤ sc := hc8.2.2.1
        have HC8 := Lib.hid hc8
        clear hc8 ho8 hb13 hbb8
        go_wp2
        refine hK.out _ _ hSn (fun hS => ?_)
        clear hK K hSn
        try go_simp
        refine wpAnyH_ready (rs := [2]) (by kernel_rfl) (by simp) ?_
        refine all_consH rfl (fun K hK => ?_) ?_
        · skip
          refine Stp.mk ?_
          go_simp
          go_wp2_with fail
          have hwr := d_write d1 _ HN13.out.ok (by have := HZ.out; omega) (by have := HZ.out; omega) 256 ⟨by decide, by decide⟩ ⟨some ⟨b8, o8, none⟩, 256, sc, ofL 7⟩ HC8.out (by show ((256 : Nat) : Int) ≤ _; omega) 2 (by rw [HN13.out.cc]; exact ew2.symm)
          simp only [Dk.v] at hwr
          refine hwr.mono ?_
          clear hwr
          rintro e w16 ⟨d', rfl, -, hb16⟩
          have hSn := hS.below hb16 hS.lt
          replace HB13 := Lib.hid (below_to HB13.out hb16 HB13.out.size)
          replace HY := Lib.hid (HY.out.below hb16 HY.out.lt)
          clear hb16 HN13 HC8
          go_wp2
          refine hK.out _ _ hSn (fun hS => ?_)
          clear hK K hSn
          refine wpAnyH_take (i := 3) (v := ?_) rfl (by kernel_rfl) (by kernel_rfl) (by kernel_rfl) (fun _ _ _ h => h) (Or.inl ⟨by rfl, ?hyq⟩) hS ?_
          case hyq =>
            intro w hw
            go_simp
            try (with_reducible rfl)
          refine wpAnyH_take (i := 4) (v := ?_) rfl (by kernel_rfl) (by kernel_rfl) (by kernel_rfl) (fun _ _ _ h => h) (Or.inl ⟨by rfl, ?hyq⟩) hS ?_
          case hyq =>
            intro w hw
            go_simp
            try (with_reducible rfl)
          refine wpAnyH_take (i := 5) (v := ?_) rfl (by kernel_rfl) (by kernel_rfl) (by kernel_rfl) (fun _ _ _ h => h) (Or.inl ⟨by rfl, ?hyq⟩) hS ?_
          case hyq =>
            intro w hw
            go_simp
            try (with_reducible rfl)
          try go_simp
          refine wpAnyH_ready (rs := [7]) (by kernel_rfl) (by simp) ?_
          refine all_consH rfl (fun K hK => ?_) ?_
          · skip
            refine Stp.mk ?_
            obtain ⟨m0, m1⟩ := HY.out.cells
            have mf := HY.out.frozen
            have hB9 := (HB13.out.setCell (p := ⟨g6, 0, none⟩) HG6.out (.slice d'.A d'.nB d'.cB)).setCell (p := ⟨g6, 1, none⟩) HG6.out (.slice d'.W d'.nW d'.cW)
            have hSn := (hS.set ⟨g6, 0, none⟩ (by have := HG6.out; have := HGl.out; simp; omega) (.slice d'.A d'.nB d'.cB)).set ⟨g6, 1, none⟩ (by have := HG6.out; have := HGl.out; simp; omega) (.slice d'.W d'.nW d'.cW)
            go_simp
            clear m0 m1 mf
            refine hK.out _ _ hSn (fun hS => ?_)
            clear hK K hSn
            try go_simp
            refine wpAnyH_ready (rs := [8]) (by kernel_rfl) (by simp) ?_
            refine all_consH rfl (fun K hK => ?_) ?_
            · skip
              refine Stp.mk ?_
              go_simp
              have hSn := hS
              refine hK.out _ _ hSn (fun hS => ?_)
              clear hK K hSn
              refine wpAnyH_done (by kernel_rfl) ?_ _
              go_wp2
              go_meet
              case rel => exact ⟨rfl, hB9⟩
            exact AllReadyH.nil
          exact AllReadyH.nil
        exact AllReadyH.nil
      exact AllReadyH.nil
    exact AllReadyH.nil
  case rest =>
  obtain ⟨rfl, hb⟩ := hcut
  obtain ⟨V13, rfl⟩ : ∃ V : World, V = wc := ⟨_, rfl⟩
  replace HX12 := Lib.hid (HX12.out.below hb HX12.out.lt)
  replace HN12 := Lib.hid (HN12.out.below hb)
  replace HS12 := Lib.hid (HS12.out.below hb)
  replace HB12 := Lib.hid (below_to HB12.out hb HB12.out.size)
  clear hb
  go_wp2
  go_cut [15, 16] from 54 (fun _ e wc => NmR 3 V13 e wc)
  case first =>
    have hwx : DkBox V13.drew G (.slice d1.A d1.nB d1.cB) (.slice d1.W d1.nW d1.cW) := HX12.out
    have hbd := (Below.refl V13.heap.size V13).drew
    have HBD := Lib.hid hbd
    have HND := Lib.hid (HN12.out.below hbd)
    have HGl := Lib.hid HX12.out.lt
    clear hbd
    refine wp_region_held_drew (S := fun V => DkBox V G (.slice d1.A d1.nB d1.cB) (.slice d1.W d1.nW d1.cW)) (by kernel_rfl) hwx (fun hS => ?_)
    refine wpAnyH_take (i := 0) (v := ?_) rfl (by kernel_rfl) (by kernel_rfl) (by kernel_rfl) (fun _ _ _ h => h) (Or.inl ⟨by rfl, ?hyq⟩) hS ?_
    case hyq =>
      intro w hw
      obtain ⟨k0, k1⟩ := hw.cells
      go_simp
      try (with_reducible rfl)
    try go_simp
    refine wpAnyH_ready (rs := [1, 7]) (by kernel_rfl) (by simp) ?_
    refine all_consH rfl (fun K hK => ?_) ?_
    · skip
      refine Stp.mk ?_
      go_simp
      go_wp2_with fail
      refine (l_of 7 _).mono ?_
      rintro e w13 ⟨s8, rfl, hc8, ho8, hl8, hb13⟩
      have hSn := hS.below hb13 hS.lt
      have HB13 := Lib.hid (below_to HBD.out hb13 HBD.out.size)
      have HN13 := Lib.hid (HND.out.below hb13)
      have hs8 : s8.n = 256 := by rw [← hc8.1, hl8, ofL_len]
      obtain ⟨b8, o8, hA8, hbb8, -⟩ := hc8.2.1.2 (by omega)
      obtain ⟨sA, sn, sc, sl⟩ := s8
      simp only at hs8 hA8 hl8
      subst hs8 hA8 hl8
      have hsc : 256 ≤ sc := hc8.2.2.1
      have HC8 := Lib.hid hc8
      clear hc8 ho8 hb13 hbb8
      go_wp2
      refine hK.out _ _ hSn (fun hS => ?_)
      clear hK K hSn
      try go_simp
      refine wpAnyH_ready (rs := [2, 7]) (by kernel_rfl) (by simp) ?_
      refine all_consH rfl (fun K hK => ?_) ?_
      · skip
        refine Stp.mk ?_
        have hsc1 : ¬ (sc = 1) := by omega
        have hsc2 : ¬ ((256 : Int) < 1) := by decide
        go_simp
        have hSn := hS
        have HC9 := Lib.hid (show Sl.came ⟨some ⟨b8, o8 + 1, none⟩, 255, sc - 1, (ofL 7).drop 1⟩ _ from cut_came HC8.out)
        refine hK.out _ _ hSn (fun hS => ?_)
        clear hK K hSn
        try go_simp
        refine wpAnyH_ready (rs := [3, 7]) (by kernel_rfl) (by simp) ?_
        refine all_consH rfl (fun K hK => ?_) ?_
        · skip
          refine Stp.mk ?_
          go_simp
          go_wp2_with fail
          have hwr := d_write d1 _ HN13.out.ok (by have := HZ.out; omega) (by have := HZ.out; omega) 1 ⟨by decide, by decide⟩ ⟨some ⟨b8, o8 + 1, none⟩, 255, sc - 1, (ofL 7).drop 1⟩ HC9.out (by show ((255 : Nat) : Int) ≤ _; omega) 3 (by rw [HN13.out.cc]; exact ew3.symm)
          simp only [Dk.v] at hwr
          refine hwr.mono ?_
          clear hwr
          rintro e w16 ⟨d', rfl, -, hb16⟩
          have hSn := hS.below hb16 hS.lt
          replace HB13 := Lib.hid (below_to HB13.out hb16 HB13.out.size)
          clear hb16 HN13 HC8
          clear HC9
          go_wp2
          refine hK.out _ _ hSn (fun hS => ?_)
          clear hK K hSn
          refine wpAnyH_take (i := 4) (v := ?_) rfl (by kernel_rfl) (by kernel_rfl) (by kernel_rfl) (fun _ _ _ h => h) (Or.inl ⟨by rfl, ?hyq⟩) hS ?_
          case hyq =>
            intro w hw
            go_simp
            try (with_reducible rfl)
          refine wpAnyH_take (i := 5) (v := ?_) rfl (by kernel_rfl) (by kernel_rfl) (by kernel_rfl) (fun _ _ _ h => h) (Or.inl ⟨by rfl, ?hyq⟩) hS ?_
          case hyq =>
            intro w hw
            go_simp
            try (with_reducible rfl)
          refine wpAnyH_take (i := 6) (v := ?_) rfl (by kernel_rfl) (by kernel_rfl) (by kernel_rfl) (fun _ _ _ h => h) (Or.inl ⟨by rfl, ?hyq⟩) hS ?_
          case hyq =>
            intro w hw
            go_simp
            try (with_reducible rfl)
          try go_simp
          refine wpAnyH_ready (rs := [7]) (by kernel_rfl) (by simp) ?_
          refine all_consH rfl (fun K hK => ?_) ?_
          · skip
            obtain ⟨W0, hW0⟩ : ∃ V, V = w16 := ⟨_, rfl⟩
            obtain ⟨g6, hg6⟩ : ∃ b, b = W0.heap.size := ⟨_, rfl⟩
            obtain ⟨w15, hw15⟩ : ∃ W, W = W0.alloc (.cells #[.slice none 0 0, .slice none 0 0] 25) := ⟨_, rfl⟩
            refine stp_run (v := .pointer (some ⟨g6, 0, none⟩)) (w' := w15) rfl (by rw [hg6, hw15, hW0]; go_simp) ?_
            have hb15 := below_new' W0 (.cells #[.slice none 0 0, .slice none 0 0] 25)
            have hy15 := DkBox.new W0 (.slice none 0 0) (.slice none 0 0)
            rw [← hw15] at hb15 hy15
            rw [← hg6] at hy15
            rw [hW0] at hb15 hg6
            have hSn := hS.below hb15 hS.lt
            have HY := Lib.hid hy15
            have HG6 := Lib.hid (show V13.heap.size ≤ g6 from by rw [hg6]; exact HB13.out.size)
            replace HB13 := Lib.hid (below_to HB13.out hb15 HB13.out.size)
            clear hb15 hy15 hw15 hg6 hW0
            refine hK.out _ _ hSn (fun hS => ?_)
            clear hK K hSn
            try go_simp
            refine wpAnyH_ready (rs := [8]) (by kernel_rfl) (by simp) ?_
            refine all_consH rfl (fun K hK => ?_) ?_
            · skip
              refine Stp.mk ?_
              obtain ⟨m0, m1⟩ := HY.out.cells
              have mf := HY.out.frozen
              have hB9 := (HB13.out.setCell (p := ⟨g6, 0, none⟩) HG6.out (.slice d'.A d'.nB d'.cB)).setCell (p := ⟨g6, 1, none⟩) HG6.out (.slice d'.W d'.nW d'.cW)
              have hSn := (hS.set ⟨g6, 0, none⟩ (by have := HG6.out; have := HGl.out; simp; omega) (.slice d'.A d'.nB d'.cB)).set ⟨g6, 1, none⟩ (by have := HG6.out; have := HGl.out; simp; omega) (.slice d'.W d'.nW d'.cW)
              go_simp
              clear m0 m1 mf
              refine hK.out _ _ hSn (fun hS => ?_)
              clear hK K hSn
              try go_simp
              refine wpAnyH_ready (rs := [9]) (by kernel_rfl) (by simp) ?_
              refine all_consH rfl (fun K hK => ?_) ?_
              · skip
                refine Stp.mk ?_
                go_simp
                have hSn := hS
                refine hK.out _ _ hSn (fun hS => ?_)
                clear hK K hSn
                refine wpAnyH_done (by kernel_rfl) ?_ _
                go_wp2
                go_meet
                case rel => exact ⟨rfl, hB9⟩
              exact AllReadyH.nil
            exact AllReadyH.nil
          exact AllReadyH.nil
        refine all_consH rfl (fun K hK => ?_) ?_
        · skip
          obtain ⟨W0, hW0⟩ : ∃ V, V = w13 := ⟨_, rfl⟩
          obtain ⟨g6, hg6⟩ : ∃ b, b = W0.heap.size := ⟨_, rfl⟩
          obtain ⟨w15, hw15⟩ : ∃ W, W = W0.alloc (.cells #[.slice none 0 0, .slice none 0 0] 25) := ⟨_, rfl⟩
          refine stp_run (v := .pointer (some ⟨g6, 0, none⟩)) (w' := w15) rfl (by rw [hg6, hw15, hW0]; go_simp) ?_
          have hb15 := below_new' W0 (.cells #[.slice none 0 0, .slice none 0 0] 25)
          have hy15 := DkBox.new W0 (.slice none 0 0) (.slice none 0 0)
          rw [← hw15] at hb15 hy15
          rw [← hg6] at hy15
          rw [hW0] at hb15 hg6
          have hSn := hS.below hb15 hS.lt
          have HY := Lib.hid hy15
          have HG6 := Lib.hid (show V13.heap.size ≤ g6 from by rw [hg6]; exact HB13.out.size)
          replace HB13 := Lib.hid (below_to HB13.out hb15 HB13.out.size)
          replace HN13 := Lib.hid (HN13.out.below hb15)
          replace HC8 := Lib.hid (HC8.out.below hb15)
          replace HC9 := Lib.hid (HC9.out.below hb15)
          clear hb15 hy15 hw15 hg6 hW0
          refine hK.out _ _ hSn (fun hS => ?_)
          clear hK K hSn
          try go_simp
          refine wpAnyH_ready (rs := [3]) (by kernel_rfl) (by simp) ?_
          refine all_consH rfl (fun K hK => ?_) ?_
          · skip
            refine Stp.mk ?_
            go_simp
            go_wp2_with fail
            have hwr := d_write d1 _ HN13.out.ok (by have := HZ.out; omega) (by have := HZ.out; omega) 1 ⟨by decide, by decide⟩ ⟨some ⟨b8, o8 + 1, none⟩, 255, sc - 1, (ofL 7).drop 1⟩ HC9.out (by show ((255 : Nat) : Int) ≤ _; omega) 3 (by rw [HN13.out.cc]; exact ew3.symm)
            simp only [Dk.v] at hwr
            refine hwr.mono ?_
            clear hwr
            rintro e w16 ⟨d', rfl, -, hb16⟩
            have hSn := hS.below hb16 hS.lt
            replace HB13 := Lib.hid (below_to HB13.out hb16 HB13.out.size)
            replace HY := Lib.hid (HY.out.below hb16 HY.out.lt)
            clear hb16 HN13 HC8
            clear HC9
            go_wp2
            refine hK.out _ _ hSn (fun hS => ?_)
            clear hK K hSn
            refine wpAnyH_take (i := 4) (v := ?_) rfl (by kernel_rfl) (by kernel_rfl) (by kernel_rfl) (fun _ _ _ h => h) (Or.inl ⟨by rfl, ?hyq⟩) hS ?_
            case hyq =>
              intro w hw
              go_simp
              try (with_reducible rfl)
            refine wpAnyH_take (i := 5) (v := ?_) rfl (by kernel_rfl) (by kernel_rfl) (by kernel_rfl) (fun _ _ _ h => h) (Or.inl ⟨by rfl, ?hyq⟩) hS ?_
            case hyq =>
              intro w hw
              go_simp
              try (with_reducible rfl)
            refine wpAnyH_take (i := 6) (v := ?_) rfl (by kernel_rfl) (by kernel_rfl) (by kernel_rfl) (fun _ _ _ h => h) (Or.inl ⟨by rfl, ?hyq⟩) hS ?_
            case hyq =>
              intro w hw
              go_simp
              try (with_reducible rfl)
            try go_simp
            refine wpAnyH_ready (rs := [8]) (by kernel_rfl) (by simp) ?_
            refine all_consH rfl (fun K hK => ?_) ?_
            · skip
              refine Stp.mk ?_
              obtain ⟨m0, m1⟩ := HY.out.cells
              have mf := HY.out.frozen
              have hB9 := (HB13.out.setCell (p := ⟨g6, 0, none⟩) HG6.out (.slice d'.A d'.nB d'.cB)).setCell (p := ⟨g6, 1, none⟩) HG6.out (.slice d'.W d'.nW d'.cW)
              have hSn := (hS.set ⟨g6, 0, none⟩ (by have := HG6.out; have := HGl.out; simp; omega) (.slice d'.A d'.nB d'.cB)).set ⟨g6, 1, none⟩ (by have := HG6.out; have := HGl.out; simp; omega) (.slice d'.W d'.nW d'.cW)
              go_simp
              clear m0 m1 mf
              refine hK.out _ _ hSn (fun hS => ?_)
              clear hK K hSn
              try go_simp
              refine wpAnyH_ready (rs := [9]) (by kernel_rfl) (by simp) ?_
              refine all_consH rfl (fun K hK => ?_) ?_
              · skip
                refine Stp.mk ?_
                go_simp
                have hSn := hS
                refine hK.out _ _ hSn (fun hS => ?_)
                clear hK K hSn
                refine wpAnyH_done (by kernel_rfl) ?_ _
                go_wp2
                go_meet
                case rel => exact ⟨rfl, hB9⟩
              exact AllReadyH.nil
            exact AllReadyH.nil
          exact AllReadyH.nil
        exact AllReadyH.nil
      refine all_consH rfl (fun K hK => ?_) ?_
      · skip
        obtain ⟨W0, hW0⟩ : ∃ V, V = w13 := ⟨_, rfl⟩
        obtain ⟨g6, hg6⟩ : ∃ b, b = W0.heap.size := ⟨_, rfl⟩
        obtain ⟨w15, hw15⟩ : ∃ W, W = W0.alloc (.cells #[.slice none 0 0, .slice none 0 0] 25) := ⟨_, rfl⟩
        refine stp_run (v := .pointer (some ⟨g6, 0, none⟩)) (w' := w15) rfl (by rw [hg6, hw15, hW0]; go_simp) ?_
        have hb15 := below_new' W0 (.cells #[.slice none 0 0, .slice none 0 0] 25)
        have hy15 := DkBox.new W0 (.slice none 0 0) (.slice none 0 0)
        rw [← hw15] at hb15 hy15
        rw [← hg6] at hy15
        rw [hW0] at hb15 hg6
        have hSn := hS.below hb15 hS.lt
        have HY := Lib.hid hy15
        have HG6 := Lib.hid (show V13.heap.size ≤ g6 from by rw [hg6]; exact HB13.out.size)
        replace HB13 := Lib.hid (below_to HB13.out hb15 HB13.out.size)
        replace HN13 := Lib.hid (HN13.out.below hb15)
        replace HC8 := Lib.hid (HC8.out.below hb15)
        clear hb15 hy15 hw15 hg6 hW0
        refine hK.out _ _ hSn (fun hS => ?_)
        clear hK K hSn
        try go_simp
        refine wpAnyH_ready (rs := [2]) (by kernel_rfl) (by simp) ?_
        refine all_consH rfl (fun K hK => ?_) ?_
        · skip
          refine Stp.mk ?_
          have hsc1 : ¬ (sc = 1) := by omega
          have hsc2 : ¬ ((256 : Int) < 1) := by decide
          go_simp
          have hSn := hS
          have HC9 := Lib.hid (show Sl.came ⟨some ⟨b8, o8 + 1, none⟩, 255, sc - 1, (ofL 7).drop 1⟩ _ from cut_came HC8.out)
          refine hK.out _ _ hSn (fun hS => ?_)
          clear hK K hSn
          try go_simp
          refine wpAnyH_ready (rs := [3]) (by kernel_rfl) (by simp) ?_
          refine all_consH rfl (fun K hK => ?_) ?_
          · skip
            refine Stp.mk ?_
            go_simp
            go_wp2_with fail
            have hwr := d_write d1 _ HN13.out.ok (by have := HZ.out; omega) (by have := HZ.out; omega) 1 ⟨by decide, by decide⟩ ⟨some ⟨b8, o8 + 1, none⟩, 255, sc - 1, (ofL 7).drop 1⟩ HC9.out (by show ((255 : Nat) : Int) ≤ _; omega) 3 (by rw [HN13.out.cc]; exact ew3.symm)
            simp only [Dk.v] at hwr
            refine hwr.mono ?_
            clear hwr
            rintro e w16 ⟨d', rfl, -, hb16⟩
            have hSn := hS.below hb16 hS.lt
            replace HB13 := Lib.hid (below_to HB13.out hb16 HB13.out.size)
            replace HY := Lib.hid (HY.out.below hb16 HY.out.lt)
            clear hb16 HN13 HC8
            clear HC9
            go_wp2
            refine hK.out _ _ hSn (fun hS => ?_)
            clear hK K hSn
            refine wpAnyH_take (i := 4) (v := ?_) rfl (by kernel_rfl) (by kernel_rfl) (by kernel_rfl) (fun _ _ _ h => h) (Or.inl ⟨by rfl, ?hyq⟩) hS ?_
            case hyq =>
              intro w hw
              go_simp
              try (with_reducible rfl)
            refine wpAnyH_take (i := 5) (v := ?_) rfl (by kernel_rfl) (by kernel_rfl) (by kernel_rfl) (fun _ _ _ h => h) (Or.inl ⟨by rfl, ?hyq⟩) hS ?_
            case hyq =>
              intro w hw
              go_simp
              try (with_reducible rfl)
            refine wpAnyH_take (i := 6) (v := ?_) rfl (by kernel_rfl) (by kernel_rfl) (by kernel_rfl) (fun _ _ _ h => h) (Or.inl ⟨by rfl, ?hyq⟩) hS ?_
            case hyq =>
              intro w hw
              go_simp
              try (with_reducible rfl)
            try go_simp
            refine wpAnyH_ready (rs := [8]) (by kernel_rfl) (by simp) ?_
            refine all_consH rfl (fun K hK => ?_) ?_
            · skip
              refine Stp.mk ?_
              obtain ⟨m0, m1⟩ := HY.out.cells
              have mf := HY.out.frozen
              have hB9 := (HB13.out.setCell (p := ⟨g6, 0, none⟩) HG6.out (.slice d'.A d'.nB d'.cB)).setCell (p := ⟨g6, 1, none⟩) HG6.out (.slice d'.W d'.nW d'.cW)
              have hSn := (hS.set ⟨g6, 0, none⟩ (by have := HG6.out; have := HGl.out; simp; omega) (.slice d'.A d'.nB d'.cB)).set ⟨g6, 1, none⟩ (by have := HG6.out; have := HGl.out; simp; omega) (.slice d'.W d'.nW d'.cW)
              go_simp
              clear m0 m1 mf
              refine hK.out _ _ hSn (fun hS => ?_)
              clear hK K hSn
              try go_simp
              refine wpAnyH_ready (rs := [9]) (by kernel_rfl) (by simp) ?_
              refine all_consH rfl (fun K hK => ?_) ?_
              · skip
                refine Stp.mk ?_
                go_simp
                have hSn := hS
                refine hK.out _ _ hSn (fun hS => ?_)
                clear hK K hSn
                refine wpAnyH_done (by kernel_rfl) ?_ _
                go_wp2
                go_meet
                case rel => exact ⟨rfl, hB9⟩
              exact AllReadyH.nil
            exact AllReadyH.nil
          exact AllReadyH.nil
        exact AllReadyH.nil
      exact AllReadyH.nil
    refine all_consH rfl (fun K hK => ?_) ?_
    · skip
      obtain ⟨W0, hW0⟩ : ∃ V, V = V13.drew := ⟨_, rfl⟩
      obtain ⟨g6, hg6⟩ : ∃ b, b = W0.heap.size := ⟨_, rfl⟩
      obtain ⟨w15, hw15⟩ : ∃ W, W = W0.alloc (.cells #[.slice none 0 0, .slice none 0 0] 25) := ⟨_, rfl⟩
      refine stp_run (v := .pointer (some ⟨g6, 0, none⟩)) (w' := w15) rfl (by rw [hg6, hw15, hW0]; go_simp) ?_
      have hb15 := below_new' W0 (.cells #[.slice none 0 0, .slice none 0 0] 25)
      have hy15 := DkBox.new W0 (.slice none 0 0) (.slice none 0 0)
      rw [← hw15] at hb15 hy15
      rw [← hg6] at hy15
      rw [hW0] at hb15 hg6
      have hSn := hS.below hb15 hS.lt
      have HY := Lib.hid hy15
      have HG6 := Lib.hid (show V13.heap.size ≤ g6 from by rw [hg6]; exact Nat.le_refl _)
      have HB15 := Lib.hid (below_to HBD.out hb15 HBD.out.size)
      have HN15 := Lib.hid (HND.out.below hb15)
      clear hb15 hy15 hw15 hg6 hW0
      refine hK.out _ _ hSn (fun hS => ?_)
      clear hK K hSn
      try go_simp
      refine wpAnyH_ready (rs := [1]) (by kernel_rfl) (by simp) ?_
      refine all_consH rfl (fun K hK => ?_) ?_
      · skip
        refine Stp.mk ?_
        go_simp
        go_wp2_with fail
        refine (l_of 7 _).mono ?_
        rintro e w13 ⟨s8, rfl, hc8, ho8, hl8, hb13⟩
        have hSn := hS.below hb13 hS.lt
        have HB13 := Lib.hid (below_to HB15.out hb13 HB15.out.size)
        have HN13 := Lib.hid (HN15.out.below hb13)
        replace HY := Lib.hid (HY.out.below hb13 HY.out.lt)
        have hs8 : s8.n = 256 := by rw [← hc8.1, hl8, ofL_len]
        obtain ⟨b8, o8, hA8, hbb8, -⟩ := hc8.2.1.2 (by omega)
        obtain ⟨sA, sn, sc, sl⟩ := s8
        simp only at hs8 hA8 hl8
        subst hs8 hA8 hl8
        have hsc : 256 ≤ sc := hc8.2.2.1
        have HC8 := Lib.hid hc8
        clear hc8 ho8 hb13 hbb8
        go_wp2
        refine hK.out _ _ hSn (fun hS => ?_)
        clear hK K hSn
        try go_simp
        refine wpAnyH_ready (rs := [2]) (by kernel_rfl) (by simp) ?_
        refine all_consH rfl (fun K hK => ?_) ?_
        · skip
          refine Stp.mk ?_
          have hsc1 : ¬ (sc = 1) := by omega
          have hsc2 : ¬ ((256 : Int) < 1) := by decide
          go_simp
          have hSn := hS
          have HC9 := Lib.hid (show Sl.came ⟨some ⟨b8, o8 + 1, none⟩, 255, sc - 1, (ofL 7).drop 1⟩ _ from cut_came HC8.out)
          refine hK.out _ _ hSn (fun hS => ?_)
          clear hK K hSn
          try go_simp
          refine wpAnyH_ready (rs := [3]) (by kernel_rfl) (by simp) ?_
          refine all_consH rfl (fun K hK => ?_) ?_
          · skip
            refine Stp.mk ?_
            go_simp
            go_wp2_with fail
            have hwr := d_write d1 _ HN13.out.ok (by have := HZ.out; omega) (by have := HZ.out; omega) 1 ⟨by decide, by decide⟩ ⟨some ⟨b8, o8 + 1, none⟩, 255, sc - 1, (ofL 7).drop 1⟩ HC9.out (by show ((255 : Nat) : Int) ≤ _; omega) 3 (by rw [HN13.out.cc]; exact ew3.symm)
            simp only [Dk.v] at hwr
            refine hwr.mono ?_
            clear hwr
            rintro e w16 ⟨d', rfl, -, hb16⟩
            have hSn := hS.below hb16 hS.lt
            replace HB13 := Lib.hid (below_to HB13.out hb16 HB13.out.size)
            replace HY := Lib.hid (HY.out.below hb16 HY.out.lt)
            clear hb16 HN13 HC8
            clear HC9
            go_wp2
            refine hK.out _ _ hSn (fun hS => ?_)
            clear hK K hSn
            refine wpAnyH_take (i := 4) (v := ?_) rfl (by kernel_rfl) (by kernel_rfl) (by kernel_rfl) (fun _ _ _ h => h) (Or.inl ⟨by rfl, ?hyq⟩) hS ?_
            case hyq =>
              intro w hw
              go_simp
              try (with_reducible rfl)
            refine wpAnyH_take (i := 5) (v := ?_) rfl (by kernel_rfl) (by kernel_rfl) (by kernel_rfl) (fun _ _ _ h => h) (Or.inl ⟨by rfl, ?hyq⟩) hS ?_
            case hyq =>
              intro w hw
              go_simp
              try (with_reducible rfl)
            refine wpAnyH_take (i := 6) (v := ?_) rfl (by kernel_rfl) (by kernel_rfl) (by kernel_rfl) (fun _ _ _ h => h) (Or.inl ⟨by rfl, ?hyq⟩) hS ?_
            case hyq =>
              intro w hw
              go_simp
              try (with_reducible rfl)
            try go_simp
            refine wpAnyH_ready (rs := [8]) (by kernel_rfl) (by simp) ?_
            refine all_consH rfl (fun K hK => ?_) ?_
            · skip
              refine Stp.mk ?_
              obtain ⟨m0, m1⟩ := HY.out.cells
              have mf := HY.out.frozen
              have hB9 := (HB13.out.setCell (p := ⟨g6, 0, none⟩) HG6.out (.slice d'.A d'.nB d'.cB)).setCell (p := ⟨g6, 1, none⟩) HG6.out (.slice d'.W d'.nW d'.cW)
              have hSn := (hS.set ⟨g6, 0, none⟩ (by have := HG6.out; have := HGl.out; simp; omega) (.slice d'.A d'.nB d'.cB)).set ⟨g6, 1, none⟩ (by have := HG6.out; have := HGl.out; simp; omega) (.slice d'.W d'.nW d'.cW)
              go_simp
              clear m0 m1 mf
              refine hK.out _ _ hSn (fun hS => ?_)
              clear hK K hSn
              try go_simp
              refine wpAnyH_ready (rs := [9]) (by kernel_rfl) (by simp) ?_
              refine all_consH rfl (fun K hK => ?_) ?_
              · skip
                refine Stp.mk ?_
                go_simp
                have hSn := hS
                refine hK.out _ _ hSn (fun hS => ?_)
                clear hK K hSn
                refine wpAnyH_done (by kernel_rfl) ?_ _
                go_wp2
                go_meet
                case rel => exact ⟨rfl, hB9⟩
              exact AllReadyH.nil
            exact AllReadyH.nil
          exact AllReadyH.nil
        exact AllReadyH.nil
      exact AllReadyH.nil
    exact AllReadyH.nil
  case rest =>
  obtain ⟨rfl, hb⟩ := hcut
  obtain ⟨V14, rfl⟩ : ∃ V : World, V = wc := ⟨_, rfl⟩
  replace HX12 := Lib.hid (HX12.out.below hb HX12.out.lt)
  replace HN12 := Lib.hid (HN12.out.below hb)
  replace HS12 := Lib.hid (HS12.out.below hb)
  replace HB12 := Lib.hid (below_to HB12.out hb HB12.out.size)
  clear hb
  have hyn : sy.n = 256 := by rw [← HS12.out.y.1, HLY.out, ofT_len]
  obtain ⟨yb, yo, hyA, hyb, -⟩ := HS12.out.y.2.1.2 (by rw [hyn]; omega)
  have hyl := HLY.out
  clear hyb HLY
  obtain ⟨yA, yn, yc, yl⟩ := sy
  simp only at hyn hyA hyl
  subst hyn hyA hyl
  go_wp2
  refine wp_region_held_drew (S := NmS sx ⟨some ⟨yb, yo, none⟩, 256, yc, ofT⟩) (by kernel_rfl) (HS12.out.below ((Below.refl _ _).drew)) (fun hS => ?_)
  refine wpAnyH_take (i := 0) (v := ?_) rfl (by kernel_rfl) (by kernel_rfl) (by kernel_rfl) (fun _ _ _ h => h) (Or.inl ⟨by rfl, ?hyq⟩) hS ?_
  case hyq =>
    intro w hw
    go_simp
    try (with_reducible rfl)
  try go_simp
  try go_simp
  refine wpAnyH_ready (rs := [1]) (by kernel_rfl) (by simp) ?_
  refine all_consH rfl (fun K hK => ?_) ?_
  · skip
    refine Stp.mk ?_
    go_simp
    go_wp2_with fail
    refine (alive09 _).mono ?_
    rintro e w20 ⟨rfl, b20⟩
    have hSn := hS.below b20
    have hbd := HB12.out.drew
    have HB20 := Lib.hid (below_to hbd b20 hbd.size)
    clear b20 hbd
    go_wp2
    refine hK.out _ _ hSn (fun hS => ?_)
    clear hK K hSn
    refine wpAnyH_take (i := 2) (v := ?_) rfl (by kernel_rfl) (by kernel_rfl) (by kernel_rfl) (fun _ _ _ h => h) (Or.inl ⟨by rfl, ?hyq⟩) hS ?_
    case hyq =>
      intro w hw
      go_simp
      try (with_reducible rfl)
    try go_simp
    refine wpAnyH_take (i := 3) (v := ?_) rfl (by kernel_rfl) (by kernel_rfl) (by kernel_rfl) (fun _ _ _ h => h) (Or.inl ⟨by rfl, ?hyq⟩) hS ?_
    case hyq =>
      intro w hw
      go_simp
      try (with_reducible rfl)
    try go_simp
    refine wpAnyH_take (i := 4) (v := ?_) rfl (by kernel_rfl) (by kernel_rfl) (by kernel_rfl) (fun _ _ _ h => h) (Or.inl ⟨by rfl, ?hyq⟩) hS ?_
    case hyq =>
      intro w hw
      go_simp
      try (with_reducible rfl)
    try go_simp
    refine wpAnyH_take (i := 5) (v := ?_) rfl (by kernel_rfl) (by kernel_rfl) (by kernel_rfl) (fun _ _ _ h => h) (Or.inl ⟨by rfl, ?hyq⟩) hS ?_
    case hyq =>
      intro w hw
      have cv := conv hw.x.2.1 sx.c
      rw [HLX.out] at cv
      go_simp
      try (with_reducible rfl)
    try go_simp
    try go_simp
    refine wpAnyH_ready (rs := [6]) (by kernel_rfl) (by simp) ?_
    refine all_consH rfl (fun K hK => ?_) ?_
    · skip
      refine Stp.mk ?_
      go_simp
      go_wp2_with fail
      refine (l_of 7 _).mono ?_
      rintro e w21 ⟨s9, rfl, hc9, -, hl9, b21⟩
      have hSn := hS.below b21
      have HB21 := Lib.hid (below_to HB20.out b21 HB20.out.size)
      have cv9 := conv hc9.2.1 s9.c
      rw [hl9] at cv9
      have HCV9 := Lib.hid cv9
      clear hc9 hl9 b21 cv9
      go_wp2
      refine hK.out _ _ hSn (fun hS => ?_)
      clear hK K hSn
      try go_simp
      refine wpAnyH_ready (rs := [7]) (by kernel_rfl) (by simp) ?_
      refine all_consH rfl (fun K hK => ?_) ?_
      · skip
        refine Stp.mk ?_
        have cv9 := HCV9.out
        go_simp
        have hSn := hS
        clear cv9
        refine hK.out _ _ hSn (fun hS => ?_)
        clear hK K hSn
        refine wpAnyH_take (i := 8) (v := ?_) rfl (by kernel_rfl) (by kernel_rfl) (by kernel_rfl) (fun _ _ _ h => h) (Or.inl ⟨by rfl, ?hyq⟩) hS ?_
        case hyq =>
          intro w hw
          go_simp
          try (with_reducible rfl)
        try go_simp
        refine wpAnyH_take (i := 9) (v := ?_) rfl (by kernel_rfl) (by kernel_rfl) (by kernel_rfl) (fun _ _ _ h => h) (Or.inl ⟨by rfl, ?hyq⟩) hS ?_
        case hyq =>
          intro w hw
          go_simp
          try (with_reducible rfl)
        try go_simp
        refine wpAnyH_take (i := 10) (v := ?_) rfl (by kernel_rfl) (by kernel_rfl) (by kernel_rfl) (fun _ _ _ h => h) (Or.inl ⟨by rfl, ?hyq⟩) hS ?_
        case hyq =>
          intro w hw
          go_simp
          try (with_reducible rfl)
        try go_simp
        refine wpAnyH_take (i := 11) (v := ?_) rfl (by kernel_rfl) (by kernel_rfl) (by kernel_rfl) (fun _ _ _ h => h) (Or.inl ⟨by rfl, ?hyq⟩) hS ?_
        case hyq =>
          intro w hw
          go_simp
          try (with_reducible rfl)
        try go_simp
        refine wpAnyH_take (i := 12) (v := ?_) rfl (by kernel_rfl) (by kernel_rfl) (by kernel_rfl) (fun _ _ _ h => h) (Or.inl ⟨by rfl, ?hyq⟩) hS ?_
        case hyq =>
          intro w hw
          go_simp
          try (with_reducible rfl)
        try go_simp
        refine wpAnyH_take (i := 13) (v := ?_) rfl (by kernel_rfl) (by kernel_rfl) (by kernel_rfl) (fun _ _ _ h => h) (Or.inl ⟨by rfl, ?hyq⟩) hS ?_
        case hyq =>
          intro w hw
          have c2 := came_cell hw.y ofT_2
          go_simp
          try (with_reducible rfl)
        try go_simp
        refine wpAnyH_take (i := 14) (v := ?_) rfl (by kernel_rfl) (by kernel_rfl) (by kernel_rfl) (fun _ _ _ h => h) (Or.inl ⟨by rfl, ?hyq⟩) hS ?_
        case hyq =>
          intro w hw
          go_simp
          try (with_reducible rfl)
        try go_simp
        refine wpAnyH_take (i := 15) (v := ?_) rfl (by kernel_rfl) (by kernel_rfl) (by kernel_rfl) (fun _ _ _ h => h) (Or.inl ⟨by rfl, ?hyq⟩) hS ?_
        case hyq =>
          intro w hw
          go_simp
          try (with_reducible rfl)
        try go_simp
        refine wpAnyH_take (i := 16) (v := ?_) rfl (by kernel_rfl) (by kernel_rfl) (by kernel_rfl) (fun _ _ _ h => h) (Or.inl ⟨by rfl, ?hyq⟩) hS ?_
        case hyq =>
          intro w hw
          go_simp
          try (with_reducible rfl)
        try go_simp
        refine wpAnyH_take (i := 17) (v := ?_) rfl (by kernel_rfl) (by kernel_rfl) (by kernel_rfl) (fun _ _ _ h => h) (Or.inl ⟨by rfl, ?hyq⟩) hS ?_
        case hyq =>
          intro w hw
          go_simp
          try (with_reducible rfl)
        try go_simp
        refine wpAnyH_take (i := 18) (v := ?_) rfl (by kernel_rfl) (by kernel_rfl) (by kernel_rfl) (fun _ _ _ h => h) (Or.inl ⟨by rfl, ?hyq⟩) hS ?_
        case hyq =>
          intro w hw
          go_simp
          try (with_reducible rfl)
        try go_simp
        refine wpAnyH_take (i := 19) (v := ?_) rfl (by kernel_rfl) (by kernel_rfl) (by kernel_rfl) (fun _ _ _ h => h) (Or.inl ⟨by rfl, ?hyq⟩) hS ?_
        case hyq =>
          intro w hw
          have c3 := came_cell hw.y ofT_3
          go_simp
          try (with_reducible rfl)
        try go_simp
        refine wpAnyH_take (i := 20) (v := ?_) rfl (by kernel_rfl) (by kernel_rfl) (by kernel_rfl) (fun _ _ _ h => h) (Or.inl ⟨by rfl, ?hyq⟩) hS ?_
        case hyq =>
          intro w hw
          go_simp
          try (with_reducible rfl)
        try go_simp
        refine wpAnyH_take (i := 21) (v := ?_) rfl (by kernel_rfl) (by kernel_rfl) (by kernel_rfl) (fun _ _ _ h => h) (Or.inl ⟨by rfl, ?hyq⟩) hS ?_
        case hyq =>
          intro w hw
          go_simp
          try (with_reducible rfl)
        try go_simp
        refine wpAnyH_take (i := 22) (v := ?_) rfl (by kernel_rfl) (by kernel_rfl) (by kernel_rfl) (fun _ _ _ h => h) (Or.inl ⟨by rfl, ?hyq⟩) hS ?_
        case hyq =>
          intro w hw
          go_simp
          try (with_reducible rfl)
        try go_simp
        refine wpAnyH_take (i := 23) (v := ?_) rfl (by kernel_rfl) (by kernel_rfl) (by kernel_rfl) (fun _ _ _ h => h) (Or.inl ⟨by rfl, ?hyq⟩) hS ?_
        case hyq =>
          intro w hw
          go_simp
          try (with_reducible rfl)
        try go_simp
        refine wpAnyH_take (i := 24) (v := ?_) rfl (by kernel_rfl) (by kernel_rfl) (by kernel_rfl) (fun _ _ _ h => h) (Or.inl ⟨by rfl, ?hyq⟩) hS ?_
        case hyq =>
          intro w hw
          go_simp
          try (with_reducible rfl)
        try go_simp
        refine wpAnyH_take (i := 25) (v := ?_) rfl (by kernel_rfl) (by kernel_rfl) (by kernel_rfl) (fun _ _ _ h => h) (Or.inl ⟨by rfl, ?hyq⟩) hS ?_
        case hyq =>
          intro w hw
          go_simp
          try (with_reducible rfl)
        try go_simp
        refine wpAnyH_take (i := 26) (v := ?_) rfl (by kernel_rfl) (by kernel_rfl) (by kernel_rfl) (fun _ _ _ h => h) (Or.inl ⟨by rfl, ?hyq⟩) hS ?_
        case hyq =>
          intro w hw
          go_simp
          try (with_reducible rfl)
        try go_simp
        refine wpAnyH_take (i := 27) (v := ?_) rfl (by kernel_rfl) (by kernel_rfl) (by kernel_rfl) (fun _ _ _ h => h) (Or.inl ⟨by rfl, ?hyq⟩) hS ?_
        case hyq =>
          intro w hw
          go_simp
          try (with_reducible rfl)
        try go_simp
        refine wpAnyH_take (i := 28) (v := ?_) rfl (by kernel_rfl) (by kernel_rfl) (by kernel_rfl) (fun _ _ _ h => h) (Or.inl ⟨by rfl, ?hyq⟩) hS ?_
        case hyq =>
          intro w hw
          go_simp
          try (with_reducible rfl)
        try go_simp
        refine wpAnyH_take (i := 29) (v := ?_) rfl (by kernel_rfl) (by kernel_rfl) (by kernel_rfl) (fun _ _ _ h => h) (Or.inl ⟨by rfl, ?hyq⟩) hS ?_
        case hyq =>
          intro w hw
          go_simp
          try (with_reducible rfl)
        try go_simp
        refine wpAnyH_take (i := 30) (v := ?_) rfl (by kernel_rfl) (by kernel_rfl) (by kernel_rfl) (fun _ _ _ h => h) (Or.inl ⟨by rfl, ?hyq⟩) hS ?_
        case hyq =>
          intro w hw
          go_simp
          try (with_reducible rfl)
        try go_simp
        refine wpAnyH_take (i := 31) (v := ?_) rfl (by kernel_rfl) (by kernel_rfl) (by kernel_rfl) (fun _ _ _ h => h) (Or.inl ⟨by rfl, ?hyq⟩) hS ?_
        case hyq =>
          intro w hw
          go_simp
          try (with_reducible rfl)
        try go_simp
        refine wpAnyH_take (i := 32) (v := ?_) rfl (by kernel_rfl) (by kernel_rfl) (by kernel_rfl) (fun _ _ _ h => h) (Or.inl ⟨by rfl, ?hyq⟩) hS ?_
        case hyq =>
          intro w hw
          go_simp
          try (with_reducible rfl)
        try go_simp
        refine wpAnyH_take (i := 33) (v := ?_) rfl (by kernel_rfl) (by kernel_rfl) (by kernel_rfl) (fun _ _ _ h => h) (Or.inl ⟨by rfl, ?hyq⟩) hS ?_
        case hyq =>
          intro w hw
          go_simp
          try (with_reducible rfl)
        try go_simp
        refine wpAnyH_take (i := 34) (v := ?_) rfl (by kernel_rfl) (by kernel_rfl) (by kernel_rfl) (fun _ _ _ h => h) (Or.inl ⟨by rfl, ?hyq⟩) hS ?_
        case hyq =>
          intro w hw
          go_simp
          try (with_reducible rfl)
        try go_simp
        refine wpAnyH_take (i := 35) (v := ?_) rfl (by kernel_rfl) (by kernel_rfl) (by kernel_rfl) (fun _ _ _ h => h) (Or.inl ⟨by rfl, ?hyq⟩) hS ?_
        case hyq =>
          intro w hw
          go_simp
          try (with_reducible rfl)
        try go_simp
        try go_simp
        refine wpAnyH_ready (rs := [36]) (by kernel_rfl) (by simp) ?_
        refine all_consH rfl (fun K hK => ?_) ?_
        · skip
          refine Stp.mk ?_
          go_simp
          go_wp2_with fail
          refine (d_check Dk.nil _ (Nw.nil 0 _).ok 8 (by rw [if_neg]; exact not_nil) (by decide) (by decide)).mono ?_
          rintro e w22 ⟨rfl, b22⟩
          have hSn := hS.below b22
          have HB22 := Lib.hid (below_to HB21.out b22 HB21.out.size)
          clear b22
          go_wp2
          refine hK.out _ _ hSn (fun hS => ?_)
          clear hK K hSn
          refine wpAnyH_take (i := 37) (v := ?_) rfl (by kernel_rfl) (by kernel_rfl) (by kernel_rfl) (fun _ _ _ h => h) (Or.inl ⟨by rfl, ?hyq⟩) hS ?_
          case hyq =>
            intro w hw
            go_simp
            try (with_reducible rfl)
          try go_simp
          refine wpAnyH_take (i := 38) (v := ?_) rfl (by kernel_rfl) (by kernel_rfl) (by kernel_rfl) (fun _ _ _ h => h) (Or.inl ⟨by rfl, ?hyq⟩) hS ?_
          case hyq =>
            intro w hw
            go_simp
            try (with_reducible rfl)
          try go_simp
          try go_simp
          refine wpAnyH_ready (rs := [39]) (by kernel_rfl) (by simp) ?_
          refine all_consH rfl (fun K hK => ?_) ?_
          · skip
            refine Stp.mk ?_
            go_simp
            have hSn := hS
            refine hK.out _ _ hSn (fun hS => ?_)
            clear hK K hSn
            refine wpAnyH_done (by kernel_rfl) ?_ _
            go_wp2
            go_ret
            exact ⟨rfl, HB22.out⟩
          exact AllReadyH.nil
        exact AllReadyH.nil
      exact AllReadyH.nil
    exact AllReadyH.nil
  exact AllReadyH.nil
end Go.Proofs.Ytkaklppkmokffaa
