/-
  charterhouseref10: contract of Read.
-/
import Derived.Test.YtgcagenhfddpgaaRef10c
namespace Go.Proofs.Ytgcagenhfddpgaa
open Go.RowKit
set_option linter.unusedVariables false
set_option linter.unusedSimpArgs false
set_option maxRecDepth 100000

theorem stp_mkq {P : Program} {ops : Array Oper} {o : Oper} {a : Act} {w : World} {K : Act → World → Prop} {Q : Exit → Act → World → Prop} {E : Prop} (v : Nat → Value) (ob : Obj) (hw : Region.wanted o (yielded ops a.tmps) = true) (hr : (execOp a.eval o).run P w = .ok (.value (v w.heap.size)) (w.alloc ob))
    (hK : ∀ g w', Hid (w.heap.size = g ∧ g < w'.heap.size ∧ w'.heap[g]? = some ob) → Hid (Below w.heap.size w w') → K (a.put o.dst (v g)) w') : Stp P ops o a w K Q E := by
  refine ⟨?_⟩
  rw [if_pos hw]
  unfold Oper.wp
  rw [hr]
  exact hK _ _ (Lib.hid ⟨rfl, by simp, heap_alloc_new w ob⟩) (Lib.hid ((Below.refl _ w).alloc (Nat.le_refl _) ob))
theorem q_read_len (A : Option Addr) (n c : Nat) (w : World) (h : ¬ (n : Int) = 16) : Calls Try.prog 33 #[.slice A n c] w fun e w' => e = .returned (.tuple #[Pt.zero.v, .int .i64 3]) ∧ Below w.heap.size w w' := by
  have hx := Box5.new w 31 (.int .i64 0) (.int .u32 0) (.int .u32 0) (.int .u32 0) (.int .u32 0)
  have hb := below_new w (.cells #[.int .i64 0, .int .u32 0, .int .u32 0, .int .u32 0, .int .u32 0] 31)
  obtain ⟨c0, c1, c2, c3, c4⟩ := hx.cells
  have HB := Lib.hid hb
  clear hb hx
  go_enter Try.func33, Try.ntmps33
  go_wp2
  refine bodyPost_ret (v := .tuple #[.agg #[.int .i64 0, .int .u32 0, .int .u32 0, .int .u32 0, .int .u32 0], .int .i64 3]) (by simp [results, Try.results33, go_sem, c0, c1, c2, c3, c4]) rfl ?_
  exact ⟨rfl, HB.out⟩
/-- The four pieces as numbers. -/
theorem q_get_at (b off : Nat) (c : Nat) (l : List UInt8) (w : World) (hl : l.length = 16) (hr : Rd w w.heap.size 1 (some ⟨b, off, none⟩) 16 (bvs l)) (i m : Nat) (hm : m ≤ 4) (him : i + m ≤ 16) :
    Calls Try.prog 58 #[.slice (some ⟨b, off + i, none⟩) m c] w fun e w' => e = .returned (.int .u32 (num ((l.drop i).take m) : Int)) ∧ Below w.heap.size w w' := by
  have h := hr.sub i m him
  rw [← bvs_drop, ← bvs_take] at h
  exact q_get _ m c _ w (by rw [List.length_take, List.length_drop]; omega) hm h
set_option maxHeartbeats 4000000 in
theorem q_read_16 (A : Option Addr) (c : Nat) (l : List UInt8) (w : World) (hl : l.length = 16) (hc : 16 ≤ c) (hr : Rd w w.heap.size 1 A 16 (bvs l)) :
    Calls Try.prog 33 #[.slice A 16 c] w fun e w' => e = .returned (.tuple #[(readP l).v, .int .i64 (readE l)]) ∧ Below w.heap.size w w' := by
  obtain ⟨b, off, rfl, hbl, hcell⟩ := hr.2 (by omega)
  have hl0 : 0 < l.length := by omega
  have ha : ((rd16 l).a) = ((l[0]).toNat : Int) := by
    obtain ⟨x, xs, rfl⟩ : ∃ x xs, l = x :: xs := by
      cases l with
      | nil => cases hl0
      | cons x xs => exact ⟨x, xs, rfl⟩
    simp [rd16, num]
  have hc0 : w.cell? ⟨b, off, none⟩ = some (.int .u8 (rd16 l).a) := by
    rw [ha]
    exact hcell 0 _ (by rw [bvs_get, List.getElem?_eq_getElem hl0]; rfl)
  have hA := rd16_a l
  have hU := rd16_U l
  have hbx := below_new w (.cells #[.int .i64 0, .int .u32 0, .int .u32 0, .int .u32 0, .int .u32 0] 31)
  have hx := Box5.new w 31 (.int .i64 0) (.int .u32 0) (.int .u32 0) (.int .u32 0) (.int .u32 0)
  obtain ⟨w2, hw2⟩ : ∃ V, V = w.alloc (.cells #[.int .i64 0, .int .u32 0, .int .u32 0, .int .u32 0, .int .u32 0] 31) := ⟨_, rfl⟩
  rw [← hw2] at hbx hx
  have HZ := Lib.hid (show w2.heap.size = w.heap.size + 1 by rw [hw2]; simp)
  have HB := Lib.hid hbx
  have HX := Lib.hid hx
  have HR := Lib.hid hr
  have HL := Lib.hid hl
  have HW2 := Lib.hid hw2
  have HC0 := Lib.hid hc0
  have HBL := Lib.hid hbl
  have HA := Lib.hid hA
  have HU := Lib.hid hU
  have g1 := fun V (h : Below w.heap.size w V) => q_get_at b off (c - 1) l V hl ((hr.below h).more h.size) 1 3 (by omega) (by omega)
  have g2 := fun V (h : Below w.heap.size w V) => q_get_at b off (c - 4) l V hl ((hr.below h).more h.size) 4 4 (by omega) (by omega)
  have g3 := fun V (h : Below w.heap.size w V) => q_get_at b off (c - 8) l V hl ((hr.below h).more h.size) 8 4 (by omega) (by omega)
  have g4 := fun V (h : Below w.heap.size w V) => q_get_at b off (c - 12) l V hl ((hr.below h).more h.size) 12 4 (by omega) (by omega)
  obtain ⟨qb, hqb⟩ : ∃ x : Int, x = (num ((l.drop 1).take 3) : Int) := ⟨_, rfl⟩
  obtain ⟨qi, hqi⟩ : ∃ x : Int, x = (num ((l.drop 4).take 4) : Int) := ⟨_, rfl⟩
  obtain ⟨qt, hqt⟩ : ∃ x : Int, x = (num ((l.drop 8).take 4) : Int) := ⟨_, rfl⟩
  obtain ⟨qs, hqs⟩ : ∃ x : Int, x = (num ((l.drop 12).take 4) : Int) := ⟨_, rfl⟩
  rw [← hqb] at g1
  rw [← hqi] at g2
  rw [← hqt] at g3
  rw [← hqs] at g4
  have hq : rd16 l = ⟨(rd16 l).a, qb, qi, qt, qs⟩ := by rw [hqb, hqi, hqt, hqs]; rfl
  obtain ⟨qa, hqa⟩ : ∃ x : Int, x = (rd16 l).a := ⟨_, rfl⟩
  rw [← hqa] at hq HC0 HA
  have HQ := Lib.hid hq
  have G1 := Lib.hid g1
  have G2 := Lib.hid g2
  have G3 := Lib.hid g3
  have G4 := Lib.hid g4
  clear hl0 ha hc0 hA hU hbx hx hw2 hr hl hbl hcell g1 g2 g3 g4 hqb hqi hqt hqs hq hqa
  have hci : (16 : Int) ≤ (c : Int) := by omega
  have hci4 : (4 : Int) ≤ (c : Int) := by omega
  have hci8 : (8 : Int) ≤ (c : Int) := by omega
  have hci12 : (12 : Int) ≤ (c : Int) := by omega
  have hn1 : ¬ c = 1 := by omega
  have hn4 : ¬ c = 4 := by omega
  have hn8 : ¬ c = 8 := by omega
  have hn12 : ¬ c = 12 := by omega
  have hwq : IntKind.i64.wrap qa = qa := IntWalk.i64_in _ (by have := HA.out; omega)
  clear hc
  go_enter Try.func33, Try.ntmps33
  go_wp2_with fail
  rw [← HW2.out]
  clear HW2
  refine wp_region_held_drew (S := fun V => Below w.heap.size w V) (by kernel_rfl) HB.out.drew (fun hS => ?_)
  have HX2 := Lib.hid (show Box5 w2.drew w.heap.size _ _ _ _ _ _ from HX.out)
  refine wpAnyH_take (i := 0) (v := ?_) rfl (by kernel_rfl) (by kernel_rfl) (by kernel_rfl) (fun _ _ _ h => h) (Or.inl ⟨by rfl, ?hyq⟩) hS ?_
  case hyq =>
    intro w hw
    go_simp
    try (with_reducible rfl)
  refine wpAnyH_take (i := 1) (v := ?_) rfl (by kernel_rfl) (by kernel_rfl) (by kernel_rfl) (fun _ _ _ h => h) (Or.inl ⟨by rfl, ?hyq⟩) hS ?_
  case hyq =>
    intro w hw
    go_simp
    try (with_reducible rfl)
  refine wpAnyH_take (i := 2) (v := ?_) rfl (by kernel_rfl) (by kernel_rfl) (by kernel_rfl) (fun _ _ _ h => h) (Or.inl ⟨by rfl, ?hyq⟩) hS ?_
  case hyq =>
    intro w hw
    have k0 := (hw.cell (p := ⟨b, off, none⟩) HBL.out).trans HC0.out
    go_simp
    try (with_reducible rfl)
  refine wpAnyH_take (i := 3) (v := ?_) rfl (by kernel_rfl) (by kernel_rfl) (by kernel_rfl) (fun _ _ _ h => h) (Or.inl ⟨by rfl, ?hyq⟩) hS ?_
  case hyq =>
    intro w hw
    go_simp
    try (with_reducible rfl)
  refine wpAnyH_take (i := 4) (v := ?_) rfl (by kernel_rfl) (by kernel_rfl) (by kernel_rfl) (fun _ _ _ h => h) (Or.inl ⟨by rfl, ?hyq⟩) hS ?_
  case hyq =>
    intro w hw
    go_simp
    try (with_reducible rfl)
  refine wpAnyH_take (i := 5) (v := ?_) rfl (by kernel_rfl) (by kernel_rfl) (by kernel_rfl) (fun _ _ _ h => h) (Or.inl ⟨by rfl, ?hyq⟩) hS ?_
  case hyq =>
    intro w hw
    go_simp
    try (with_reducible rfl)
  refine wpAnyH_take (i := 7) (v := ?_) rfl (by kernel_rfl) (by kernel_rfl) (by kernel_rfl) (fun _ _ _ h => h) (Or.inl ⟨by rfl, ?hyq⟩) hS ?_
  case hyq =>
    intro w hw
    go_simp
    try (with_reducible rfl)
  refine wpAnyH_take (i := 8) (v := ?_) rfl (by kernel_rfl) (by kernel_rfl) (by kernel_rfl) (fun _ _ _ h => h) (Or.inl ⟨by rfl, ?hyq⟩) hS ?_
  case hyq =>
    intro w hw
    go_simp
    try (with_reducible rfl)
  refine wpAnyH_take (i := 10) (v := ?_) rfl (by kernel_rfl) (by kernel_rfl) (by kernel_rfl) (fun _ _ _ h => h) (Or.inl ⟨by rfl, ?hyq⟩) hS ?_
  case hyq =>
    intro w hw
    go_simp
    try (with_reducible rfl)
  refine wpAnyH_take (i := 11) (v := ?_) rfl (by kernel_rfl) (by kernel_rfl) (by kernel_rfl) (fun _ _ _ h => h) (Or.inl ⟨by rfl, ?hyq⟩) hS ?_
  case hyq =>
    intro w hw
    go_simp
    try (with_reducible rfl)
  refine wpAnyH_take (i := 13) (v := ?_) rfl (by kernel_rfl) (by kernel_rfl) (by kernel_rfl) (fun _ _ _ h => h) (Or.inl ⟨by rfl, ?hyq⟩) hS ?_
  case hyq =>
    intro w hw
    go_simp
    try (with_reducible rfl)
  refine wpAnyH_take (i := 14) (v := ?_) rfl (by kernel_rfl) (by kernel_rfl) (by kernel_rfl) (fun _ _ _ h => h) (Or.inl ⟨by rfl, ?hyq⟩) hS ?_
  case hyq =>
    intro w hw
    go_simp
    try (with_reducible rfl)
  try go_simp
  refine wpAnyH_ready (rs := [6, 17]) (by kernel_rfl) (by simp) ?_
  refine all_consH rfl (fun K hK => ?_) ?_
  · skip
    refine Stp.mk ?_
    go_simp
    go_wp2_with fail
    refine (G1.out _ hS).mono ?_
    rintro e V1 ⟨rfl, b9⟩
    have hSn := below_to hS b9 hS.size
    replace HX2 := Lib.hid (HX2.out.below b9 HX2.out.lt)
    clear b9
    go_wp2
    refine hK.out _ _ hSn (fun hS => ?_)
    clear hK K hSn
    try go_simp
    refine wpAnyH_ready (rs := [9, 17]) (by kernel_rfl) (by simp) ?_
    refine all_consH rfl (fun K hK => ?_) ?_
    · skip
      refine Stp.mk ?_
      go_simp
      go_wp2_with fail
      refine (G2.out _ hS).mono ?_
      rintro e V2 ⟨rfl, b9⟩
      have hSn := below_to hS b9 hS.size
      replace HX2 := Lib.hid (HX2.out.below b9 HX2.out.lt)
      clear b9
      go_wp2
      refine hK.out _ _ hSn (fun hS => ?_)
      clear hK K hSn
      try go_simp
      refine wpAnyH_ready (rs := [12, 17]) (by kernel_rfl) (by simp) ?_
      refine all_consH rfl (fun K hK => ?_) ?_
      · skip
        refine Stp.mk ?_
        go_simp
        go_wp2_with fail
        refine (G3.out _ hS).mono ?_
        rintro e V3 ⟨rfl, b9⟩
        have hSn := below_to hS b9 hS.size
        replace HX2 := Lib.hid (HX2.out.below b9 HX2.out.lt)
        clear b9
        go_wp2
        refine hK.out _ _ hSn (fun hS => ?_)
        clear hK K hSn
        try go_simp
        refine wpAnyH_ready (rs := [15, 17]) (by kernel_rfl) (by simp) ?_
        refine all_consH rfl (fun K hK => ?_) ?_
        · skip
          refine Stp.mk ?_
          go_simp
          go_wp2_with fail
          refine (G4.out _ hS).mono ?_
          rintro e V4 ⟨rfl, b9⟩
          have hSn := below_to hS b9 hS.size
          replace HX2 := Lib.hid (HX2.out.below b9 HX2.out.lt)
          clear b9
          go_wp2
          refine hK.out _ _ hSn (fun hS => ?_)
          clear hK K hSn
          refine wpAnyH_take (i := 16) (v := ?_) rfl (by kernel_rfl) (by kernel_rfl) (by kernel_rfl) (fun _ _ _ h => h) (Or.inl ⟨by rfl, ?hyq⟩) hS ?_
          case hyq =>
            intro w hw
            go_simp
            try (with_reducible rfl)
          try go_simp
          refine wpAnyH_ready (rs := [17]) (by kernel_rfl) (by simp) ?_
          refine all_consH rfl (fun K hK => ?_) ?_
          · skip
            refine stp_mkq (fun g => .pointer (some ⟨g, 0, none⟩)) (.cells #[.int .i64 0, .int .u32 0, .int .u32 0, .int .u32 0, .int .u32 0] 31) (by go_simp) (by go_simp) ?_
            intro gY V9 hn hb9
            have hSn := below_to hS hb9.out hS.size
            have HY := Lib.hid (show Box5 V9 gY 31 (.int .i64 0) (.int .u32 0) (.int .u32 0) (.int .u32 0) (.int .u32 0) from hn.out.2.2)
            have HG := Lib.hid (show w.heap.size < gY from by have := HX2.out.lt; have := hn.out.1; omega)
            replace HX2 := Lib.hid (HX2.out.below hb9.out HX2.out.lt)
            clear hn hb9
            refine hK.out _ _ hSn (fun hS => ?_)
            clear hK K hSn
            try go_simp
            refine wpAnyH_ready (rs := [18]) (by kernel_rfl) (by simp) ?_
            refine all_consH rfl (fun K hK => ?_) ?_
            · skip
              refine Stp.mk ?_
              obtain ⟨m0, m1, m2, m3, m4⟩ := HY.out.cells
              have mf := HY.out.frozen
              have hYn := HY.out.put (.int .i64 qa) (.int .u32 qb) (.int .u32 qi) (.int .u32 qt) (.int .u32 qs)
              have hSn := below_put5 hS (Nat.le_of_lt HG.out) (.int .i64 qa) (.int .u32 qb) (.int .u32 qi) (.int .u32 qt) (.int .u32 qs)
              have hXn := HX2.out.below (below_put5 (Below.refl gY _) (Nat.le_refl _) (.int .i64 qa) (.int .u32 qb) (.int .u32 qi) (.int .u32 qt) (.int .u32 qs)) HG.out
              unfold put5 at hYn hSn hXn
              have HYn := Lib.hid hYn
              have HXn := Lib.hid hXn
              clear hYn hXn
              go_simp
              clear m0 m1 m2 m3 m4 mf
              refine hK.out _ _ hSn (fun hS => ?_)
              clear hK K hSn
              refine wpAnyH_done (by kernel_rfl) ?_ _
              have HS := Lib.hid hS
              obtain ⟨y0, y1, y2, y3, y4⟩ := HYn.out.cells
              clear HY HX2 hS hwq G1 G2 G3 G4 HC0 hci hci4 hci8 hci12 hn1 hn4 hn8 hn12
              by_cases hm : (rd16 l).May
              · have hq := HQ.out
                have hM := fun W => q_may ⟨qa, qb, qi, qt, qs⟩ true (decide_eq_true (by rw [← hq]; exact hm)) W
                dsimp only at hM
                have HM := Lib.hid hM
                have HP := Lib.hid (show readP l = ⟨qa, qb, qi, qt, qs⟩ by rw [readP_may HL.out hm]; exact hq)
                have HE := Lib.hid (show readE l = 0 by rw [readE_16 HL.out, Pt.chk_zero hm])
                clear hM hm hq
                go_wp2_with fail
                refine (HM.out _).mono ?_
                rintro e wz ⟨rfl, b9⟩
                have hy := HYn.out.below b9 HYn.out.lt
                have hx := HXn.out.below b9 HXn.out.lt
                have HBZ := Lib.hid (below_to HS.out b9 HS.out.size)
                clear y0 y1 y2 y3 y4 b9 HYn HXn HS
                obtain ⟨y0, y1, y2, y3, y4⟩ := hy.cells
                have hfro := hx.frozen
                obtain ⟨d0, d1, d2, d3, d4⟩ := hx.cells
                obtain ⟨e0, e1, e2, e3, e4⟩ := hx.five (.int .i64 qa) (.int .u32 qb) (.int .u32 qi) (.int .u32 qt) (.int .u32 qs)
                have hlt := hx.lt
                have HXZ := Lib.hid hx
                clear hx hy
                go_wp2
                have hf := HXZ.out.put (.int .i64 qa) (.int .u32 qb) (.int .u32 qi) (.int .u32 qt) (.int .u32 qs)
                obtain ⟨f0, f1, f2, f3, f4⟩ := hf.cells
                unfold put5 at f0 f1 f2 f3 f4
                refine bodyPost_ret (v := .tuple #[.agg #[.int .i64 qa, .int .u32 qb, .int .u32 qi, .int .u32 qt, .int .u32 qs], .int .i64 0]) (by simp [results, Try.results33, go_sem, f0, f1, f2, f3, f4]) rfl ?_
                exact ⟨by rw [HP.out, HE.out]; rfl, below_put5 HBZ.out (Nat.le_refl _) _ _ _ _ _⟩
              · have hq := HQ.out
                have hM := fun W => q_may ⟨qa, qb, qi, qt, qs⟩ false (decide_eq_false (by rw [← hq]; exact hm)) W
                dsimp only at hM
                have HM := Lib.hid hM
                have HP := Lib.hid (show readP l = Pt.zero from readP_bad hm)
                have HE := Lib.hid (show readE l = 8 by rw [readE_16 HL.out, Pt.chk_bad hm])
                clear hM hm hq
                go_wp2_with fail
                refine (HM.out _).mono ?_
                rintro e wz ⟨rfl, b9⟩
                have hx := HXn.out.below b9 HXn.out.lt
                have HBZ := Lib.hid (below_to HS.out b9 HS.out.size)
                clear y0 y1 y2 y3 y4 b9 HYn HXn HS
                have hfro := hx.frozen
                obtain ⟨d0, d1, d2, d3, d4⟩ := hx.cells
                obtain ⟨e0, e1, e2, e3, e4⟩ := hx.five (.int .i64 0) (.int .u32 0) (.int .u32 0) (.int .u32 0) (.int .u32 0)
                have HXZ := Lib.hid hx
                clear hx
                go_wp2
                have hf := HXZ.out.put (.int .i64 0) (.int .u32 0) (.int .u32 0) (.int .u32 0) (.int .u32 0)
                obtain ⟨f0, f1, f2, f3, f4⟩ := hf.cells
                unfold put5 at f0 f1 f2 f3 f4
                refine bodyPost_ret (v := .tuple #[.agg #[.int .i64 0, .int .u32 0, .int .u32 0, .int .u32 0, .int .u32 0], .int .i64 8]) (by simp [results, Try.results33, go_sem, f0, f1, f2, f3, f4]) rfl ?_
                exact ⟨by rw [HP.out, HE.out]; rfl, below_put5 HBZ.out (Nat.le_refl _) _ _ _ _ _⟩
            exact AllReadyH.nil
          exact AllReadyH.nil
        refine all_consH rfl (fun K hK => ?_) ?_
        · skip
          refine stp_mkq (fun g => .pointer (some ⟨g, 0, none⟩)) (.cells #[.int .i64 0, .int .u32 0, .int .u32 0, .int .u32 0, .int .u32 0] 31) (by go_simp) (by go_simp) ?_
          intro gY V9 hn hb9
          have hSn := below_to hS hb9.out hS.size
          have HY := Lib.hid (show Box5 V9 gY 31 (.int .i64 0) (.int .u32 0) (.int .u32 0) (.int .u32 0) (.int .u32 0) from hn.out.2.2)
          have HG := Lib.hid (show w.heap.size < gY from by have := HX2.out.lt; have := hn.out.1; omega)
          replace HX2 := Lib.hid (HX2.out.below hb9.out HX2.out.lt)
          clear hn hb9
          refine hK.out _ _ hSn (fun hS => ?_)
          clear hK K hSn
          try go_simp
          refine wpAnyH_ready (rs := [15]) (by kernel_rfl) (by simp) ?_
          refine all_consH rfl (fun K hK => ?_) ?_
          · skip
            refine Stp.mk ?_
            go_simp
            go_wp2_with fail
            refine (G4.out _ hS).mono ?_
            rintro e V4 ⟨rfl, b9⟩
            have hSn := below_to hS b9 hS.size
            replace HX2 := Lib.hid (HX2.out.below b9 HX2.out.lt)
            replace HY := Lib.hid (HY.out.below b9 HY.out.lt)
            clear b9
            go_wp2
            refine hK.out _ _ hSn (fun hS => ?_)
            clear hK K hSn
            refine wpAnyH_take (i := 16) (v := ?_) rfl (by kernel_rfl) (by kernel_rfl) (by kernel_rfl) (fun _ _ _ h => h) (Or.inl ⟨by rfl, ?hyq⟩) hS ?_
            case hyq =>
              intro w hw
              go_simp
              try (with_reducible rfl)
            try go_simp
            refine wpAnyH_ready (rs := [18]) (by kernel_rfl) (by simp) ?_
            refine all_consH rfl (fun K hK => ?_) ?_
            · skip
              refine Stp.mk ?_
              obtain ⟨m0, m1, m2, m3, m4⟩ := HY.out.cells
              have mf := HY.out.frozen
              have hYn := HY.out.put (.int .i64 qa) (.int .u32 qb) (.int .u32 qi) (.int .u32 qt) (.int .u32 qs)
              have hSn := below_put5 hS (Nat.le_of_lt HG.out) (.int .i64 qa) (.int .u32 qb) (.int .u32 qi) (.int .u32 qt) (.int .u32 qs)
              have hXn := HX2.out.below (below_put5 (Below.refl gY _) (Nat.le_refl _) (.int .i64 qa) (.int .u32 qb) (.int .u32 qi) (.int .u32 qt) (.int .u32 qs)) HG.out
              unfold put5 at hYn hSn hXn
              have HYn := Lib.hid hYn
              have HXn := Lib.hid hXn
              clear hYn hXn
              go_simp
              clear m0 m1 m2 m3 m4 mf
              refine hK.out _ _ hSn (fun hS => ?_)
              clear hK K hSn
              refine wpAnyH_done (by kernel_rfl) ?_ _
              have HS := Lib.hid hS
              obtain ⟨y0, y1, y2, y3, y4⟩ := HYn.out.cells
              clear HY HX2 hS hwq G1 G2 G3 G4 HC0 hci hci4 hci8 hci12 hn1 hn4 hn8 hn12
              by_cases hm : (rd16 l).May
              · have hq := HQ.out
                have hM := fun W => q_may ⟨qa, qb, qi, qt, qs⟩ true (decide_eq_true (by rw [← hq]; exact hm)) W
                dsimp only at hM
                have HM := Lib.hid hM
                have HP := Lib.hid (show readP l = ⟨qa, qb, qi, qt, qs⟩ by rw [readP_may HL.out hm]; exact hq)
                have HE := Lib.hid (show readE l = 0 by rw [readE_16 HL.out, Pt.chk_zero hm])
                clear hM hm hq
                go_wp2_with fail
                refine (HM.out _).mono ?_
                rintro e wz ⟨rfl, b9⟩
                have hy := HYn.out.below b9 HYn.out.lt
                have hx := HXn.out.below b9 HXn.out.lt
                have HBZ := Lib.hid (below_to HS.out b9 HS.out.size)
                clear y0 y1 y2 y3 y4 b9 HYn HXn HS
                obtain ⟨y0, y1, y2, y3, y4⟩ := hy.cells
                have hfro := hx.frozen
                obtain ⟨d0, d1, d2, d3, d4⟩ := hx.cells
                obtain ⟨e0, e1, e2, e3, e4⟩ := hx.five (.int .i64 qa) (.int .u32 qb) (.int .u32 qi) (.int .u32 qt) (.int .u32 qs)
                have hlt := hx.lt
                have HXZ := Lib.hid hx
                clear hx hy
                go_wp2
                have hf := HXZ.out.put (.int .i64 qa) (.int .u32 qb) (.int .u32 qi) (.int .u32 qt) (.int .u32 qs)
                obtain ⟨f0, f1, f2, f3, f4⟩ := hf.cells
                unfold put5 at f0 f1 f2 f3 f4
                refine bodyPost_ret (v := .tuple #[.agg #[.int .i64 qa, .int .u32 qb, .int .u32 qi, .int .u32 qt, .int .u32 qs], .int .i64 0]) (by simp [results, Try.results33, go_sem, f0, f1, f2, f3, f4]) rfl ?_
                exact ⟨by rw [HP.out, HE.out]; rfl, below_put5 HBZ.out (Nat.le_refl _) _ _ _ _ _⟩
              · have hq := HQ.out
                have hM := fun W => q_may ⟨qa, qb, qi, qt, qs⟩ false (decide_eq_false (by rw [← hq]; exact hm)) W
                dsimp only at hM
                have HM := Lib.hid hM
                have HP := Lib.hid (show readP l = Pt.zero from readP_bad hm)
                have HE := Lib.hid (show readE l = 8 by rw [readE_16 HL.out, Pt.chk_bad hm])
                clear hM hm hq
                go_wp2_with fail
                refine (HM.out _).mono ?_
                rintro e wz ⟨rfl, b9⟩
                have hx := HXn.out.below b9 HXn.out.lt
                have HBZ := Lib.hid (below_to HS.out b9 HS.out.size)
                clear y0 y1 y2 y3 y4 b9 HYn HXn HS
                have hfro := hx.frozen
                obtain ⟨d0, d1, d2, d3, d4⟩ := hx.cells
                obtain ⟨e0, e1, e2, e3, e4⟩ := hx.five (.int .i64 0) (.int .u32 0) (.int .u32 0) (.int .u32 0) (.int .u32 0)
                have HXZ := Lib.hid hx
                clear hx
                go_wp2
                have hf := HXZ.out.put (.int .i64 0) (.int .u32 0) (.int .u32 0) (.int .u32 0) (.int .u32 0)
                obtain ⟨f0, f1, f2, f3, f4⟩ := hf.cells
                unfold put5 at f0 f1 f2 f3 f4
                refine bodyPost_ret (v := .tuple #[.agg #[.int .i64 0, .int .u32 0, .int .u32 0, .int .u32 0, .int .u32 0], .int .i64 8]) (by simp [results, Try.results33, go_sem, f0, f1, f2, f3, f4]) rfl ?_
                exact ⟨by rw [HP.out, HE.out]; rfl, below_put5 HBZ.out (Nat.le_refl _) _ _ _ _ _⟩
            exact AllReadyH.nil
          exact AllReadyH.nil
        exact AllReadyH.nil
      refine all_consH rfl (fun K hK => ?_) ?_
      · skip
        refine stp_mkq (fun g => .pointer (some ⟨g, 0, none⟩)) (.cells #[.int .i64 0, .int .u32 0, .int .u32 0, .int .u32 0, .int .u32 0] 31) (by go_simp) (by go_simp) ?_
        intro gY V9 hn hb9
        have hSn := below_to hS hb9.out hS.size
        have HY := Lib.hid (show Box5 V9 gY 31 (.int .i64 0) (.int .u32 0) (.int .u32 0) (.int .u32 0) (.int .u32 0) from hn.out.2.2)
        have HG := Lib.hid (show w.heap.size < gY from by have := HX2.out.lt; have := hn.out.1; omega)
        replace HX2 := Lib.hid (HX2.out.below hb9.out HX2.out.lt)
        clear hn hb9
        refine hK.out _ _ hSn (fun hS => ?_)
        clear hK K hSn
        try go_simp
        refine wpAnyH_ready (rs := [12]) (by kernel_rfl) (by simp) ?_
        refine all_consH rfl (fun K hK => ?_) ?_
        · skip
          refine Stp.mk ?_
          go_simp
          go_wp2_with fail
          refine (G3.out _ hS).mono ?_
          rintro e V3 ⟨rfl, b9⟩
          have hSn := below_to hS b9 hS.size
          replace HX2 := Lib.hid (HX2.out.below b9 HX2.out.lt)
          replace HY := Lib.hid (HY.out.below b9 HY.out.lt)
          clear b9
          go_wp2
          refine hK.out _ _ hSn (fun hS => ?_)
          clear hK K hSn
          try go_simp
          refine wpAnyH_ready (rs := [15]) (by kernel_rfl) (by simp) ?_
          refine all_consH rfl (fun K hK => ?_) ?_
          · skip
            refine Stp.mk ?_
            go_simp
            go_wp2_with fail
            refine (G4.out _ hS).mono ?_
            rintro e V4 ⟨rfl, b9⟩
            have hSn := below_to hS b9 hS.size
            replace HX2 := Lib.hid (HX2.out.below b9 HX2.out.lt)
            replace HY := Lib.hid (HY.out.below b9 HY.out.lt)
            clear b9
            go_wp2
            refine hK.out _ _ hSn (fun hS => ?_)
            clear hK K hSn
            refine wpAnyH_take (i := 16) (v := ?_) rfl (by kernel_rfl) (by kernel_rfl) (by kernel_rfl) (fun _ _ _ h => h) (Or.inl ⟨by rfl, ?hyq⟩) hS ?_
            case hyq =>
              intro w hw
              go_simp
              try (with_reducible rfl)
            try go_simp
            refine wpAnyH_ready (rs := [18]) (by kernel_rfl) (by simp) ?_
            refine all_consH rfl (fun K hK => ?_) ?_
            · skip
              refine Stp.mk ?_
              obtain ⟨m0, m1, m2, m3, m4⟩ := HY.out.cells
              have mf := HY.out.frozen
              have hYn := HY.out.put (.int .i64 qa) (.int .u32 qb) (.int .u32 qi) (.int .u32 qt) (.int .u32 qs)
              have hSn := below_put5 hS (Nat.le_of_lt HG.out) (.int .i64 qa) (.int .u32 qb) (.int .u32 qi) (.int .u32 qt) (.int .u32 qs)
              have hXn := HX2.out.below (below_put5 (Below.refl gY _) (Nat.le_refl _) (.int .i64 qa) (.int .u32 qb) (.int .u32 qi) (.int .u32 qt) (.int .u32 qs)) HG.out
              unfold put5 at hYn hSn hXn
              have HYn := Lib.hid hYn
              have HXn := Lib.hid hXn
              clear hYn hXn
              go_simp
              clear m0 m1 m2 m3 m4 mf
              refine hK.out _ _ hSn (fun hS => ?_)
              clear hK K hSn
              refine wpAnyH_done (by kernel_rfl) ?_ _
              have HS := Lib.hid hS
              obtain ⟨y0, y1, y2, y3, y4⟩ := HYn.out.cells
              clear HY HX2 hS hwq G1 G2 G3 G4 HC0 hci hci4 hci8 hci12 hn1 hn4 hn8 hn12
              by_cases hm : (rd16 l).May
              · have hq := HQ.out
                have hM := fun W => q_may ⟨qa, qb, qi, qt, qs⟩ true (decide_eq_true (by rw [← hq]; exact hm)) W
                dsimp only at hM
                have HM := Lib.hid hM
                have HP := Lib.hid (show readP l = ⟨qa, qb, qi, qt, qs⟩ by rw [readP_may HL.out hm]; exact hq)
                have HE := Lib.hid (show readE l = 0 by rw [readE_16 HL.out, Pt.chk_zero hm])
                clear hM hm hq
                go_wp2_with fail
                refine (HM.out _).mono ?_
                rintro e wz ⟨rfl, b9⟩
                have hy := HYn.out.below b9 HYn.out.lt
                have hx := HXn.out.below b9 HXn.out.lt
                have HBZ := Lib.hid (below_to HS.out b9 HS.out.size)
                clear y0 y1 y2 y3 y4 b9 HYn HXn HS
                obtain ⟨y0, y1, y2, y3, y4⟩ := hy.cells
                have hfro := hx.frozen
                obtain ⟨d0, d1, d2, d3, d4⟩ := hx.cells
                obtain ⟨e0, e1, e2, e3, e4⟩ := hx.five (.int .i64 qa) (.int .u32 qb) (.int .u32 qi) (.int .u32 qt) (.int .u32 qs)
                have hlt := hx.lt
                have HXZ := Lib.hid hx
                clear hx hy
                go_wp2
                have hf := HXZ.out.put (.int .i64 qa) (.int .u32 qb) (.int .u32 qi) (.int .u32 qt) (.int .u32 qs)
                obtain ⟨f0, f1, f2, f3, f4⟩ := hf.cells
                unfold put5 at f0 f1 f2 f3 f4
                refine bodyPost_ret (v := .tuple #[.agg #[.int .i64 qa, .int .u32 qb, .int .u32 qi, .int .u32 qt, .int .u32 qs], .int .i64 0]) (by simp [results, Try.results33, go_sem, f0, f1, f2, f3, f4]) rfl ?_
                exact ⟨by rw [HP.out, HE.out]; rfl, below_put5 HBZ.out (Nat.le_refl _) _ _ _ _ _⟩
              · have hq := HQ.out
                have hM := fun W => q_may ⟨qa, qb, qi, qt, qs⟩ false (decide_eq_false (by rw [← hq]; exact hm)) W
                dsimp only at hM
                have HM := Lib.hid hM
                have HP := Lib.hid (show readP l = Pt.zero from readP_bad hm)
                have HE := Lib.hid (show readE l = 8 by rw [readE_16 HL.out, Pt.chk_bad hm])
                clear hM hm hq
                go_wp2_with fail
                refine (HM.out _).mono ?_
                rintro e wz ⟨rfl, b9⟩
                have hx := HXn.out.below b9 HXn.out.lt
                have HBZ := Lib.hid (below_to HS.out b9 HS.out.size)
                clear y0 y1 y2 y3 y4 b9 HYn HXn HS
                have hfro := hx.frozen
                obtain ⟨d0, d1, d2, d3, d4⟩ := hx.cells
                obtain ⟨e0, e1, e2, e3, e4⟩ := hx.five (.int .i64 0) (.int .u32 0) (.int .u32 0) (.int .u32 0) (.int .u32 0)
                have HXZ := Lib.hid hx
                clear hx
                go_wp2
                have hf := HXZ.out.put (.int .i64 0) (.int .u32 0) (.int .u32 0) (.int .u32 0) (.int .u32 0)
                obtain ⟨f0, f1, f2, f3, f4⟩ := hf.cells
                unfold put5 at f0 f1 f2 f3 f4
                refine bodyPost_ret (v := .tuple #[.agg #[.int .i64 0, .int .u32 0, .int .u32 0, .int .u32 0, .int .u32 0], .int .i64 8]) (by simp [results, Try.results33, go_sem, f0, f1, f2, f3, f4]) rfl ?_
                exact ⟨by rw [HP.out, HE.out]; rfl, below_put5 HBZ.out (Nat.le_refl _) _ _ _ _ _⟩
            exact AllReadyH.nil
          exact AllReadyH.nil
        exact AllReadyH.nil
      exact AllReadyH.nil
    refine all_consH rfl (fun K hK => ?_) ?_
    · skip
      refine stp_mkq (fun g => .pointer (some ⟨g, 0, none⟩)) (.cells #[.int .i64 0, .int .u32 0, .int .u32 0, .int .u32 0, .int .u32 0] 31) (by go_simp) (by go_simp) ?_
      intro gY V9 hn hb9
      have hSn := below_to hS hb9.out hS.size
      have HY := Lib.hid (show Box5 V9 gY 31 (.int .i64 0) (.int .u32 0) (.int .u32 0) (.int .u32 0) (.int .u32 0) from hn.out.2.2)
      have HG := Lib.hid (show w.heap.size < gY from by have := HX2.out.lt; have := hn.out.1; omega)
      replace HX2 := Lib.hid (HX2.out.below hb9.out HX2.out.lt)
      clear hn hb9
      refine hK.out _ _ hSn (fun hS => ?_)
      clear hK K hSn
      try go_simp
      refine wpAnyH_ready (rs := [9]) (by kernel_rfl) (by simp) ?_
      refine all_consH rfl (fun K hK => ?_) ?_
      · skip
        refine Stp.mk ?_
        go_simp
        go_wp2_with fail
        refine (G2.out _ hS).mono ?_
        rintro e V2 ⟨rfl, b9⟩
        have hSn := below_to hS b9 hS.size
        replace HX2 := Lib.hid (HX2.out.below b9 HX2.out.lt)
        replace HY := Lib.hid (HY.out.below b9 HY.out.lt)
        clear b9
        go_wp2
        refine hK.out _ _ hSn (fun hS => ?_)
        clear hK K hSn
        try go_simp
        refine wpAnyH_ready (rs := [12]) (by kernel_rfl) (by simp) ?_
        refine all_consH rfl (fun K hK => ?_) ?_
        · skip
          refine Stp.mk ?_
          go_simp
          go_wp2_with fail
          refine (G3.out _ hS).mono ?_
          rintro e V3 ⟨rfl, b9⟩
          have hSn := below_to hS b9 hS.size
          replace HX2 := Lib.hid (HX2.out.below b9 HX2.out.lt)
          replace HY := Lib.hid (HY.out.below b9 HY.out.lt)
          clear b9
          go_wp2
          refine hK.out _ _ hSn (fun hS => ?_)
          clear hK K hSn
          try go_simp
          refine wpAnyH_ready (rs := [15]) (by kernel_rfl) (by simp) ?_
          refine all_consH rfl (fun K hK => ?_) ?_
          · skip
            refine Stp.mk ?_
            go_simp
            go_wp2_with fail
            refine (G4.out _ hS).mono ?_
            rintro e V4 ⟨rfl, b9⟩
            have hSn := below_to hS b9 hS.size
            replace HX2 := Lib.hid (HX2.out.below b9 HX2.out.lt)
            replace HY := Lib.hid (HY.out.below b9 HY.out.lt)
            clear b9
            go_wp2
            refine hK.out _ _ hSn (fun hS => ?_)
            clear hK K hSn
            refine wpAnyH_take (i := 16) (v := ?_) rfl (by kernel_rfl) (by kernel_rfl) (by kernel_rfl) (fun _ _ _ h => h) (Or.inl ⟨by rfl, ?hyq⟩) hS ?_
            case hyq =>
              intro w hw
              go_simp
              try (with_reducible rfl)
            try go_simp
            refine wpAnyH_ready (rs := [18]) (by kernel_rfl) (by simp) ?_
            refine all_consH rfl (fun K hK => ?_) ?_
            · skip
              refine Stp.mk ?_
              obtain ⟨m0, m1, m2, m3, m4⟩ := HY.out.cells
              have mf := HY.out.frozen
              have hYn := HY.out.put (.int .i64 qa) (.int .u32 qb) (.int .u32 qi) (.int .u32 qt) (.int .u32 qs)
              have hSn := below_put5 hS (Nat.le_of_lt HG.out) (.int .i64 qa) (.int .u32 qb) (.int .u32 qi) (.int .u32 qt) (.int .u32 qs)
              have hXn := HX2.out.below (below_put5 (Below.refl gY _) (Nat.le_refl _) (.int .i64 qa) (.int .u32 qb) (.int .u32 qi) (.int .u32 qt) (.int .u32 qs)) HG.out
              unfold put5 at hYn hSn hXn
              have HYn := Lib.hid hYn
              have HXn := Lib.hid hXn
              clear hYn hXn
              go_simp
              clear m0 m1 m2 m3 m4 mf
              refine hK.out _ _ hSn (fun hS => ?_)
              clear hK K hSn
              refine wpAnyH_done (by kernel_rfl) ?_ _
              have HS := Lib.hid hS
              obtain ⟨y0, y1, y2, y3, y4⟩ := HYn.out.cells
              clear HY HX2 hS hwq G1 G2 G3 G4 HC0 hci hci4 hci8 hci12 hn1 hn4 hn8 hn12
              by_cases hm : (rd16 l).May
              · have hq := HQ.out
                have hM := fun W => q_may ⟨qa, qb, qi, qt, qs⟩ true (decide_eq_true (by rw [← hq]; exact hm)) W
                dsimp only at hM
                have HM := Lib.hid hM
                have HP := Lib.hid (show readP l = ⟨qa, qb, qi, qt, qs⟩ by rw [readP_may HL.out hm]; exact hq)
                have HE := Lib.hid (show readE l = 0 by rw [readE_16 HL.out, Pt.chk_zero hm])
                clear hM hm hq
                go_wp2_with fail
                refine (HM.out _).mono ?_
                rintro e wz ⟨rfl, b9⟩
                have hy := HYn.out.below b9 HYn.out.lt
                have hx := HXn.out.below b9 HXn.out.lt
                have HBZ := Lib.hid (below_to HS.out b9 HS.out.size)
                clear y0 y1 y2 y3 y4 b9 HYn HXn HS
                obtain ⟨y0, y1, y2, y3, y4⟩ := hy.cells
                have hfro := hx.frozen
                obtain ⟨d0, d1, d2, d3, d4⟩ := hx.cells
                obtain ⟨e0, e1, e2, e3, e4⟩ := hx.five (.int .i64 qa) (.int .u32 qb) (.int .u32 qi) (.int .u32 qt) (.int .u32 qs)
                have hlt := hx.lt
                have HXZ := Lib.hid hx
                clear hx hy
                go_wp2
                have hf := HXZ.out.put (.int .i64 qa) (.int .u32 qb) (.int .u32 qi) (.int .u32 qt) (.int .u32 qs)
                obtain ⟨f0, f1, f2, f3, f4⟩ := hf.cells
                unfold put5 at f0 f1 f2 f3 f4
                refine bodyPost_ret (v := .tuple #[.agg #[.int .i64 qa, .int .u32 qb, .int .u32 qi, .int .u32 qt, .int .u32 qs], .int .i64 0]) (by simp [results, Try.results33, go_sem, f0, f1, f2, f3, f4]) rfl ?_
                exact ⟨by rw [HP.out, HE.out]; rfl, below_put5 HBZ.out (Nat.le_refl _) _ _ _ _ _⟩
              · have hq := HQ.out
                have hM := fun W => q_may ⟨qa, qb, qi, qt, qs⟩ false (decide_eq_false (by rw [← hq]; exact hm)) W
                dsimp only at hM
                have HM := Lib.hid hM
                have HP := Lib.hid (show readP l = Pt.zero from readP_bad hm)
                have HE := Lib.hid (show readE l = 8 by rw [readE_16 HL.out, Pt.chk_bad hm])
                clear hM hm hq
                go_wp2_with fail
                refine (HM.out _).mono ?_
                rintro e wz ⟨rfl, b9⟩
                have hx := HXn.out.below b9 HXn.out.lt
                have HBZ := Lib.hid (below_to HS.out b9 HS.out.size)
                clear y0 y1 y2 y3 y4 b9 HYn HXn HS
                have hfro := hx.frozen
                obtain ⟨d0, d1, d2, d3, d4⟩ := hx.cells
                obtain ⟨e0, e1, e2, e3, e4⟩ := hx.five (.int .i64 0) (.int .u32 0) (.int .u32 0) (.int .u32 0) (.int .u32 0)
                have HXZ := Lib.hid hx
                clear hx
                go_wp2
                have hf := HXZ.out.put (.int .i64 0) (.int .u32 0) (.int .u32 0) (.int .u32 0) (.int .u32 0)
                obtain ⟨f0, f1, f2, f3, f4⟩ := hf.cells
                unfold put5 at f0 f1 f2 f3 f4
                refine bodyPost_ret (v := .tuple #[.agg #[.int .i64 0, .int .u32 0, .int .u32 0, .int .u32 0, .int .u32 0], .int .i64 8]) (by simp [results, Try.results33, go_sem, f0, f1, f2, f3, f4]) rfl ?_
                exact ⟨by rw [HP.out, HE.out]; rfl, below_put5 HBZ.out (Nat.le_refl _) _ _ _ _ _⟩
            exact AllReadyH.nil
          exact AllReadyH.nil
        exact AllReadyH.nil
      exact AllReadyH.nil
    exact AllReadyH.nil
  refine all_consH rfl (fun K hK => ?_) ?_
  · skip
    refine stp_mkq (fun g => .pointer (some ⟨g, 0, none⟩)) (.cells #[.int .i64 0, .int .u32 0, .int .u32 0, .int .u32 0, .int .u32 0] 31) (by go_simp) (by go_simp) ?_
    intro gY V9 hn hb9
    have hSn := below_to hS hb9.out hS.size
    have HY := Lib.hid (show Box5 V9 gY 31 (.int .i64 0) (.int .u32 0) (.int .u32 0) (.int .u32 0) (.int .u32 0) from hn.out.2.2)
    have HG := Lib.hid (show w.heap.size < gY from by have := HX2.out.lt; have := hn.out.1; omega)
    replace HX2 := Lib.hid (HX2.out.below hb9.out HX2.out.lt)
    clear hn hb9
    refine hK.out _ _ hSn (fun hS => ?_)
    clear hK K hSn
    try go_simp
    refine wpAnyH_ready (rs := [6]) (by kernel_rfl) (by simp) ?_
    refine all_consH rfl (fun K hK => ?_) ?_
    · skip
      refine Stp.mk ?_
      go_simp
      go_wp2_with fail
      refine (G1.out _ hS).mono ?_
      rintro e V1 ⟨rfl, b9⟩
      have hSn := below_to hS b9 hS.size
      replace HX2 := Lib.hid (HX2.out.below b9 HX2.out.lt)
      replace HY := Lib.hid (HY.out.below b9 HY.out.lt)
      clear b9
      go_wp2
      refine hK.out _ _ hSn (fun hS => ?_)
      clear hK K hSn
      try go_simp
      refine wpAnyH_ready (rs := [9]) (by kernel_rfl) (by simp) ?_
      refine all_consH rfl (fun K hK => ?_) ?_
      · skip
        refine Stp.mk ?_
        go_simp
        go_wp2_with fail
        refine (G2.out _ hS).mono ?_
        rintro e V2 ⟨rfl, b9⟩
        have hSn := below_to hS b9 hS.size
        replace HX2 := Lib.hid (HX2.out.below b9 HX2.out.lt)
        replace HY := Lib.hid (HY.out.below b9 HY.out.lt)
        clear b9
        go_wp2
        refine hK.out _ _ hSn (fun hS => ?_)
        clear hK K hSn
        try go_simp
        refine wpAnyH_ready (rs := [12]) (by kernel_rfl) (by simp) ?_
        refine all_consH rfl (fun K hK => ?_) ?_
        · skip
          refine Stp.mk ?_
          go_simp
          go_wp2_with fail
          refine (G3.out _ hS).mono ?_
          rintro e V3 ⟨rfl, b9⟩
          have hSn := below_to hS b9 hS.size
          replace HX2 := Lib.hid (HX2.out.below b9 HX2.out.lt)
          replace HY := Lib.hid (HY.out.below b9 HY.out.lt)
          clear b9
          go_wp2
          refine hK.out _ _ hSn (fun hS => ?_)
          clear hK K hSn
          try go_simp
          refine wpAnyH_ready (rs := [15]) (by kernel_rfl) (by simp) ?_
          refine all_consH rfl (fun K hK => ?_) ?_
          · skip
            refine Stp.mk ?_
            go_simp
            go_wp2_with fail
            refine (G4.out _ hS).mono ?_
            rintro e V4 ⟨rfl, b9⟩
            have hSn := below_to hS b9 hS.size
            replace HX2 := Lib.hid (HX2.out.below b9 HX2.out.lt)
            replace HY := Lib.hid (HY.out.below b9 HY.out.lt)
            clear b9
            go_wp2
            refine hK.out _ _ hSn (fun hS => ?_)
            clear hK K hSn
            refine wpAnyH_take (i := 16) (v := ?_) rfl (by kernel_rfl) (by kernel_rfl) (by kernel_rfl) (fun _ _ _ h => h) (Or.inl ⟨by rfl, ?hyq⟩) hS ?_
            case hyq =>
              intro w hw
              go_simp
              try (with_reducible rfl)
            try go_simp
            refine wpAnyH_ready (rs := [18]) (by kernel_rfl) (by simp) ?_
            refine all_consH rfl (fun K hK => ?_) ?_
            · skip
              refine Stp.mk ?_
              obtain ⟨m0, m1, m2, m3, m4⟩ := HY.out.cells
              have mf := HY.out.frozen
              have hYn := HY.out.put (.int .i64 qa) (.int .u32 qb) (.int .u32 qi) (.int .u32 qt) (.int .u32 qs)
              have hSn := below_put5 hS (Nat.le_of_lt HG.out) (.int .i64 qa) (.int .u32 qb) (.int .u32 qi) (.int .u32 qt) (.int .u32 qs)
              have hXn := HX2.out.below (below_put5 (Below.refl gY _) (Nat.le_refl _) (.int .i64 qa) (.int .u32 qb) (.int .u32 qi) (.int .u32 qt) (.int .u32 qs)) HG.out
              unfold put5 at hYn hSn hXn
              have HYn := Lib.hid hYn
              have HXn := Lib.hid hXn
              clear hYn hXn
              go_simp
              clear m0 m1 m2 m3 m4 mf
              refine hK.out _ _ hSn (fun hS => ?_)
              clear hK K hSn
              refine wpAnyH_done (by kernel_rfl) ?_ _
              have HS := Lib.hid hS
              obtain ⟨y0, y1, y2, y3, y4⟩ := HYn.out.cells
              clear HY HX2 hS hwq G1 G2 G3 G4 HC0 hci hci4 hci8 hci12 hn1 hn4 hn8 hn12
              by_cases hm : (rd16 l).May
              · have hq := HQ.out
                have hM := fun W => q_may ⟨qa, qb, qi, qt, qs⟩ true (decide_eq_true (by rw [← hq]; exact hm)) W
                dsimp only at hM
                have HM := Lib.hid hM
                have HP := Lib.hid (show readP l = ⟨qa, qb, qi, qt, qs⟩ by rw [readP_may HL.out hm]; exact hq)
                have HE := Lib.hid (show readE l = 0 by rw [readE_16 HL.out, Pt.chk_zero hm])
                clear hM hm hq
                go_wp2_with fail
                refine (HM.out _).mono ?_
                rintro e wz ⟨rfl, b9⟩
                have hy := HYn.out.below b9 HYn.out.lt
                have hx := HXn.out.below b9 HXn.out.lt
                have HBZ := Lib.hid (below_to HS.out b9 HS.out.size)
                clear y0 y1 y2 y3 y4 b9 HYn HXn HS
                obtain ⟨y0, y1, y2, y3, y4⟩ := hy.cells
                have hfro := hx.frozen
                obtain ⟨d0, d1, d2, d3, d4⟩ := hx.cells
                obtain ⟨e0, e1, e2, e3, e4⟩ := hx.five (.int .i64 qa) (.int .u32 qb) (.int .u32 qi) (.int .u32 qt) (.int .u32 qs)
                have hlt := hx.lt
                have HXZ := Lib.hid hx
                clear hx hy
                go_wp2
                have hf := HXZ.out.put (.int .i64 qa) (.int .u32 qb) (.int .u32 qi) (.int .u32 qt) (.int .u32 qs)
                obtain ⟨f0, f1, f2, f3, f4⟩ := hf.cells
                unfold put5 at f0 f1 f2 f3 f4
                refine bodyPost_ret (v := .tuple #[.agg #[.int .i64 qa, .int .u32 qb, .int .u32 qi, .int .u32 qt, .int .u32 qs], .int .i64 0]) (by simp [results, Try.results33, go_sem, f0, f1, f2, f3, f4]) rfl ?_
                exact ⟨by rw [HP.out, HE.out]; rfl, below_put5 HBZ.out (Nat.le_refl _) _ _ _ _ _⟩
              · have hq := HQ.out
                have hM := fun W => q_may ⟨qa, qb, qi, qt, qs⟩ false (decide_eq_false (by rw [← hq]; exact hm)) W
                dsimp only at hM
                have HM := Lib.hid hM
                have HP := Lib.hid (show readP l = Pt.zero from readP_bad hm)
                have HE := Lib.hid (show readE l = 8 by rw [readE_16 HL.out, Pt.chk_bad hm])
                clear hM hm hq
                go_wp2_with fail
                refine (HM.out _).mono ?_
                rintro e wz ⟨rfl, b9⟩
                have hx := HXn.out.below b9 HXn.out.lt
                have HBZ := Lib.hid (below_to HS.out b9 HS.out.size)
                clear y0 y1 y2 y3 y4 b9 HYn HXn HS
                have hfro := hx.frozen
                obtain ⟨d0, d1, d2, d3, d4⟩ := hx.cells
                obtain ⟨e0, e1, e2, e3, e4⟩ := hx.five (.int .i64 0) (.int .u32 0) (.int .u32 0) (.int .u32 0) (.int .u32 0)
                have HXZ := Lib.hid hx
                clear hx
                go_wp2
                have hf := HXZ.out.put (.int .i64 0) (.int .u32 0) (.int .u32 0) (.int .u32 0) (.int .u32 0)
                obtain ⟨f0, f1, f2, f3, f4⟩ := hf.cells
                unfold put5 at f0 f1 f2 f3 f4
                refine bodyPost_ret (v := .tuple #[.agg #[.int .i64 0, .int .u32 0, .int .u32 0, .int .u32 0, .int .u32 0], .int .i64 8]) (by simp [results, Try.results33, go_sem, f0, f1, f2, f3, f4]) rfl ?_
                exact ⟨by rw [HP.out, HE.out]; rfl, below_put5 HBZ.out (Nat.le_refl _) _ _ _ _ _⟩
            exact AllReadyH.nil
          exact AllReadyH.nil
        exact AllReadyH.nil
      exact AllReadyH.nil
    exact AllReadyH.nil
  exact AllReadyH.nil
theorem q_read (A : Option Addr) (n c : Nat) (l : List UInt8) (w : World) (hl : l.length = n) (hc : n ≤ c) (hr : Rd w w.heap.size 1 A n (bvs l)) :
    Calls Try.prog 33 #[.slice A n c] w fun e w' => e = .returned (.tuple #[(readP l).v, .int .i64 (readE l)]) ∧ Below w.heap.size w w' := by
  by_cases h : n = 16
  · subst h
    exact q_read_16 A c l w hl hc hr
  · rw [readE_len (by omega), readP_len (by omega)]
    exact q_read_len A n c w (by omega)
end Go.Proofs.Ytgcagenhfddpgaa
