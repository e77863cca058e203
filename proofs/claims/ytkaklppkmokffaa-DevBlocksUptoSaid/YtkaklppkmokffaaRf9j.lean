/-
  Contract of charterhouseref09.Read.
-/
import Derived.Test.YtkaklppkmokffaaRf9i
import Derived.Test.YtkaklppkmokffaaDevP
namespace Go.Proofs.Ytkaklppkmokffaa
open Go.RowKit
set_option linter.unusedVariables false
set_option linter.unusedSimpArgs false
set_option maxRecDepth 100000

theorem left_getD (d : Dk) (w : World) (hd : d.ok w) (hmay : d.c.May) (so : Nat → Bool) (a : Nat) (ha : a < 256) : wantL d.c so (a : Int) d.nW = (d.c.left so).b.getD (a : Int).toNat [] := by
  have hdw : d.c.w.length = d.nW := by rw [Dk.c_w, List.length_map, hd.lw]
  rw [← kept_c d.c so hmay d.nW hdw, Int.toNat_natCast, List.getD_eq_getElem?_getD, List.getElem?_map, List.getElem?_range ha]
  rfl
set_option maxHeartbeats 2000000 in
theorem r_read (d : Dk) (w : World) (hd : d.ok w) (hB6 : (d.nB : Int) ≤ 1000000) (hW6 : (d.nW : Int) ≤ 1000000) (at_ : Int) (hat : I64 at_) (E : Int) (hE : E = errG d.c (decide (0 ≤ at_ ∧ at_ < 256))) :
    Calls Try.prog 23 #[d.v, .int .i64 at_] w (ReadP (d.c.left fun _ => true) at_ E w) := by
  obtain ⟨q, hq⟩ : ∃ q, q = decide (0 ≤ at_ ∧ at_ < 256) := ⟨_, rfl⟩
  rw [← hq] at hE
  obtain ⟨w2, hw2⟩ : ∃ V, V = (w.alloc (.cells #[.slice d.A d.nB d.cB, .slice d.W d.nW d.cW] 25)) := ⟨_, rfl⟩
  have hb2 : Below w.heap.size w w2 := by rw [hw2]; exact (below_new' w _)
  have hx2 : DkBox w2 w.heap.size (.slice d.A d.nB d.cB) (.slice d.W d.nW d.cW) := by rw [hw2]; exact (DkBox.new w _ _)
  have hp := fun V => r_place at_ V q hq
  have ha := r_ask d q w2.drew (hd.below hb2.drew) hB6 hW6 E hE
  obtain ⟨c0, c1⟩ := hx2.cells
  have HP := Lib.hid hp
  have HA := Lib.hid ha
  have HX := Lib.hid hx2
  have HB := Lib.hid hb2
  have HW2 := Lib.hid hw2
  have HD := Lib.hid hd
  have HE := Lib.hid hE
  have HQ := Lib.hid hq
  clear hb2 hx2 hw2 hd ha hE hq hp hat
  simp only [Dk.v] at *
  go_enter Try.func23, Try.ntmps23
  go_wp2_with fail
  rw [← HW2.out]
  clear HW2
  refine wp_region_held_drew (S := fun V => DkBox V w.heap.size (.slice d.A d.nB d.cB) (.slice d.W d.nW d.cW)) (by kernel_rfl) (show DkBox w2.drew _ _ _ from HX.out) (fun hS => ?_)
  refine wpAnyH_take (i := 0) (v := ?_) rfl (by kernel_rfl) (by kernel_rfl) (by kernel_rfl) (fun _ _ _ h => h) (Or.inl ⟨by rfl, ?hyq⟩) hS ?_
  case hyq =>
    intro w hw
    obtain ⟨k0, k1⟩ := hw.cells
    go_simp
    try (with_reducible rfl)
  refine wpAnyH_take (i := 1) (v := ?_) rfl (by kernel_rfl) (by kernel_rfl) (by kernel_rfl) (fun _ _ _ h => h) (Or.inl ⟨by rfl, ?hyq⟩) hS ?_
  case hyq =>
    intro w hw
    go_simp
    try (with_reducible rfl)
  try go_simp
  refine wpAnyH_ready (rs := [2]) (by kernel_rfl) (by simp) ?_
  refine all_consH rfl (fun K hK => ?_) ?_
  · skip
    refine Stp.mk ?_
    go_simp
    go_wp2_with fail
    refine (HP.out _).mono ?_
    rintro e w9 ⟨rfl, rfl⟩
    have hSn := hS
    go_wp2
    refine hK.out _ _ hSn (fun hS => ?_)
    clear hK K hSn
    try go_simp
    refine wpAnyH_ready (rs := [3]) (by kernel_rfl) (by simp) ?_
    refine all_consH rfl (fun K hK => ?_) ?_
    · skip
      refine Stp.mk ?_
      go_simp
      go_wp2_with fail
      refine HA.out.mono ?_
      rintro e w3 ⟨rfl, hb3⟩
      have HX3 := Lib.hid (hS.below hb3 hS.lt)
      have HB3 := Lib.hid (below_to HB.out.drew hb3 HB.out.size)
      have hSn := hS.below hb3 hS.lt
      clear hb3
      go_wp2
      refine hK.out _ _ hSn (fun hS => ?_)
      clear hK K hSn
      try go_simp
      refine wpAnyH_ready (rs := [4]) (by kernel_rfl) (by simp) ?_
      refine all_consH rfl (fun K hK => ?_) ?_
      · skip
        refine Stp.mk ?_
        go_simp
        have hSn := hS
        refine hK.out _ _ hSn (fun hS => ?_)
        clear hK K hSn
        refine wpAnyH_done (by kernel_rfl) ?_ _
        clear HA HX HB c0 c1 HP
        obtain ⟨x0, x1⟩ := HX3.out.cells
        by_cases hmay : d.c.May
        · cases q with
          | true =>
            obtain rfl : E = 0 := by rw [HE.out, errG_ok hmay]
            obtain ⟨h1, h2⟩ := of_decide_eq_true HQ.out.symm
            obtain ⟨a, rfl⟩ := Int.eq_ofNat_of_zero_le h1
            have ha : a < 256 := by omega
            have hk := r_seen d a w3 (HD.out.below HB3.out) hmay ha
            rw [left_getD d w HD.out hmay _ a ha] at hk
            simp only [Dk.v] at hk
            have HK := Lib.hid hk
            clear hk hmay h1 h2
            go_wp2_with fail
            refine HK.out.mono ?_
            rintro e w4 ⟨s, rfl, hs, ho, hl, hb4⟩
            have HS := Lib.hid hs
            have HO := Lib.hid (ho.mono HB3.out.size)
            have HL := Lib.hid hl
            have HB4 := Lib.hid (below_to HB3.out hb4 HB3.out.size)
            clear hs ho hl hb4 HK x0 x1
            go_wp2
            refine bodyPost_ret (v := .tuple #[.slice s.A s.n s.c, .int .i64 0]) (by simp [results, Try.results23, go_sem]) rfl ?_
            exact ⟨s, rfl, HS.out, HO.out, by rw [HL.out, if_pos rfl], HB4.out⟩
          | false =>
            obtain rfl : E = 2 := by rw [HE.out, errG_arg hmay]
            clear hmay
            go_wp2
            refine bodyPost_ret (v := .tuple #[.slice none 0 0, .int .i64 2]) (by simp [results, Try.results23, go_sem]) rfl ?_
            exact ⟨nilS, rfl, nilS_came _, nilS_own _ _, rfl, HB3.out⟩
        · obtain rfl : E = 8 := by rw [HE.out, errG_bad hmay]
          clear hmay
          go_wp2
          refine bodyPost_ret (v := .tuple #[.slice none 0 0, .int .i64 8]) (by simp [results, Try.results23, go_sem]) rfl ?_
          exact ⟨nilS, rfl, nilS_came _, nilS_own _ _, rfl, HB3.out⟩
      exact AllReadyH.nil
    exact AllReadyH.nil
  exact AllReadyH.nil
end Go.Proofs.Ytkaklppkmokffaa
