/-
  Contract of charterhouseref09.Tamper.
-/
import Derived.Test.YtkaklppkmokffaaRf9k
import Derived.Test.YtkaklppkmokffaaLaw09p
namespace Go.Proofs.Ytkaklppkmokffaa
open Go.RowKit
set_option linter.unusedVariables false
set_option linter.unusedSimpArgs false
set_option maxRecDepth 100000

theorem Ct.May.small {d : Dk} {w : World} (hm : d.c.May) (hd : d.ok w) : (∀ s ∈ d.bs, (s.n : Int) ≤ 1000000000) ∧ ∀ x ∈ d.ws, (x.s.n : Int) ≤ 1000000000 :=
  ⟨fun s hs => by
    have h1 := hm.2.1 s.l (List.mem_map_of_mem hs)
    have h2 := (hd.sb s hs).1
    omega, fun x hx => by
    have h1 := (hm.2.2.2 (Wt.c x) (List.mem_map_of_mem hx)).2
    have h2 := (hd.sw x hx).1.1
    simp only [Wt.c] at h1
    omega⟩
set_option maxHeartbeats 4000000 in
theorem r_tamper (d : Dk) (w : World) (hd : d.ok w) (hB6 : (d.nB : Int) ≤ 1000000) (hW6 : (d.nW : Int) ≤ 1000000) (at_ byt : Int) (v : UInt8) (E : Int) (hE : E = errG d.c (decide ((0 ≤ at_ ∧ at_ < 256) ∧ 0 ≤ byt ∧ byt < 256))) :
    Calls Try.prog 19 #[d.v, .int .i64 at_, .int .i64 byt, .int .u8 (v.toNat : Int)] w (AnsP (d.c.tamper at_.toNat byt.toNat v) E w) := by
  obtain ⟨v1, hv1⟩ : ∃ q, q = decide (0 ≤ at_ ∧ at_ < 256) := ⟨_, rfl⟩
  obtain ⟨v2, hv2⟩ : ∃ q, q = decide (0 ≤ byt ∧ byt < 256) := ⟨_, rfl⟩
  have hvv : (v1 && v2) = decide ((0 ≤ at_ ∧ at_ < 256) ∧ 0 ≤ byt ∧ byt < 256) := by rw [hv1, hv2, Bool.decide_and (0 ≤ at_ ∧ at_ < 256)]
  rw [← hvv] at hE
  obtain ⟨w2, hw2⟩ : ∃ V, V = (w.alloc (.cells #[.slice d.A d.nB d.cB, .slice d.W d.nW d.cW] 25)).alloc (.cells #[.slice none 0 0, .slice none 0 0] 25) := ⟨_, rfl⟩
  have hb2 : Below w.heap.size w w2 := by rw [hw2]; exact (below_new' w _).alloc (by simp) _
  have hx2 : DkBox w2 w.heap.size (.slice d.A d.nB d.cB) (.slice d.W d.nW d.cW) := by rw [hw2]; exact (DkBox.new w _ _).alloc _
  have hz2 : w2.heap.size = w.heap.size + 2 := by rw [hw2]; simp
  have hr2 : DkBox w2 (w.heap.size + 1) (.slice none 0 0) (.slice none 0 0) := by
    rw [hw2]
    have := DkBox.new (w.alloc (.cells #[.slice d.A d.nB d.cB, .slice d.W d.nW d.cW] 25)) (.slice none 0 0) (.slice none 0 0)
    rw [World.size_alloc] at this
    exact this
  have hp1 := fun V => r_place at_ V v1 hv1
  have hp2 := fun V => r_place byt V v2 hv2
  have ha := r_ask d (v1 && v2) w2.drew (hd.below hb2.drew) hB6 hW6 E hE
  obtain ⟨c0, c1⟩ := hx2.cells
  have HP1 := Lib.hid hp1
  have HP2 := Lib.hid hp2
  have HA := Lib.hid ha
  have HX := Lib.hid hx2
  have HR := Lib.hid hr2
  have HB := Lib.hid hb2
  have HZ := Lib.hid hz2
  have HW2 := Lib.hid hw2
  have HD := Lib.hid hd
  have HE := Lib.hid hE
  have HV1 := Lib.hid hv1
  have HV2 := Lib.hid hv2
  clear hb2 hx2 hz2 hr2 hw2 hd ha hE hp1 hp2 hv1 hv2 hvv
  simp only [Dk.v] at *
  go_enter Try.func19, Try.ntmps19
  go_wp2_with fail
  rw [← HW2.out]
  clear HW2
  cases v1 with
  | true =>
    simp only [Bool.true_and, Bool.false_and] at HA HE
    refine wp_region_held_drew (S := fun V => DkBox V w.heap.size (.slice d.A d.nB d.cB) (.slice d.W d.nW d.cW)) (by kernel_rfl) (show DkBox w2.drew _ _ _ from HX.out) (fun hS => ?_)
    refine wpAnyH_take (i := 0) (v := ?_) rfl (by kernel_rfl) (by kernel_rfl) (by kernel_rfl) (fun _ _ _ h => h) (Or.inl ⟨by rfl, ?hyq⟩) hS ?_
    case hyq =>
      intro w hw
      obtain ⟨k0, k1⟩ := hw.cells
      go_simp
      try (with_reducible rfl)
    refine wpAnyH_take (i := 1) (v := ?_) rfl (by kernel_rfl) (by kernel_rfl) (by kernel_rfl) (fun _ _ _ h => h) (Or.inl ⟨by rfl, ?hyq⟩) hS ?_
    case hyq =>
      intro w hw
      go_simp
      try (with_reducible rfl)
    try go_simp
    refine wpAnyH_ready (rs := [2]) (by kernel_rfl) (by simp) ?_
    refine all_consH rfl (fun K hK => ?_) ?_
    · skip
      refine Stp.mk ?_
      go_simp
      go_wp2_with fail
      refine (HP1.out _).mono ?_
      rintro e w9 ⟨rfl, rfl⟩
      have hSn := hS
      go_wp2
      refine hK.out _ _ hSn (fun hS => ?_)
      clear hK K hSn
      refine wpAnyH_take (i := 3) (v := ?_) rfl (by kernel_rfl) (by kernel_rfl) (by kernel_rfl) (fun _ _ _ h => h) (Or.inl ⟨by rfl, ?hyq⟩) hS ?_
      case hyq =>
        intro w hw
        go_simp
        try (with_reducible rfl)
      refine wpAnyH_take (i := 4) (v := ?_) rfl (by kernel_rfl) (by kernel_rfl) (by kernel_rfl) (fun _ _ _ h => h) (Or.inl ⟨by rfl, ?hyq⟩) hS ?_
      case hyq =>
        intro w hw
        go_simp
        try (with_reducible rfl)
      try go_simp
      refine wpAnyH_ready (rs := [5]) (by kernel_rfl) (by simp) ?_
      refine all_consH rfl (fun K hK => ?_) ?_
      · skip
        refine Stp.mk ?_
        go_simp
        go_wp2_with fail
        refine (HP2.out _).mono ?_
        rintro e w9 ⟨rfl, rfl⟩
        have hSn := hS
        go_wp2
        refine hK.out _ _ hSn (fun hS => ?_)
        clear hK K hSn
        refine wpAnyH_take (i := 6) (v := ?_) rfl (by kernel_rfl) (by kernel_rfl) (by kernel_rfl) (fun _ _ _ h => h) (Or.inl ⟨by rfl, ?hyq⟩) hS ?_
        case hyq =>
          intro w hw
          go_simp
          try (with_reducible rfl)
        try go_simp
        refine wpAnyH_ready (rs := [7]) (by kernel_rfl) (by simp) ?_
        refine all_consH rfl (fun K hK => ?_) ?_
        · skip
          refine Stp.mk ?_
          go_simp
          go_wp2_with fail
          refine HA.out.mono ?_
          rintro e w3 ⟨rfl, hb3⟩
          have HX3 := Lib.hid (hS.below hb3 hS.lt)
          have HR3 := Lib.hid ((show DkBox w2.drew _ _ _ from HR.out).below hb3 HR.out.lt)
          have HB3 := Lib.hid (below_to HB.out.drew hb3 HB.out.size)
          have HZ3 := Lib.hid (show w.heap.size + 2 ≤ w3.heap.size from by have := hb3.size; rw [show w2.drew.heap.size = w2.heap.size from rfl, HZ.out] at this; exact this)
          have hSn := hS.below hb3 hS.lt
          clear hb3
          go_wp2
          refine hK.out _ _ hSn (fun hS => ?_)
          clear hK K hSn
          try go_simp
          refine wpAnyH_ready (rs := [8]) (by kernel_rfl) (by simp) ?_
          refine all_consH rfl (fun K hK => ?_) ?_
          · skip
            refine Stp.mk ?_
            go_simp
            have hSn := hS
            refine hK.out _ _ hSn (fun hS => ?_)
            clear hK K hSn
            refine wpAnyH_done (by kernel_rfl) ?_ _
            clear HA HX HR HB HZ c0 c1 HP1 HP2
            obtain ⟨x0, x1⟩ := HX3.out.cells
            by_cases hmay : d.c.May
            ·
              cases v2 with
              | true =>
                obtain rfl : E = 0 := by rw [HE.out, errG_ok hmay]
                obtain ⟨h1, h2⟩ := of_decide_eq_true HV1.out.symm
                obtain ⟨h3, h4⟩ := of_decide_eq_true HV2.out.symm
                obtain ⟨a, rfl⟩ := Int.eq_ofNat_of_zero_le h1
                obtain ⟨b, rfl⟩ := Int.eq_ofNat_of_zero_le h3
                have ha : a < 256 := by omega
                have hb : b < 256 := by omega
                obtain ⟨s1, s2⟩ := hmay.small HD.out
                have htw := r_twinA d w3 (HD.out.below HB3.out) hB6 hW6 s1 s2
                simp only [Dk.v] at htw
                have HTW := Lib.hid htw
                have HMAY := Lib.hid hmay
                clear htw s1 s2 hmay HV1 HV2 h1 h2 h3 h4
                go_wp2_with fail
                refine HTW.out.mono ?_
                rintro e w4 ⟨d', rfl, hn4, hb4, hap⟩
                have hr4 := HR3.out.below hb4 HR3.out.lt
                have hbw := below_to HB3.out hb4 HB3.out.size
                obtain ⟨gA, g, off, k, x, hA, hgAl, hgl, hnb, hca, hcx, hfx, hgb, ⟨cur, fz, hh⟩, hnw⟩ := hn4.turn hap HMAY.out ha hb v
                have hgR := box_ne hr4 hh
                obtain ⟨dA, nB, cB, bs, dW, nW, cW, ws⟩ := d'
                simp only at hA hnb
                subst hA
                subst hnb
                obtain ⟨r0, r1⟩ := hr4.cells
                have rf := hr4.frozen
                have hlt := hr4.lt
                have hgR' : ¬ g = w.heap.size + 1 := hgR
                have hR' : ¬ w.heap.size + 1 = g := Ne.symm hgR
                rw [← xor_u8] at hnw
                have HN5 := Lib.hid ((((hnw.mono (base' := w.heap.size + 2) HZ3.out).grown (grown_setCell _ ⟨w.heap.size + 1, 0, none⟩ (.slice (some ⟨gA, 0, none⟩) 256 cB)) (fun j hj => by cases hj; exact Nat.lt_succ_self _)).grown (grown_setCell _ ⟨w.heap.size + 1, 1, none⟩ (.slice dW nW cW)) (fun j hj => by cases hj; exact Nat.lt_succ_self _)).below (below_new' _ (.cells #[.slice (some ⟨gA, 0, none⟩) 256 cB, .slice dW nW cW] 25)))
                have HB5 := Lib.hid ((((hbw.setCell (p := ⟨g, off + b, none⟩) (by have := HZ3.out; simp; omega) (.int .u8 (bits .xor .u8 (x.toNat : Int) (v.toNat : Int)))).setCell (p := ⟨w.heap.size + 1, 0, none⟩) (Nat.le_succ _) (.slice (some ⟨gA, 0, none⟩) 256 cB)).setCell (p := ⟨w.heap.size + 1, 1, none⟩) (Nat.le_succ _) (.slice dW nW cW)).alloc (by have := hbw.size; simp; exact this) (.cells #[.slice (some ⟨gA, 0, none⟩) 256 cB, .slice dW nW cW] 25))
                have ha0 : ¬ ((a : Int) < 0) := by omega
                have ha1 : (a : Int) < 256 := by omega
                have hb0 : ¬ ((b : Int) < 0) := by omega
                have hb1 : (b : Int) < 256 := by omega
                clear hn4 hb4 hap hr4 hbw hh hnw hgR HTW HB3 HX3 HR3 x0 x1 hgb
                go_wp2
                refine bodyPost_ret (v := .tuple #[.agg #[.slice (some ⟨gA, 0, none⟩) 256 cB, .slice dW nW cW], .int .i64 0]) (by simp [results, Try.results19, go_sem, r0, r1, hlt, hgR', hR']) rfl ?_
                exact ⟨⟨some ⟨gA, 0, none⟩, 256, cB, turnS bs a b v, dW, nW, cW, ws⟩, rfl, HN5.out.mono (Nat.le_add_right _ _), HB5.out⟩
              | false =>
                obtain rfl : E = 2 := by rw [HE.out, errG_arg hmay]
                obtain ⟨r0, r1⟩ := HR3.out.cells
                have rf := HR3.out.frozen
                have hlt := HR3.out.lt
                have hb9 := (HB3.out.setCell (p := ⟨w.heap.size + 1, 0, none⟩) (Nat.le_succ _) (.slice none 0 0)).setCell (p := ⟨w.heap.size + 1, 1, none⟩) (Nat.le_succ _) (.slice none 0 0)
                have HB9 := Lib.hid hb9
                clear hb9 hmay
                go_wp2
                refine bodyPost_ret (v := .tuple #[.agg #[.slice none 0 0, .slice none 0 0], .int .i64 2]) (by simp [results, Try.results19, go_sem, r0, r1]) rfl ?_
                exact ⟨Dk.nil, rfl, Nw.nil _ _, HB9.out⟩
            · obtain rfl : E = 8 := by rw [HE.out, errG_bad hmay]
              obtain ⟨r0, r1⟩ := HR3.out.cells
              have rf := HR3.out.frozen
              have hlt := HR3.out.lt
              have hb9 := (HB3.out.setCell (p := ⟨w.heap.size + 1, 0, none⟩) (Nat.le_succ _) (.slice none 0 0)).setCell (p := ⟨w.heap.size + 1, 1, none⟩) (Nat.le_succ _) (.slice none 0 0)
              have HB9 := Lib.hid hb9
              clear hb9 hmay
              go_wp2
              refine bodyPost_ret (v := .tuple #[.agg #[.slice none 0 0, .slice none 0 0], .int .i64 8]) (by simp [results, Try.results19, go_sem, r0, r1]) rfl ?_
              exact ⟨Dk.nil, rfl, Nw.nil _ _, HB9.out⟩
          exact AllReadyH.nil
        exact AllReadyH.nil
      exact AllReadyH.nil
    exact AllReadyH.nil
  | false =>
    simp only [Bool.true_and, Bool.false_and] at HA HE
    refine wp_region_held_drew (S := fun V => DkBox V w.heap.size (.slice d.A d.nB d.cB) (.slice d.W d.nW d.cW)) (by kernel_rfl) (show DkBox w2.drew _ _ _ from HX.out) (fun hS => ?_)
    refine wpAnyH_take (i := 0) (v := ?_) rfl (by kernel_rfl) (by kernel_rfl) (by kernel_rfl) (fun _ _ _ h => h) (Or.inl ⟨by rfl, ?hyq⟩) hS ?_
    case hyq =>
      intro w hw
      obtain ⟨k0, k1⟩ := hw.cells
      go_simp
      try (with_reducible rfl)
    refine wpAnyH_take (i := 1) (v := ?_) rfl (by kernel_rfl) (by kernel_rfl) (by kernel_rfl) (fun _ _ _ h => h) (Or.inl ⟨by rfl, ?hyq⟩) hS ?_
    case hyq =>
      intro w hw
      go_simp
      try (with_reducible rfl)
    try go_simp
    refine wpAnyH_ready (rs := [2]) (by kernel_rfl) (by simp) ?_
    refine all_consH rfl (fun K hK => ?_) ?_
    · skip
      refine Stp.mk ?_
      go_simp
      go_wp2_with fail
      refine (HP1.out _).mono ?_
      rintro e w9 ⟨rfl, rfl⟩
      have hSn := hS
      go_wp2
      refine hK.out _ _ hSn (fun hS => ?_)
      clear hK K hSn
      refine wpAnyH_take (i := 3) (v := ?_) rfl (by kernel_rfl) (by kernel_rfl) (by kernel_rfl) (fun _ _ _ h => h) (Or.inl ⟨by rfl, ?hyq⟩) hS ?_
      case hyq =>
        intro w hw
        go_simp
        try (with_reducible rfl)
      refine wpAnyH_take (i := 4) (v := undef) rfl (by kernel_rfl) (by kernel_rfl) (by kernel_rfl) (fun _ _ _ h => h) (Or.inr ⟨by rfl, rfl⟩) hS ?_
      refine wpAnyH_take (i := 5) (v := undef) rfl (by kernel_rfl) (by kernel_rfl) (by kernel_rfl) (fun _ _ _ h => h) (Or.inr ⟨by rfl, rfl⟩) hS ?_
      refine wpAnyH_take (i := 6) (v := ?_) rfl (by kernel_rfl) (by kernel_rfl) (by kernel_rfl) (fun _ _ _ h => h) (Or.inl ⟨by rfl, ?hyq⟩) hS ?_
      case hyq =>
        intro w hw
        go_simp
        try (with_reducible rfl)
      try go_simp
      refine wpAnyH_ready (rs := [7]) (by kernel_rfl) (by simp) ?_
      refine all_consH rfl (fun K hK => ?_) ?_
      · skip
        refine Stp.mk ?_
        go_simp
        go_wp2_with fail
        refine HA.out.mono ?_
        rintro e w3 ⟨rfl, hb3⟩
        have HX3 := Lib.hid (hS.below hb3 hS.lt)
        have HR3 := Lib.hid ((show DkBox w2.drew _ _ _ from HR.out).below hb3 HR.out.lt)
        have HB3 := Lib.hid (below_to HB.out.drew hb3 HB.out.size)
        have HZ3 := Lib.hid (show w.heap.size + 2 ≤ w3.heap.size from by have := hb3.size; rw [show w2.drew.heap.size = w2.heap.size from rfl, HZ.out] at this; exact this)
        have hSn := hS.below hb3 hS.lt
        clear hb3
        go_wp2
        refine hK.out _ _ hSn (fun hS => ?_)
        clear hK K hSn
        try go_simp
        refine wpAnyH_ready (rs := [8]) (by kernel_rfl) (by simp) ?_
        refine all_consH rfl (fun K hK => ?_) ?_
        · skip
          refine Stp.mk ?_
          go_simp
          have hSn := hS
          refine hK.out _ _ hSn (fun hS => ?_)
          clear hK K hSn
          refine wpAnyH_done (by kernel_rfl) ?_ _
          clear HA HX HR HB HZ c0 c1 HP1 HP2
          obtain ⟨x0, x1⟩ := HX3.out.cells
          by_cases hmay : d.c.May
          ·
            obtain rfl : E = 2 := by rw [HE.out, errG_arg hmay]
            obtain ⟨r0, r1⟩ := HR3.out.cells
            have rf := HR3.out.frozen
            have hlt := HR3.out.lt
            have hb9 := (HB3.out.setCell (p := ⟨w.heap.size + 1, 0, none⟩) (Nat.le_succ _) (.slice none 0 0)).setCell (p := ⟨w.heap.size + 1, 1, none⟩) (Nat.le_succ _) (.slice none 0 0)
            have HB9 := Lib.hid hb9
            clear hb9 hmay
            go_wp2
            refine bodyPost_ret (v := .tuple #[.agg #[.slice none 0 0, .slice none 0 0], .int .i64 2]) (by simp [results, Try.results19, go_sem, r0, r1]) rfl ?_
            exact ⟨Dk.nil, rfl, Nw.nil _ _, HB9.out⟩
          · obtain rfl : E = 8 := by rw [HE.out, errG_bad hmay]
            obtain ⟨r0, r1⟩ := HR3.out.cells
            have rf := HR3.out.frozen
            have hlt := HR3.out.lt
            have hb9 := (HB3.out.setCell (p := ⟨w.heap.size + 1, 0, none⟩) (Nat.le_succ _) (.slice none 0 0)).setCell (p := ⟨w.heap.size + 1, 1, none⟩) (Nat.le_succ _) (.slice none 0 0)
            have HB9 := Lib.hid hb9
            clear hb9 hmay
            go_wp2
            refine bodyPost_ret (v := .tuple #[.agg #[.slice none 0 0, .slice none 0 0], .int .i64 8]) (by simp [results, Try.results19, go_sem, r0, r1]) rfl ?_
            exact ⟨Dk.nil, rfl, Nw.nil _ _, HB9.out⟩
        exact AllReadyH.nil
      exact AllReadyH.nil
    exact AllReadyH.nil
end Go.Proofs.Ytkaklppkmokffaa
