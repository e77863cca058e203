/-
  Contract of charterhouseref09.With.
-/
import Derived.Test.YtkaklppkmokffaaRf9l
import Derived.Test.YtkaklppkmokffaaDevR
namespace Go.Proofs.Ytkaklppkmokffaa
open Go.RowKit
set_option linter.unusedVariables false
set_option linter.unusedSimpArgs false
set_option maxRecDepth 100000

theorem Nw.pushW {c : Ct} {base dd : Nat} {d : Dk} {D : Option Addr} {w w' : World} {x : Wt} (h : Nw c base d w) (hx : x.s.came w) (hxa : I64 x.a) (hox : Own w base x.s) (hg : w.grownBy w' (rowOf d.W d.cW)) (hf : Fr w' base 54 2 D (d.nW + 1) dd (wcs (d.ws ++ [x]))) :
    Nw ⟨c.b, c.w ++ [x.c]⟩ base ⟨d.A, d.nB, d.cB, d.bs, D, d.nW + 1, dd, d.ws ++ [x]⟩ w' := by
  obtain ⟨hok, hcc, hfb, hfw, hob, how⟩ := h
  have hr := hfw.other (e' := 5) (by decide)
  have hb := fun s hs => own_came (hok.sb s hs) (hob s hs) hg (fun j hj => .inr (hr j hj))
  have hw := fun y hy => own_came (hok.sw y hy).1 (how y hy) hg (fun j hj => .inr (hr j hj))
  have hn := own_came hx hox hg (fun j hj => .inr (hr j hj))
  have hfb2 := hfb.kept hg (fr_ne hfb hfw (by decide))
  have hcb : d.bs.map Sl.l = c.b := by rw [← hcc]; rfl
  have hcw : d.ws.map Wt.c = c.w := by rw [← hcc]; rfl
  refine ⟨⟨hok.lb, hfb2.rd, fun s hs => (hb s hs).1, by simp [hok.lw], hf.rd, fun y hy => ?_, hok.cb, ⟨hf.nc, hf.cm⟩⟩, ?_, hfb2, hf, fun s hs => (hb s hs).2, fun y hy => ?_⟩
  · rcases List.mem_append.1 hy with hy | hy
    · exact ⟨(hw y hy).1, (hok.sw y hy).2⟩
    · rw [List.mem_singleton] at hy
      subst hy
      exact ⟨hn.1, hxa⟩
  · simp only [Dk.c, List.map_append, List.map_cons, List.map_nil, hcb, hcw]
  · rcases List.mem_append.1 hy with hy | hy
    · exact (hw y hy).2
    · rw [List.mem_singleton] at hy
      subst hy
      exact hn.2
set_option maxHeartbeats 4000000 in
theorem r_with (d : Dk) (w : World) (hd : d.ok w) (hmay : d.c.May) (hlt : d.c.w.length < 4096) (at_ : Int) (hat : I64 at_) (s : Sl) (hs : s.came w) (hs6 : (s.n : Int) ≤ 1000000000) :
    Calls Try.prog 49 #[d.v, .int .i64 at_, .slice s.A s.n s.c] w fun e w' => ∃ d' : Dk, e = .returned (.agg #[.slice d'.A d'.nB d'.cB, .slice d'.W d'.nW d'.cW]) ∧ Nw (d.c.write at_ s.l) w.heap.size d' w' ∧ Below w.heap.size w w' := by
  obtain ⟨z1, z2⟩ := hd.sizes rfl hmay
  obtain ⟨w2, hw2⟩ : ∃ V, V = (w.alloc (.cells #[.slice d.A d.nB d.cB, .slice d.W d.nW d.cW] 25)).alloc (.cells #[.slice none 0 0, .slice none 0 0] 25) := ⟨_, rfl⟩
  have hb2 : Below w.heap.size w w2 := by rw [hw2]; exact (below_new' w _).alloc (by simp) _
  have hx2 : DkBox w2 w.heap.size (.slice d.A d.nB d.cB) (.slice d.W d.nW d.cW) := by rw [hw2]; exact (DkBox.new w _ _).alloc _
  have hz2 : w2.heap.size = w.heap.size + 2 := by rw [hw2]; simp
  have hr2 : DkBox w2 (w.heap.size + 1) (.slice none 0 0) (.slice none 0 0) := by
    rw [hw2]
    have := DkBox.new (w.alloc (.cells #[.slice d.A d.nB d.cB, .slice d.W d.nW d.cW] 25)) (.slice none 0 0) (.slice none 0 0)
    rw [World.size_alloc] at this
    exact this
  obtain ⟨s1, s2⟩ := hmay.small hd
  have htw := r_twin d w2 (hd.below hb2) (by omega) (by omega) s1 s2
  have HSC := Lib.hid (hs.below hb2)
  obtain ⟨c0, c1⟩ := hx2.cells
  have HTW := Lib.hid htw
  have HR := Lib.hid hr2
  have HB := Lib.hid hb2
  have HZ := Lib.hid hz2
  have HW2 := Lib.hid hw2
  have HD := Lib.hid hd
  have HAT := Lib.hid hat
  have HS6 := Lib.hid hs6
  have HLT := Lib.hid (show (d.nW : Int) < 4096 by omega)
  clear hb2 hx2 hz2 hr2 hw2 hd htw hat hs hs6 s1 s2 z1 z2 hmay hlt
  simp only [Dk.v] at *
  go_enter Try.func49, Try.ntmps49
  go_wp2_with fail
  rw [← HW2.out]
  clear HW2
  refine HTW.out.mono ?_
  rintro e w4 ⟨d1, rfl, hn4, hb4⟩
  obtain ⟨q1, q2⟩ := c_sizes HD.out hn4.ok hn4.cc
  have HNW := Lib.hid (show (d1.nW : Int) < 4096 by have := HLT.out; omega)
  have hr4 := HR.out.below hb4 HR.out.lt
  have hbw := below_to HB.out hb4 HB.out.size
  obtain ⟨V5, hV5⟩ : ∃ V, V = w4.alloc (.cells #[.slice d1.A d1.nB d1.cB, .slice d1.W d1.nW d1.cW] 25) := ⟨_, rfl⟩
  have hb5 : Below w4.heap.size w4 V5 := by rw [hV5]; exact below_new' w4 _
  have hx5 : DkBox V5 w4.heap.size (.slice d1.A d1.nB d1.cB) (.slice d1.W d1.nW d1.cW) := by rw [hV5]; exact DkBox.new w4 _ _
  have HX5 := Lib.hid (show DkBox V5.drew w4.heap.size (.slice d1.A d1.nB d1.cB) (.slice d1.W d1.nW d1.cW) from hx5)
  have hr5 := hr4.below hb5 hr4.lt
  have HR5 := Lib.hid (show DkBox V5.drew (w.heap.size + 1) (.slice none 0 0) (.slice none 0 0) from hr5)
  have HN5 := Lib.hid ((hn4.below hb5).below ((Below.refl _ _).drew))
  have hbw5 := below_to hbw hb5 hbw.size
  have HB5 := Lib.hid hbw5.drew
  have HSC5 := Lib.hid ((HSC.out.below hb4).below hb5)
  have HL5 := Lib.hid (show w2.heap.size ≤ V5.drew.heap.size from Nat.le_trans hb4.size hb5.size)
  have HLR := Lib.hid (show w.heap.size + 1 < w4.heap.size from hr4.lt)
  have HV5 := Lib.hid hV5
  clear hn4 hb4 q1 q2 hr4 hbw hV5 hb5 hx5 hr5 hbw5 HTW HR HB HLT c0 c1 HSC
  go_wp2
  rw [← HV5.out]
  clear HV5
  refine wp_region_held_drew (S := fun V => True) (by kernel_rfl) trivial (fun hS => ?_)
  refine wpAnyH_take (i := 0) (v := ?_) rfl (by kernel_rfl) (by kernel_rfl) (by kernel_rfl) (fun _ _ _ h => h) (Or.inl ⟨by rfl, ?hyq⟩) hS ?_
  case hyq =>
    intro w hw
    go_simp
    try (with_reducible rfl)
  refine wpAnyH_take (i := 2) (v := ?_) rfl (by kernel_rfl) (by kernel_rfl) (by kernel_rfl) (fun _ _ _ h => h) (Or.inl ⟨by rfl, ?hyq⟩) hS ?_
  case hyq =>
    intro w hw
    go_simp
    try (with_reducible rfl)
  refine wpAnyH_take (i := 3) (v := ?_) rfl (by kernel_rfl) (by kernel_rfl) (by kernel_rfl) (fun _ _ _ h => h) (Or.inl ⟨by rfl, ?hyq⟩) hS ?_
  case hyq =>
    intro w hw
    go_simp
    try (with_reducible rfl)
  try go_simp
  refine wpAnyH_ready (rs := [1, 4]) (by kernel_rfl) (by simp) ?_
  refine all_consH rfl (fun K hK => ?_) ?_
  · skip
    refine Stp.mk ?_
    obtain ⟨k0, k1⟩ := HX5.out.cells
    go_simp
    have hSn := hS
    clear k0 k1
    refine hK.out _ _ hSn (fun hS => ?_)
    clear hK K hSn
    try go_simp
    refine wpAnyH_ready (rs := [4]) (by kernel_rfl) (by simp) ?_
    refine all_consH rfl (fun K hK => ?_) ?_
    · skip
      refine stp_append_to (c := 0) (c' := s.c) (base := w2.heap.size) rfl (.const (.slice none 0 0)) (.tmp 13) rfl okB (by simp [Act.eval, Act.put]) (Fr.none_) (by simp [Act.eval, Act.put]) (HSC5.out.2.1) (bvs_one _) s.n (by omega) (bvs s.l) rfl (by have := HS6.out; unfold maxLen; omega) (by have := HS6.out; omega) HL5.out ?_
      intro D dd w5 f5 g5
      have hb5 := grown_below (B := V5.drew.heap.size) g5.out (Nat.le_refl _) (fun j hj => by rw [rowOf_zero] at hj; cases hj)
      have hSn := hS
      replace HX5 := Lib.hid (HX5.out.below hb5 HX5.out.lt)
      have HNC := Lib.hid (show Sl.came ⟨D, s.n, dd, s.l⟩ w5 from f5.out.cameS)
      have HNO := Lib.hid (show Own w5 w2.heap.size ⟨D, s.n, dd, s.l⟩ from f5.out.ownS)
      replace HR5 := Lib.hid (HR5.out.below hb5 HR5.out.lt)
      replace HN5 := Lib.hid (HN5.out.below hb5)
      replace HB5 := Lib.hid (below_to HB5.out hb5 HB5.out.size)
      replace HL5 := Lib.hid (Nat.le_trans HL5.out hb5.size)
      clear f5 g5 hb5
      refine hK.out _ _ hSn (fun hS => ?_)
      clear hK K hSn
      refine wpAnyH_take (i := 5) (v := ?_) rfl (by kernel_rfl) (by kernel_rfl) (by kernel_rfl) (fun _ _ _ h => h) (Or.inl ⟨by rfl, ?hyq⟩) hS ?_
      case hyq =>
        intro w hw
        go_simp
        try (with_reducible rfl)
      try go_simp
      refine wpAnyH_ready (rs := [6]) (by kernel_rfl) (by simp) ?_
      refine all_consH rfl (fun K hK => ?_) ?_
      · skip
        refine stp_new rfl (fun g => .slice (some ⟨g, 0, none⟩) 1 1) (.cells #[.int .i64 at_, .slice D s.n dd] 54) (by go_simp) ?_
        intro gX w6 hn hb
        have hSn := hS
        replace HX5 := Lib.hid (HX5.out.below hb.out HX5.out.lt)
        replace HNC := Lib.hid (HNC.out.below hb.out)
        replace HNO := Lib.hid (HNO.out.below hb.out)
        replace HR5 := Lib.hid (HR5.out.below hb.out HR5.out.lt)
        replace HN5 := Lib.hid (HN5.out.below hb.out)
        replace HB5 := Lib.hid (below_to HB5.out hb.out HB5.out.size)
        replace HL5 := Lib.hid (Nat.le_trans HL5.out hb.out.size)
        have HRX := Lib.hid (show Rd w6 w6.heap.size 2 (some ⟨gX, 0, none⟩) 1 (wcs [⟨at_, ⟨D, s.n, dd, s.l⟩⟩]) from (Fr.ofHeap (base := 0) (n := 1) hn.out.2.2 (Nat.zero_le _) (by unfold maxLen; omega) rfl).rd)
        clear hn hb
        refine hK.out _ _ hSn (fun hS => ?_)
        clear hK K hSn
        try go_simp
        refine wpAnyH_ready (rs := [7]) (by kernel_rfl) (by simp) ?_
        refine all_consH rfl (fun K hK => ?_) ?_
        · skip
          have hfw := HN5.out.fw
          refine stp_append_to (n := d1.nW) (m := 1) (c' := 1) (base := w2.heap.size) rfl (.tmp 11) (.tmp 16) rfl okW (by simp [Act.eval, Act.put]) hfw (by simp [Act.eval, Act.put]) HRX.out (wcs_one _) (d1.nW + 1) rfl (wcs (d1.ws ++ [⟨at_, ⟨D, s.n, dd, s.l⟩⟩])) (wcs_app _ _).symm (by have := HNW.out; unfold maxLen; omega) (by have := HNW.out; omega) HL5.out ?_
          intro D7 d7 w7 f7 g7
          have hne7 : ∀ {G : Nat} {X Y : Value}, DkBox w6 G X Y → some G ≠ rowOf d1.W d1.cW := fun hG e => by
            obtain ⟨cur, fz, hc⟩ := hfw.cells_ _ e.symm
            exact dk_ne hG hc (by decide) rfl
          have hSn := hS
          replace HX5 := Lib.hid (HX5.out.grown g7.out (hne7 HX5.out))
          have hN7 := HN5.out.pushW (x := ⟨at_, ⟨D, s.n, dd, s.l⟩⟩) HNC.out HAT.out HNO.out g7.out f7.out
          replace HR5 := Lib.hid (HR5.out.grown g7.out (hne7 HR5.out))
          replace HB5 := Lib.hid (HB5.out.grown g7.out HB5.out.size (fun g hg => by have := (hfw.row g hg).1; have := HZ.out; omega))
          have HN7 := Lib.hid hN7
          clear hN7 f7 g7 hne7 hfw HN5 HNC HNO HRX
          refine hK.out _ _ hSn (fun hS => ?_)
          clear hK K hSn
          refine wpAnyH_take (i := 8) (v := ?_) rfl (by kernel_rfl) (by kernel_rfl) (by kernel_rfl) (fun _ _ _ h => h) (Or.inl ⟨by rfl, ?hyq⟩) hS ?_
          case hyq =>
            intro w hw
            go_simp
            try (with_reducible rfl)
          try go_simp
          refine wpAnyH_ready (rs := [9]) (by kernel_rfl) (by simp) ?_
          refine all_consH rfl (fun K hK => ?_) ?_
          · skip
            refine Stp.mk ?_
            obtain ⟨m0, m1⟩ := HX5.out.cells
            have mf := HX5.out.frozen
            have hX9 := HX5.out.put1 (.slice D7 (d1.nW + 1) d7)
            have hR9 := HR5.out.set ⟨w4.heap.size, 1, none⟩ (by have := HLR.out; simp; omega) (.slice D7 (d1.nW + 1) d7)
            have hN9 := HN7.out.grown_box (grown_setCell _ ⟨w4.heap.size, 1, none⟩ (.slice D7 (d1.nW + 1) d7)) HX5.out
            have hB9 := HB5.out.setCell (p := ⟨w4.heap.size, 1, none⟩) (by have := HLR.out; simp; omega) (.slice D7 (d1.nW + 1) d7)
            have HX9 := Lib.hid hX9
            have HR9 := Lib.hid hR9
            have HN9 := Lib.hid hN9
            have HB9 := Lib.hid hB9
            go_simp
            have hSn := hS
            clear hX9 hR9 hN9 hB9 m0 m1 mf
            refine hK.out _ _ hSn (fun hS => ?_)
            clear hK K hSn
            refine wpAnyH_done (by kernel_rfl) ?_ _
            clear HX5 HR5 HB5 HN7
            obtain ⟨x0, x1⟩ := HX9.out.cells
            obtain ⟨r0, r1⟩ := HR9.out.cells
            have rf := HR9.out.frozen
            have hlt := HR9.out.lt
            have hn8 := (HN9.out.grown (grown_setCell _ ⟨w.heap.size + 1, 0, none⟩ (.slice d1.A d1.nB d1.cB)) (fun j hj => by cases hj; show w.heap.size + 1 < _; have := HZ.out; omega)).grown (grown_setCell _ ⟨w.heap.size + 1, 1, none⟩ (.slice D7 (d1.nW + 1) d7)) (fun j hj => by cases hj; show w.heap.size + 1 < _; have := HZ.out; omega)
            have hb8 := (HB9.out.setCell (p := ⟨w.heap.size + 1, 0, none⟩) (Nat.le_succ _) (.slice d1.A d1.nB d1.cB)).setCell (p := ⟨w.heap.size + 1, 1, none⟩) (Nat.le_succ _) (.slice D7 (d1.nW + 1) d7)
            have HN8 := Lib.hid (hn8.mono (base' := w.heap.size) (by have := HZ.out; omega))
            have HB8 := Lib.hid hb8
            clear hn8 hb8 HN9 HB9 HX9 HR9
            go_wp2
            refine bodyPost_ret (v := .agg #[.slice d1.A d1.nB d1.cB, .slice D7 (d1.nW + 1) d7]) (by simp [results, Try.results49, go_sem, r0, r1]) rfl ?_
            exact ⟨⟨_, _, _, _, _, _, _, _⟩, rfl, HN8.out, HB8.out⟩
          exact AllReadyH.nil
        exact AllReadyH.nil
      exact AllReadyH.nil
    exact AllReadyH.nil
  refine all_consH rfl (fun K hK => ?_) ?_
  · skip
    refine stp_append_to (c := 0) (c' := s.c) (base := w2.heap.size) rfl (.const (.slice none 0 0)) (.tmp 13) rfl okB (by simp [Act.eval, Act.put]) (Fr.none_) (by simp [Act.eval, Act.put]) (HSC5.out.2.1) (bvs_one _) s.n (by omega) (bvs s.l) rfl (by have := HS6.out; unfold maxLen; omega) (by have := HS6.out; omega) HL5.out ?_
    intro D dd w5 f5 g5
    have hb5 := grown_below (B := V5.drew.heap.size) g5.out (Nat.le_refl _) (fun j hj => by rw [rowOf_zero] at hj; cases hj)
    have hSn := hS
    replace HX5 := Lib.hid (HX5.out.below hb5 HX5.out.lt)
    have HNC := Lib.hid (show Sl.came ⟨D, s.n, dd, s.l⟩ w5 from f5.out.cameS)
    have HNO := Lib.hid (show Own w5 w2.heap.size ⟨D, s.n, dd, s.l⟩ from f5.out.ownS)
    replace HR5 := Lib.hid (HR5.out.below hb5 HR5.out.lt)
    replace HN5 := Lib.hid (HN5.out.below hb5)
    replace HB5 := Lib.hid (below_to HB5.out hb5 HB5.out.size)
    replace HL5 := Lib.hid (Nat.le_trans HL5.out hb5.size)
    clear f5 g5 hb5
    refine hK.out _ _ hSn (fun hS => ?_)
    clear hK K hSn
    refine wpAnyH_take (i := 5) (v := ?_) rfl (by kernel_rfl) (by kernel_rfl) (by kernel_rfl) (fun _ _ _ h => h) (Or.inl ⟨by rfl, ?hyq⟩) hS ?_
    case hyq =>
      intro w hw
      go_simp
      try (with_reducible rfl)
    try go_simp
    refine wpAnyH_ready (rs := [1, 6]) (by kernel_rfl) (by simp) ?_
    refine all_consH rfl (fun K hK => ?_) ?_
    · skip
      refine Stp.mk ?_
      obtain ⟨k0, k1⟩ := HX5.out.cells
      go_simp
      have hSn := hS
      clear k0 k1
      refine hK.out _ _ hSn (fun hS => ?_)
      clear hK K hSn
      try go_simp
      refine wpAnyH_ready (rs := [6]) (by kernel_rfl) (by simp) ?_
      refine all_consH rfl (fun K hK => ?_) ?_
      · skip
        refine stp_new rfl (fun g => .slice (some ⟨g, 0, none⟩) 1 1) (.cells #[.int .i64 at_, .slice D s.n dd] 54) (by go_simp) ?_
        intro gX w6 hn hb
        have hSn := hS
        replace HX5 := Lib.hid (HX5.out.below hb.out HX5.out.lt)
        replace HNC := Lib.hid (HNC.out.below hb.out)
        replace HNO := Lib.hid (HNO.out.below hb.out)
        replace HR5 := Lib.hid (HR5.out.below hb.out HR5.out.lt)
        replace HN5 := Lib.hid (HN5.out.below hb.out)
        replace HB5 := Lib.hid (below_to HB5.out hb.out HB5.out.size)
        replace HL5 := Lib.hid (Nat.le_trans HL5.out hb.out.size)
        have HRX := Lib.hid (show Rd w6 w6.heap.size 2 (some ⟨gX, 0, none⟩) 1 (wcs [⟨at_, ⟨D, s.n, dd, s.l⟩⟩]) from (Fr.ofHeap (base := 0) (n := 1) hn.out.2.2 (Nat.zero_le _) (by unfold maxLen; omega) rfl).rd)
        clear hn hb
        refine hK.out _ _ hSn (fun hS => ?_)
        clear hK K hSn
        try go_simp
        refine wpAnyH_ready (rs := [7]) (by kernel_rfl) (by simp) ?_
        refine all_consH rfl (fun K hK => ?_) ?_
        · skip
          have hfw := HN5.out.fw
          refine stp_append_to (n := d1.nW) (m := 1) (c' := 1) (base := w2.heap.size) rfl (.tmp 11) (.tmp 16) rfl okW (by simp [Act.eval, Act.put]) hfw (by simp [Act.eval, Act.put]) HRX.out (wcs_one _) (d1.nW + 1) rfl (wcs (d1.ws ++ [⟨at_, ⟨D, s.n, dd, s.l⟩⟩])) (wcs_app _ _).symm (by have := HNW.out; unfold maxLen; omega) (by have := HNW.out; omega) HL5.out ?_
          intro D7 d7 w7 f7 g7
          have hne7 : ∀ {G : Nat} {X Y : Value}, DkBox w6 G X Y → some G ≠ rowOf d1.W d1.cW := fun hG e => by
            obtain ⟨cur, fz, hc⟩ := hfw.cells_ _ e.symm
            exact dk_ne hG hc (by decide) rfl
          have hSn := hS
          replace HX5 := Lib.hid (HX5.out.grown g7.out (hne7 HX5.out))
          have hN7 := HN5.out.pushW (x := ⟨at_, ⟨D, s.n, dd, s.l⟩⟩) HNC.out HAT.out HNO.out g7.out f7.out
          replace HR5 := Lib.hid (HR5.out.grown g7.out (hne7 HR5.out))
          replace HB5 := Lib.hid (HB5.out.grown g7.out HB5.out.size (fun g hg => by have := (hfw.row g hg).1; have := HZ.out; omega))
          have HN7 := Lib.hid hN7
          clear hN7 f7 g7 hne7 hfw HN5 HNC HNO HRX
          refine hK.out _ _ hSn (fun hS => ?_)
          clear hK K hSn
          refine wpAnyH_take (i := 8) (v := ?_) rfl (by kernel_rfl) (by kernel_rfl) (by kernel_rfl) (fun _ _ _ h => h) (Or.inl ⟨by rfl, ?hyq⟩) hS ?_
          case hyq =>
            intro w hw
            go_simp
            try (with_reducible rfl)
          try go_simp
          refine wpAnyH_ready (rs := [9]) (by kernel_rfl) (by simp) ?_
          refine all_consH rfl (fun K hK => ?_) ?_
          · skip
            refine Stp.mk ?_
            obtain ⟨m0, m1⟩ := HX5.out.cells
            have mf := HX5.out.frozen
            have hX9 := HX5.out.put1 (.slice D7 (d1.nW + 1) d7)
            have hR9 := HR5.out.set ⟨w4.heap.size, 1, none⟩ (by have := HLR.out; simp; omega) (.slice D7 (d1.nW + 1) d7)
            have hN9 := HN7.out.grown_box (grown_setCell _ ⟨w4.heap.size, 1, none⟩ (.slice D7 (d1.nW + 1) d7)) HX5.out
            have hB9 := HB5.out.setCell (p := ⟨w4.heap.size, 1, none⟩) (by have := HLR.out; simp; omega) (.slice D7 (d1.nW + 1) d7)
            have HX9 := Lib.hid hX9
            have HR9 := Lib.hid hR9
            have HN9 := Lib.hid hN9
            have HB9 := Lib.hid hB9
            go_simp
            have hSn := hS
            clear hX9 hR9 hN9 hB9 m0 m1 mf
            refine hK.out _ _ hSn (fun hS => ?_)
            clear hK K hSn
            refine wpAnyH_done (by kernel_rfl) ?_ _
            clear HX5 HR5 HB5 HN7
            obtain ⟨x0, x1⟩ := HX9.out.cells
            obtain ⟨r0, r1⟩ := HR9.out.cells
            have rf := HR9.out.frozen
            have hlt := HR9.out.lt
            have hn8 := (HN9.out.grown (grown_setCell _ ⟨w.heap.size + 1, 0, none⟩ (.slice d1.A d1.nB d1.cB)) (fun j hj => by cases hj; show w.heap.size + 1 < _; have := HZ.out; omega)).grown (grown_setCell _ ⟨w.heap.size + 1, 1, none⟩ (.slice D7 (d1.nW + 1) d7)) (fun j hj => by cases hj; show w.heap.size + 1 < _; have := HZ.out; omega)
            have hb8 := (HB9.out.setCell (p := ⟨w.heap.size + 1, 0, none⟩) (Nat.le_succ _) (.slice d1.A d1.nB d1.cB)).setCell (p := ⟨w.heap.size + 1, 1, none⟩) (Nat.le_succ _) (.slice D7 (d1.nW + 1) d7)
            have HN8 := Lib.hid (hn8.mono (base' := w.heap.size) (by have := HZ.out; omega))
            have HB8 := Lib.hid hb8
            clear hn8 hb8 HN9 HB9 HX9 HR9
            go_wp2
            refine bodyPost_ret (v := .agg #[.slice d1.A d1.nB d1.cB, .slice D7 (d1.nW + 1) d7]) (by simp [results, Try.results49, go_sem, r0, r1]) rfl ?_
            exact ⟨⟨_, _, _, _, _, _, _, _⟩, rfl, HN8.out, HB8.out⟩
          exact AllReadyH.nil
        exact AllReadyH.nil
      exact AllReadyH.nil
    refine all_consH rfl (fun K hK => ?_) ?_
    · skip
      refine stp_new rfl (fun g => .slice (some ⟨g, 0, none⟩) 1 1) (.cells #[.int .i64 at_, .slice D s.n dd] 54) (by go_simp) ?_
      intro gX w6 hn hb
      have hSn := hS
      replace HX5 := Lib.hid (HX5.out.below hb.out HX5.out.lt)
      replace HNC := Lib.hid (HNC.out.below hb.out)
      replace HNO := Lib.hid (HNO.out.below hb.out)
      replace HR5 := Lib.hid (HR5.out.below hb.out HR5.out.lt)
      replace HN5 := Lib.hid (HN5.out.below hb.out)
      replace HB5 := Lib.hid (below_to HB5.out hb.out HB5.out.size)
      replace HL5 := Lib.hid (Nat.le_trans HL5.out hb.out.size)
      have HRX := Lib.hid (show Rd w6 w6.heap.size 2 (some ⟨gX, 0, none⟩) 1 (wcs [⟨at_, ⟨D, s.n, dd, s.l⟩⟩]) from (Fr.ofHeap (base := 0) (n := 1) hn.out.2.2 (Nat.zero_le _) (by unfold maxLen; omega) rfl).rd)
      clear hn hb
      refine hK.out _ _ hSn (fun hS => ?_)
      clear hK K hSn
      try go_simp
      refine wpAnyH_ready (rs := [1]) (by kernel_rfl) (by simp) ?_
      refine all_consH rfl (fun K hK => ?_) ?_
      · skip
        refine Stp.mk ?_
        obtain ⟨k0, k1⟩ := HX5.out.cells
        go_simp
        have hSn := hS
        clear k0 k1
        refine hK.out _ _ hSn (fun hS => ?_)
        clear hK K hSn
        try go_simp
        refine wpAnyH_ready (rs := [7]) (by kernel_rfl) (by simp) ?_
        refine all_consH rfl (fun K hK => ?_) ?_
        · skip
          have hfw := HN5.out.fw
          refine stp_append_to (n := d1.nW) (m := 1) (c' := 1) (base := w2.heap.size) rfl (.tmp 11) (.tmp 16) rfl okW (by simp [Act.eval, Act.put]) hfw (by simp [Act.eval, Act.put]) HRX.out (wcs_one _) (d1.nW + 1) rfl (wcs (d1.ws ++ [⟨at_, ⟨D, s.n, dd, s.l⟩⟩])) (wcs_app _ _).symm (by have := HNW.out; unfold maxLen; omega) (by have := HNW.out; omega) HL5.out ?_
          intro D7 d7 w7 f7 g7
          have hne7 : ∀ {G : Nat} {X Y : Value}, DkBox w6 G X Y → some G ≠ rowOf d1.W d1.cW := fun hG e => by
            obtain ⟨cur, fz, hc⟩ := hfw.cells_ _ e.symm
            exact dk_ne hG hc (by decide) rfl
          have hSn := hS
          replace HX5 := Lib.hid (HX5.out.grown g7.out (hne7 HX5.out))
          have hN7 := HN5.out.pushW (x := ⟨at_, ⟨D, s.n, dd, s.l⟩⟩) HNC.out HAT.out HNO.out g7.out f7.out
          replace HR5 := Lib.hid (HR5.out.grown g7.out (hne7 HR5.out))
          replace HB5 := Lib.hid (HB5.out.grown g7.out HB5.out.size (fun g hg => by have := (hfw.row g hg).1; have := HZ.out; omega))
          have HN7 := Lib.hid hN7
          clear hN7 f7 g7 hne7 hfw HN5 HNC HNO HRX
          refine hK.out _ _ hSn (fun hS => ?_)
          clear hK K hSn
          refine wpAnyH_take (i := 8) (v := ?_) rfl (by kernel_rfl) (by kernel_rfl) (by kernel_rfl) (fun _ _ _ h => h) (Or.inl ⟨by rfl, ?hyq⟩) hS ?_
          case hyq =>
            intro w hw
            go_simp
            try (with_reducible rfl)
          try go_simp
          refine wpAnyH_ready (rs := [9]) (by kernel_rfl) (by simp) ?_
          refine all_consH rfl (fun K hK => ?_) ?_
          · skip
            refine Stp.mk ?_
            obtain ⟨m0, m1⟩ := HX5.out.cells
            have mf := HX5.out.frozen
            have hX9 := HX5.out.put1 (.slice D7 (d1.nW + 1) d7)
            have hR9 := HR5.out.set ⟨w4.heap.size, 1, none⟩ (by have := HLR.out; simp; omega) (.slice D7 (d1.nW + 1) d7)
            have hN9 := HN7.out.grown_box (grown_setCell _ ⟨w4.heap.size, 1, none⟩ (.slice D7 (d1.nW + 1) d7)) HX5.out
            have hB9 := HB5.out.setCell (p := ⟨w4.heap.size, 1, none⟩) (by have := HLR.out; simp; omega) (.slice D7 (d1.nW + 1) d7)
            have HX9 := Lib.hid hX9
            have HR9 := Lib.hid hR9
            have HN9 := Lib.hid hN9
            have HB9 := Lib.hid hB9
            go_simp
            have hSn := hS
            clear hX9 hR9 hN9 hB9 m0 m1 mf
            refine hK.out _ _ hSn (fun hS => ?_)
            clear hK K hSn
            refine wpAnyH_done (by kernel_rfl) ?_ _
            clear HX5 HR5 HB5 HN7
            obtain ⟨x0, x1⟩ := HX9.out.cells
            obtain ⟨r0, r1⟩ := HR9.out.cells
            have rf := HR9.out.frozen
            have hlt := HR9.out.lt
            have hn8 := (HN9.out.grown (grown_setCell _ ⟨w.heap.size + 1, 0, none⟩ (.slice d1.A d1.nB d1.cB)) (fun j hj => by cases hj; show w.heap.size + 1 < _; have := HZ.out; omega)).grown (grown_setCell _ ⟨w.heap.size + 1, 1, none⟩ (.slice D7 (d1.nW + 1) d7)) (fun j hj => by cases hj; show w.heap.size + 1 < _; have := HZ.out; omega)
            have hb8 := (HB9.out.setCell (p := ⟨w.heap.size + 1, 0, none⟩) (Nat.le_succ _) (.slice d1.A d1.nB d1.cB)).setCell (p := ⟨w.heap.size + 1, 1, none⟩) (Nat.le_succ _) (.slice D7 (d1.nW + 1) d7)
            have HN8 := Lib.hid (hn8.mono (base' := w.heap.size) (by have := HZ.out; omega))
            have HB8 := Lib.hid hb8
            clear hn8 hb8 HN9 HB9 HX9 HR9
            go_wp2
            refine bodyPost_ret (v := .agg #[.slice d1.A d1.nB d1.cB, .slice D7 (d1.nW + 1) d7]) (by simp [results, Try.results49, go_sem, r0, r1]) rfl ?_
            exact ⟨⟨_, _, _, _, _, _, _, _⟩, rfl, HN8.out, HB8.out⟩
          exact AllReadyH.nil
        exact AllReadyH.nil
      exact AllReadyH.nil
    exact AllReadyH.nil
  exact AllReadyH.nil
end Go.Proofs.Ytkaklppkmokffaa
