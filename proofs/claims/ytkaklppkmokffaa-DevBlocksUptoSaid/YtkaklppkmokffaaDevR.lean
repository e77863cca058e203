/-
  Contract of dev.Write.
-/
import Derived.Test.YtkaklppkmokffaaDevP
namespace Go.Proofs.Ytkaklppkmokffaa
open Go.RowKit
set_option linter.unusedVariables false
set_option linter.unusedSimpArgs false
set_option maxRecDepth 100000

set_option maxHeartbeats 1000000 in
theorem d_doWrite (G : Nat) (d : Dk) (W : World) (hG : DkBox W G (.slice d.A d.nB d.cB) (.slice d.W d.nW d.cW)) :
    Calls Try.prog 47 #[.pointer (some ⟨G, 0, none⟩)] W (DoP (fun _ _ => True) none W) := by
  have hxA := hG.alloc (.cells #[.slice none 0 0, .slice none 0 0] 25)
  have hxB := DkBox.new W (.slice none 0 0) (.slice none 0 0)
  have hlt := hG.lt
  have hb2 := below_new' W (.cells #[.slice none 0 0, .slice none 0 0] 25)
  have hy := DkBox.new W (.slice d.A d.nB d.cB) (.slice d.W d.nW d.cW)
  have hb4 := below_new' W (.cells #[.slice d.A d.nB d.cB, .slice d.W d.nW d.cW] 25)
  obtain ⟨c0, c1⟩ := hxA.cells
  obtain ⟨y0, y1⟩ := hy.cells
  have HB4 := Lib.hid hb4
  clear hG hxA hxB hb2 hb4 hy
  go_enter Try.func47, Try.ntmps47
  go_wp2
  refine bodyPost_ret (v := .agg #[.slice d.A d.nB d.cB, .slice d.W d.nW d.cW]) (by simp [results, Try.results47, go_sem, y0, y1]) rfl ?_
  exact ⟨d, rfl, trivial, grown_of_below HB4.out none⟩
theorem gd_write (d : Dk) (G : Nat) (w : World) (hG : DkBox w G (.slice d.A d.nB d.cB) (.slice d.W d.nW d.cW)) (hd : d.ok w) (hB6 : (d.nB : Int) ≤ 1000000) (hW6 : (d.nW : Int) ≤ 1000000) (is : Bool) (E : Int) (hE : E = errG d.c is) :
    Calls Try.prog 34 #[.agg #[.slice d.A d.nB d.cB, .slice d.W d.nW d.cW], .bool is, .func (.func 47) #[] #[.pointer (some ⟨G, 0, none⟩)]] w (GdP (fun _ _ => True) none E w) :=
  d_guarded d w hd hB6 hW6 is 47 #[.pointer (some ⟨G, 0, none⟩)] e_doWrite (fun _ _ => True) none (fun j hj => by cases hj) E hE
    (fun hmay _ W hW hWs => d_doWrite G d W (hG.below hW hG.lt)) (fun _ _ _ _ _ => trivial)
def Ct.write (c : Ct) (at_ : Int) (b : List UInt8) : Ct := ⟨c.b, c.w ++ [(at_, b)]⟩
/-- The error of a write. -/
def errW (c : Ct) (at_ : Int) (m : Nat) : Int := if errG c (decide (0 ≤ at_ ∧ at_ < 256)) = 0 then (if m = 256 then (if c.w.length = 4096 then 9 else 0) else 3) else errG c (decide (0 ≤ at_ ∧ at_ < 256))
theorem tw_write (d : Dk) (s : Sl) (at_ : Int) (W : World) (hd : d.ok W) (hs : s.came W) (hat : I64 at_) (hmay : d.c.May) (hl : s.l.length = 256) (D : Option Addr) (dd base : Nat) (hf : Fr W base 54 2 D (d.nW + 1) dd (wcs (d.ws ++ [⟨at_, s⟩]))) :
    Calls Try.prog 28 #[.agg #[.slice d.A d.nB d.cB, .slice D (d.nW + 1) dd]] W (TwP (d.c.write at_ s.l) W) := by
  have hn := hs.1
  have hnB : (d.nB : Int) ≤ 1000000 := by have := hmay.1; rw [Dk.c_b, List.length_map, hd.lb] at this; omega
  have hnW : ((d.nW + 1 : Nat) : Int) ≤ 1000000 := by have := hmay.2.2.1; rw [Dk.c_w, List.length_map, hd.lw] at this; omega
  have hok : Dk.ok ⟨d.A, d.nB, d.cB, d.bs, D, d.nW + 1, dd, d.ws ++ [⟨at_, s⟩]⟩ W :=
    ⟨hd.lb, hd.rb, hd.sb, by show (d.ws ++ [_]).length = d.nW + 1; rw [List.length_append, hd.lw]; rfl, hf.rd, fun x hx => by
      rcases List.mem_append.1 (show x ∈ d.ws ++ [_] from hx) with h | h
      · exact hd.sw x h
      · obtain rfl : x = ⟨at_, s⟩ := by simpa using h
        exact ⟨hs, hat⟩, hd.cb, ⟨hf.nc, hf.cm⟩⟩
  have hc : Dk.c ⟨d.A, d.nB, d.cB, d.bs, D, d.nW + 1, dd, d.ws ++ [⟨at_, s⟩]⟩ = d.c.write at_ s.l := by
    simp only [Dk.c, Ct.write, List.map_append, List.map_cons, List.map_nil, Wt.c]
  have h := d_twin _ W hok hnB hnW (by have := hmay.total; rw [hc]; show (d.c.b.flatten.length : Int) ≤ _; omega) (fun x hx => by
    rcases List.mem_append.1 (show x ∈ d.ws ++ [_] from hx) with h | h
    · have h1 := (hmay.2.2.2 (Wt.c x) (List.mem_map_of_mem h)).2
      have h2 := (hd.sw x h).1.1
      simp only [Wt.c] at h1
      omega
    · obtain rfl : x = ⟨at_, s⟩ := by simpa using h
      show (s.n : Int) ≤ _
      omega)
  rw [hc] at h
  exact h
def WrR (d : Dk) (E1 : Int) (w : World) (e : Value) (wc : World) : Prop :=
  e = .int .i64 E1 ∧ DkBox wc w.heap.size (.slice d.A d.nB d.cB) (.slice d.W d.nW d.cW) ∧ DkBox wc (w.heap.size + 1) (.slice none 0 0) (.slice none 0 0) ∧ Below w.heap.size w wc
set_option maxHeartbeats 4000000 in
theorem d_write (d : Dk) (w : World) (hd : d.ok w) (hB6 : (d.nB : Int) ≤ 1000000) (hW6 : (d.nW : Int) ≤ 1000000) (at_ : Int) (hat : I64 at_) (s : Sl) (hs : s.came w) (hs6 : (s.n : Int) ≤ 1000000000) (E : Int) (hE : E = errW d.c at_ s.l.length) :
    Calls Try.prog 24 #[d.v, .int .i64 at_, .slice s.A s.n s.c] w (AnsP (d.c.write at_ s.l) E w) := by
  obtain ⟨w2, hw2⟩ : ∃ V, V = (w.alloc (.cells #[.slice d.A d.nB d.cB, .slice d.W d.nW d.cW] 25)).alloc (.cells #[.slice none 0 0, .slice none 0 0] 25) := ⟨_, rfl⟩
  have hx1 : DkBox w2 w.heap.size (.slice d.A d.nB d.cB) (.slice d.W d.nW d.cW) := by rw [hw2]; exact (DkBox.new w _ _).alloc _
  have ht1 : DkBox w2 (w.heap.size + 1) (.slice none 0 0) (.slice none 0 0) := by
    rw [hw2]
    have := DkBox.new (w.alloc (.cells #[.slice d.A d.nB d.cB, .slice d.W d.nW d.cW] 25)) (.slice none 0 0) (.slice none 0 0)
    rw [World.size_alloc] at this
    exact this
  have hb1 : Below w.heap.size w w2 := by rw [hw2]; exact (below_new' w _).alloc (by simp) _
  have hp := fun W => d_place at_ hat W _ rfl
  obtain ⟨E1, hE1⟩ : ∃ E1, E1 = errG d.c (decide (0 ≤ at_ ∧ at_ < 256)) := ⟨_, rfl⟩
  have hgd := fun W hG hd => gd_write d w.heap.size W hG hd hB6 hW6 _ E1 hE1
  have hE2 : E = if E1 = 0 then (if s.l.length = 256 then (if d.c.w.length = 4096 then 9 else 0) else 3) else E1 := by rw [hE1]; exact hE
  have hmay : E1 = 0 → d.c.May ∧ 0 ≤ at_ ∧ at_ < 256 := by
    intro he
    rw [hE1] at he
    unfold errG at he
    split at he
    · rename_i hm
      split at he
      · rename_i h2
        exact ⟨hm, of_decide_eq_true h2⟩
      · cases he
    · cases he
  have hd1 := hd.below hb1
  have HX1 := Lib.hid hx1
  have HT1 := Lib.hid ht1
  have HB1 := Lib.hid hb1
  have HP := Lib.hid hp
  have HGD := Lib.hid hgd
  have HMAY := Lib.hid hmay
  have HD1 := Lib.hid hd1
  have HAT := Lib.hid hat
  have HD := Lib.hid hd
  have HS := Lib.hid hs
  have HE2 := Lib.hid hE2
  have HW2 := Lib.hid hw2
  generalize decide (0 ≤ at_ ∧ at_ < 256) = v at *
  simp only [Dk.v] at *
  clear hx1 ht1 hb1 hp hgd hmay hd1 hd hE hE1 hE2 hs hw2
  go_enter Try.func24, Try.ntmps24
  go_wp2
  rw [← HW2.out]
  clear HW2
  go_cut [9] from 8 (fun e wc => WrR d E1 w e wc)
  case first =>
    have hwx : DkBox w2.drew w.heap.size (.slice d.A d.nB d.cB) (.slice d.W d.nW d.cW) := HX1.out
    have hbd := HB1.out.drew
    have hdd : d.ok w2.drew := HD1.out.below ((Below.refl _ _).drew)
    replace HB1 := Lib.hid (show Below w.heap.size w w2.drew from hbd)
    replace HD1 := Lib.hid hdd
    replace HT1 := Lib.hid (show DkBox w2.drew (w.heap.size + 1) (.slice none 0 0) (.slice none 0 0) from HT1.out)
    clear hbd hdd HX1
    refine wp_region_held_drew (S := fun V => DkBox V w.heap.size (.slice d.A d.nB d.cB) (.slice d.W d.nW d.cW)) (by kernel_rfl) hwx (fun hS => ?_)
    refine wpAnyH_take (i := 0) (v := ?_) rfl (by kernel_rfl) (by kernel_rfl) (by kernel_rfl) (fun _ _ _ h => h) (Or.inl ⟨by rfl, ?hyq⟩) hS ?_
    case hyq =>
      intro w hw
      obtain ⟨k0, k1⟩ := hw.cells
      go_simp
      try (with_reducible rfl)
    refine wpAnyH_take (i := 1) (v := ?_) rfl (by kernel_rfl) (by kernel_rfl) (by kernel_rfl) (fun _ _ _ h => h) (Or.inl ⟨by rfl, ?hyq⟩) hS ?_
    case hyq =>
      intro w hw
      go_simp
      try (with_reducible rfl)
    refine wpAnyH_take (i := 3) (v := ?_) rfl (by kernel_rfl) (by kernel_rfl) (by kernel_rfl) (fun _ _ _ h => h) (Or.inl ⟨by rfl, ?hyq⟩) hS ?_
    case hyq =>
      intro w hw
      go_simp
      try (with_reducible rfl)
    refine wpAnyH_ready (rs := [2, 8]) (by kernel_rfl) (by simp) ?_
    refine all_consH rfl (fun K hK => ?_) ?_
    · skip
      refine Stp.mk ?_
      go_simp
      go_wp2_with fail
      refine (HP.out _).mono ?_
      rintro e w3 ⟨rfl, rfl⟩
      have hSn := hS
      go_wp2
      refine hK.out _ _ hSn (fun hS => ?_)
      clear hK K hSn
      refine wpAnyH_ready (rs := [4, 8]) (by kernel_rfl) (by simp) ?_
      refine all_consH rfl (fun K hK => ?_) ?_
      · skip
        refine Stp.mk ?_
        go_simp
        go_wp2_with fail
        refine (HGD.out _ hS HD1.out).mono ?_
        rintro e w4 ⟨d', rfl, h0, hne, hg4⟩
        have hb4 := grown_below hg4 (Nat.le_refl _) (fun j hj => by cases hj)
        have hSn := hS.below hb4 hS.lt
        have HT4 := Lib.hid (HT1.out.below hb4 HT1.out.lt)
        have HB4 := Lib.hid (below_to HB1.out hb4 HB1.out.size)
        clear h0 hne hg4 hb4
        go_wp2
        refine hK.out _ _ hSn (fun hS => ?_)
        clear hK K hSn
        refine wpAnyH_take (i := 5) (v := ?_) rfl (by kernel_rfl) (by kernel_rfl) (by kernel_rfl) (fun _ _ _ h => h) (Or.inl ⟨by rfl, ?hyq⟩) hS ?_
        case hyq =>
          intro w hw
          go_simp
          try (with_reducible rfl)
        refine wpAnyH_take (i := 6) (v := ?_) rfl (by kernel_rfl) (by kernel_rfl) (by kernel_rfl) (fun _ _ _ h => h) (Or.inl ⟨by rfl, ?hyq⟩) hS ?_
        case hyq =>
          intro w hw
          go_simp
          try (with_reducible rfl)
        refine wpAnyH_take (i := 7) (v := ?_) rfl (by kernel_rfl) (by kernel_rfl) (by kernel_rfl) (fun _ _ _ h => h) (Or.inl ⟨by rfl, ?hyq⟩) hS ?_
        case hyq =>
          intro w hw
          go_simp
          try (with_reducible rfl)
        refine wpAnyH_ready (rs := [8]) (by kernel_rfl) (by simp) ?_
        refine all_consH rfl (fun K hK => ?_) ?_
        · skip
          obtain ⟨W0, hW0⟩ : ∃ V, V = w4 := ⟨_, rfl⟩
          obtain ⟨g6, hg6⟩ : ∃ b, b = W0.heap.size := ⟨_, rfl⟩
          obtain ⟨w8, hw8⟩ : ∃ W, W = W0.alloc (.cells #[.slice none 0 0, .slice none 0 0] 25) := ⟨_, rfl⟩
          refine stp_run (v := .pointer (some ⟨g6, 0, none⟩)) (w' := w8) rfl (by rw [hg6, hw8, hW0]; go_simp) ?_
          have hb8 := below_new' W0 (.cells #[.slice none 0 0, .slice none 0 0] 25)
          have hy8 := DkBox.new W0 (.slice none 0 0) (.slice none 0 0)
          rw [← hw8] at hb8 hy8
          rw [← hg6] at hy8
          rw [hW0] at hb8 hg6
          have hSn := hS.below hb8 hS.lt
          have HG6 := Lib.hid (show w.heap.size + 1 < g6 from by have := HT4.out.lt; omega)
          have HT := Lib.hid (HT4.out.below hb8 HT4.out.lt)
          have HY := Lib.hid hy8
          have HB := Lib.hid (below_to HB4.out hb8 HB4.out.size)
          clear hb8 hy8 hw8 hg6 hW0
          refine hK.out _ _ hSn (fun hS => ?_)
          clear hK K hSn
          refine wpAnyH_ready (rs := [9]) (by kernel_rfl) (by simp) ?_
          refine all_consH rfl (fun K hK => ?_) ?_
          · skip
            refine Stp.mk ?_
            obtain ⟨m0, m1⟩ := HY.out.cells
            have mf := HY.out.frozen
            have hX9 := (HY.out.put0 (.slice d'.A d'.nB d'.cB)).put1 (.slice d'.W d'.nW d'.cW)
            have hB9 := (HB.out.setCell (p := ⟨g6, 0, none⟩) (by have := HG6.out; simp; omega) (.slice d'.A d'.nB d'.cB)).setCell (p := ⟨g6, 1, none⟩) (by have := HG6.out; simp; omega) (.slice d'.W d'.nW d'.cW)
            have hT9 := (HT.out.set ⟨g6, 0, none⟩ (by have := HG6.out; simp; omega) (.slice d'.A d'.nB d'.cB)).set ⟨g6, 1, none⟩ (by have := HG6.out; simp; omega) (.slice d'.W d'.nW d'.cW)
            have hSn := (hS.set ⟨g6, 0, none⟩ (by have := HG6.out; simp; omega) (.slice d'.A d'.nB d'.cB)).set ⟨g6, 1, none⟩ (by have := HG6.out; simp; omega) (.slice d'.W d'.nW d'.cW)
            go_simp
            clear m0 m1 mf
            refine hK.out _ _ hSn (fun hS => ?_)
            clear hK K hSn
            refine wpAnyH_ready (rs := [10]) (by kernel_rfl) (by simp) ?_
            refine all_consH rfl (fun K hK => ?_) ?_
            · skip
              refine Stp.mk ?_
              go_simp
              have hSn := hS
              refine hK.out _ _ hSn (fun hS => ?_)
              clear hK K hSn
              refine wpAnyH_done (by kernel_rfl) ?_ _
              go_wp2
              go_meet
              case rel => exact ⟨rfl, hS, hT9, hB9⟩
            exact AllReadyH.nil
          exact AllReadyH.nil
        exact AllReadyH.nil
      refine all_consH rfl (fun K hK => ?_) ?_
      · skip
        obtain ⟨W0, hW0⟩ : ∃ V, V = w2.drew := ⟨_, rfl⟩
        obtain ⟨g6, hg6⟩ : ∃ b, b = W0.heap.size := ⟨_, rfl⟩
        obtain ⟨w8, hw8⟩ : ∃ W, W = W0.alloc (.cells #[.slice none 0 0, .slice none 0 0] 25) := ⟨_, rfl⟩
        refine stp_run (v := .pointer (some ⟨g6, 0, none⟩)) (w' := w8) rfl (by rw [hg6, hw8, hW0]; go_simp) ?_
        have hb8 := below_new' W0 (.cells #[.slice none 0 0, .slice none 0 0] 25)
        have hy8 := DkBox.new W0 (.slice none 0 0) (.slice none 0 0)
        rw [← hw8] at hb8 hy8
        rw [← hg6] at hy8
        rw [hW0] at hb8 hg6
        have hSn := hS.below hb8 hS.lt
        have HG6 := Lib.hid (show w.heap.size + 1 < g6 from by have := HT1.out.lt; omega)
        have HT8 := Lib.hid (HT1.out.below hb8 HT1.out.lt)
        have HY8 := Lib.hid hy8
        have HB8 := Lib.hid (below_to HB1.out hb8 HB1.out.size)
        have HD8 := Lib.hid (HD1.out.below hb8)
        clear hb8 hy8 hw8 hg6 hW0
        refine hK.out _ _ hSn (fun hS => ?_)
        clear hK K hSn
        refine wpAnyH_ready (rs := [4]) (by kernel_rfl) (by simp) ?_
        refine all_consH rfl (fun K hK => ?_) ?_
        · skip
          refine Stp.mk ?_
          go_simp
          go_wp2_with fail
          refine (HGD.out w8 hS HD8.out).mono ?_
          rintro e w4 ⟨d', rfl, h0, hne, hg4⟩
          have hb4 := grown_below hg4 (Nat.le_refl _) (fun j hj => by cases hj)
          have hSn := hS.below hb4 hS.lt
          have HT := Lib.hid (HT8.out.below hb4 HT8.out.lt)
          have HB := Lib.hid (below_to HB8.out hb4 HB8.out.size)
          have HY := Lib.hid (HY8.out.below hb4 HY8.out.lt)
          clear h0 hne hg4 hb4
          go_wp2
          refine hK.out _ _ hSn (fun hS => ?_)
          clear hK K hSn
          refine wpAnyH_take (i := 5) (v := ?_) rfl (by kernel_rfl) (by kernel_rfl) (by kernel_rfl) (fun _ _ _ h => h) (Or.inl ⟨by rfl, ?hyq⟩) hS ?_
          case hyq =>
            intro w hw
            go_simp
            try (with_reducible rfl)
          refine wpAnyH_take (i := 6) (v := ?_) rfl (by kernel_rfl) (by kernel_rfl) (by kernel_rfl) (fun _ _ _ h => h) (Or.inl ⟨by rfl, ?hyq⟩) hS ?_
          case hyq =>
            intro w hw
            go_simp
            try (with_reducible rfl)
          refine wpAnyH_take (i := 7) (v := ?_) rfl (by kernel_rfl) (by kernel_rfl) (by kernel_rfl) (fun _ _ _ h => h) (Or.inl ⟨by rfl, ?hyq⟩) hS ?_
          case hyq =>
            intro w hw
            go_simp
            try (with_reducible rfl)
          refine wpAnyH_ready (rs := [9]) (by kernel_rfl) (by simp) ?_
          refine all_consH rfl (fun K hK => ?_) ?_
          · skip
            refine Stp.mk ?_
            obtain ⟨m0, m1⟩ := HY.out.cells
            have mf := HY.out.frozen
            have hX9 := (HY.out.put0 (.slice d'.A d'.nB d'.cB)).put1 (.slice d'.W d'.nW d'.cW)
            have hB9 := (HB.out.setCell (p := ⟨g6, 0, none⟩) (by have := HG6.out; simp; omega) (.slice d'.A d'.nB d'.cB)).setCell (p := ⟨g6, 1, none⟩) (by have := HG6.out; simp; omega) (.slice d'.W d'.nW d'.cW)
            have hT9 := (HT.out.set ⟨g6, 0, none⟩ (by have := HG6.out; simp; omega) (.slice d'.A d'.nB d'.cB)).set ⟨g6, 1, none⟩ (by have := HG6.out; simp; omega) (.slice d'.W d'.nW d'.cW)
            have hSn := (hS.set ⟨g6, 0, none⟩ (by have := HG6.out; simp; omega) (.slice d'.A d'.nB d'.cB)).set ⟨g6, 1, none⟩ (by have := HG6.out; simp; omega) (.slice d'.W d'.nW d'.cW)
            go_simp
            clear m0 m1 mf
            refine hK.out _ _ hSn (fun hS => ?_)
            clear hK K hSn
            refine wpAnyH_ready (rs := [10]) (by kernel_rfl) (by simp) ?_
            refine all_consH rfl (fun K hK => ?_) ?_
            · skip
              refine Stp.mk ?_
              go_simp
              have hSn := hS
              refine hK.out _ _ hSn (fun hS => ?_)
              clear hK K hSn
              refine wpAnyH_done (by kernel_rfl) ?_ _
              go_wp2
              go_meet
              case rel => exact ⟨rfl, hS, hT9, hB9⟩
            exact AllReadyH.nil
          exact AllReadyH.nil
        exact AllReadyH.nil
      exact AllReadyH.nil
    refine all_consH rfl (fun K hK => ?_) ?_
    · skip
      obtain ⟨W0, hW0⟩ : ∃ V, V = w2.drew := ⟨_, rfl⟩
      obtain ⟨g6, hg6⟩ : ∃ b, b = W0.heap.size := ⟨_, rfl⟩
      obtain ⟨w8, hw8⟩ : ∃ W, W = W0.alloc (.cells #[.slice none 0 0, .slice none 0 0] 25) := ⟨_, rfl⟩
      refine stp_run (v := .pointer (some ⟨g6, 0, none⟩)) (w' := w8) rfl (by rw [hg6, hw8, hW0]; go_simp) ?_
      have hb8 := below_new' W0 (.cells #[.slice none 0 0, .slice none 0 0] 25)
      have hy8 := DkBox.new W0 (.slice none 0 0) (.slice none 0 0)
      rw [← hw8] at hb8 hy8
      rw [← hg6] at hy8
      rw [hW0] at hb8 hg6
      have hSn := hS.below hb8 hS.lt
      have HG6 := Lib.hid (show w.heap.size + 1 < g6 from by have := HT1.out.lt; omega)
      have HT8 := Lib.hid (HT1.out.below hb8 HT1.out.lt)
      have HY8 := Lib.hid hy8
      have HB8 := Lib.hid (below_to HB1.out hb8 HB1.out.size)
      have HD8 := Lib.hid (HD1.out.below hb8)
      clear hb8 hy8 hw8 hg6 hW0
      refine hK.out _ _ hSn (fun hS => ?_)
      clear hK K hSn
      refine wpAnyH_ready (rs := [2]) (by kernel_rfl) (by simp) ?_
      refine all_consH rfl (fun K hK => ?_) ?_
      · skip
        refine Stp.mk ?_
        go_simp
        go_wp2_with fail
        refine (HP.out _).mono ?_
        rintro e w3 ⟨rfl, rfl⟩
        have hSn := hS
        go_wp2
        refine hK.out _ _ hSn (fun hS => ?_)
        clear hK K hSn
        refine wpAnyH_ready (rs := [4]) (by kernel_rfl) (by simp) ?_
        refine all_consH rfl (fun K hK => ?_) ?_
        · skip
          refine Stp.mk ?_
          go_simp
          go_wp2_with fail
          refine (HGD.out w8 hS HD8.out).mono ?_
          rintro e w4 ⟨d', rfl, h0, hne, hg4⟩
          have hb4 := grown_below hg4 (Nat.le_refl _) (fun j hj => by cases hj)
          have hSn := hS.below hb4 hS.lt
          have HT := Lib.hid (HT8.out.below hb4 HT8.out.lt)
          have HB := Lib.hid (below_to HB8.out hb4 HB8.out.size)
          have HY := Lib.hid (HY8.out.below hb4 HY8.out.lt)
          clear h0 hne hg4 hb4
          go_wp2
          refine hK.out _ _ hSn (fun hS => ?_)
          clear hK K hSn
          refine wpAnyH_take (i := 5) (v := ?_) rfl (by kernel_rfl) (by kernel_rfl) (by kernel_rfl) (fun _ _ _ h => h) (Or.inl ⟨by rfl, ?hyq⟩) hS ?_
          case hyq =>
            intro w hw
            go_simp
            try (with_reducible rfl)
          refine wpAnyH_take (i := 6) (v := ?_) rfl (by kernel_rfl) (by kernel_rfl) (by kernel_rfl) (fun _ _ _ h => h) (Or.inl ⟨by rfl, ?hyq⟩) hS ?_
          case hyq =>
            intro w hw
            go_simp
            try (with_reducible rfl)
          refine wpAnyH_take (i := 7) (v := ?_) rfl (by kernel_rfl) (by kernel_rfl) (by kernel_rfl) (fun _ _ _ h => h) (Or.inl ⟨by rfl, ?hyq⟩) hS ?_
          case hyq =>
            intro w hw
            go_simp
            try (with_reducible rfl)
          refine wpAnyH_ready (rs := [9]) (by kernel_rfl) (by simp) ?_
          refine all_consH rfl (fun K hK => ?_) ?_
          · skip
            refine Stp.mk ?_
            obtain ⟨m0, m1⟩ := HY.out.cells
            have mf := HY.out.frozen
            have hX9 := (HY.out.put0 (.slice d'.A d'.nB d'.cB)).put1 (.slice d'.W d'.nW d'.cW)
            have hB9 := (HB.out.setCell (p := ⟨g6, 0, none⟩) (by have := HG6.out; simp; omega) (.slice d'.A d'.nB d'.cB)).setCell (p := ⟨g6, 1, none⟩) (by have := HG6.out; simp; omega) (.slice d'.W d'.nW d'.cW)
            have hT9 := (HT.out.set ⟨g6, 0, none⟩ (by have := HG6.out; simp; omega) (.slice d'.A d'.nB d'.cB)).set ⟨g6, 1, none⟩ (by have := HG6.out; simp; omega) (.slice d'.W d'.nW d'.cW)
            have hSn := (hS.set ⟨g6, 0, none⟩ (by have := HG6.out; simp; omega) (.slice d'.A d'.nB d'.cB)).set ⟨g6, 1, none⟩ (by have := HG6.out; simp; omega) (.slice d'.W d'.nW d'.cW)
            go_simp
            clear m0 m1 mf
            refine hK.out _ _ hSn (fun hS => ?_)
            clear hK K hSn
            refine wpAnyH_ready (rs := [10]) (by kernel_rfl) (by simp) ?_
            refine all_consH rfl (fun K hK => ?_) ?_
            · skip
              refine Stp.mk ?_
              go_simp
              have hSn := hS
              refine hK.out _ _ hSn (fun hS => ?_)
              clear hK K hSn
              refine wpAnyH_done (by kernel_rfl) ?_ _
              go_wp2
              go_meet
              case rel => exact ⟨rfl, hS, hT9, hB9⟩
            exact AllReadyH.nil
          exact AllReadyH.nil
        exact AllReadyH.nil
      exact AllReadyH.nil
    exact AllReadyH.nil
  case rest =>
    obtain ⟨rfl, hX, hT, hB⟩ := hcut
    clear HX1 HT1 HB1 HP HGD HD1
    have HX := Lib.hid hX
    have HT := Lib.hid hT
    have HB := Lib.hid hB
    obtain ⟨x0, x1⟩ := hX.cells
    obtain ⟨t0, t1⟩ := hT.cells
    have tf := hT.frozen
    have hT3 := (hT.put0 (.slice none 0 0)).put1 (.slice none 0 0)
    obtain ⟨y0, y1⟩ := hT3.cells
    have hB3 := (hB.setCell (p := ⟨w.heap.size + 1, 0, none⟩) (Nat.le_succ _) (.slice none 0 0)).setCell (p := ⟨w.heap.size + 1, 1, none⟩) (Nat.le_succ _) (.slice none 0 0)
    have HB3 := Lib.hid hB3
    clear hX hT hB hT3 hB3
    by_cases he : E1 = 0
    · subst he
      obtain ⟨hmay, h0, h1⟩ := HMAY.out rfl
      have hlw : d.c.w.length = d.nW := by rw [Dk.c_w, List.length_map, HD.out.lw]
      have hsn := HS.out.1
      have hee : E = if s.n = 256 then (if d.nW = 4096 then 9 else 0) else 3 := by
        have := HE2.out
        rw [if_pos rfl, hlw, hsn] at this
        exact this
      have HM := Lib.hid hmay
      have HSN := Lib.hid hsn
      clear hmay h0 h1 hlw hsn HE2 HMAY
      by_cases hn : s.n = 256
      · have hn2 : ((s.n : Int) != 256) = false := by simp [hn]
        rw [if_pos hn] at hee
        by_cases hw : d.nW = 4096
        · rw [if_pos hw] at hee
          subst hee
          have hw2 : ((d.nW : Int) == 4096) = true := by simp [hw]
          have HN := Lib.hid hn
          have HW := Lib.hid hw
          clear hn hw
          go_wp2
          refine bodyPost_ret (v := .tuple #[.agg #[.slice none 0 0, .slice none 0 0], .int .i64 9]) (by simp [results, Try.results24, go_sem, y0, y1]) rfl ?_
          exact ⟨Dk.nil, rfl, by rw [if_neg (by decide)]; exact Nw.nil _ _, HB3.out⟩
        · rw [if_neg hw] at hee
          subst hee
          have hw2 : ((d.nW : Int) == 4096) = false := by simp; omega
          have HN := Lib.hid hn
          have HW := Lib.hid hw
          have hnW : (d.nW : Int) ≤ 4096 := by have := HM.out.2.2.1; rw [Dk.c_w, List.length_map, HD.out.lw] at this; omega
          clear hn hw y0 y1 HB3
          go_wp2
          have HX8 := Lib.hid (show DkBox wc.drew w.heap.size (.slice d.A d.nB d.cB) (.slice d.W d.nW d.cW) from HX.out)
          have HT8 := Lib.hid (show DkBox wc.drew (w.heap.size + 1) (.slice none 0 0) (.slice none 0 0) from HT.out)
          have hbd := HB.out.drew
          have HB8 := Lib.hid hbd
          have HD8 := Lib.hid (HD.out.below hbd)
          have HS8 := Lib.hid (HS.out.below hbd)
          clear hbd x0 x1 t0 t1 tf
          have HW1 := Lib.hid (show Rd wc.drew wc.drew.heap.size 2 d.W d.nW (wcs d.ws) from HD8.out.rw_)
          have HCL := Lib.hid HD.out.cw
          refine wp_region_held_drew (S := fun V => DkBox V w.heap.size (.slice d.A d.nB d.cB) (.slice d.W d.nW d.cW)) (by kernel_rfl) (show DkBox wc.drew _ _ _ from HX8.out) (fun hS => ?_)
          refine wpAnyH_take (i := 0) (v := ?_) rfl (by kernel_rfl) (by kernel_rfl) (by kernel_rfl) (fun _ _ _ h => h) (Or.inl ⟨by rfl, ?hyq⟩) hS ?_
          case hyq =>
            intro w hw
            go_simp
            try (with_reducible rfl)
          refine wpAnyH_take (i := 1) (v := ?_) rfl (by kernel_rfl) (by kernel_rfl) (by kernel_rfl) (fun _ _ _ h => h) (Or.inl ⟨by rfl, ?hyq⟩) hS ?_
          case hyq =>
            intro w hw
            obtain ⟨k0, k1⟩ := hw.cells
            go_simp
            try (with_reducible rfl)
          refine wpAnyH_take (i := 2) (v := ?_) rfl (by kernel_rfl) (by kernel_rfl) (by kernel_rfl) (fun _ _ _ h => h) (Or.inl ⟨by rfl, ?hyq⟩) hS ?_
          case hyq =>
            intro w hw
            go_simp
            try (with_reducible rfl)
          refine wpAnyH_take (i := 3) (v := ?_) rfl (by kernel_rfl) (by kernel_rfl) (by kernel_rfl) (fun _ _ _ h => h) (Or.inl ⟨by rfl, ?hyq⟩) hS ?_
          case hyq =>
            intro w hw
            obtain ⟨k0, k1⟩ := hw.cells
            go_simp
            try (with_reducible rfl)
          refine wpAnyH_take (i := 5) (v := ?_) rfl (by kernel_rfl) (by kernel_rfl) (by kernel_rfl) (fun _ _ _ h => h) (Or.inl ⟨by rfl, ?hyq⟩) hS ?_
          case hyq =>
            intro w hw
            go_simp
            try (with_reducible rfl)
          refine wpAnyH_take (i := 6) (v := ?_) rfl (by kernel_rfl) (by kernel_rfl) (by kernel_rfl) (fun _ _ _ h => h) (Or.inl ⟨by rfl, ?hyq⟩) hS ?_
          case hyq =>
            intro w hw
            go_simp
            try (with_reducible rfl)
          refine wpAnyH_take (i := 7) (v := ?_) rfl (by kernel_rfl) (by kernel_rfl) (by kernel_rfl) (fun _ _ _ h => h) (Or.inl ⟨by rfl, ?hyq⟩) hS ?_
          case hyq =>
            intro w hw
            go_simp
            try (with_reducible rfl)
          refine wpAnyH_ready (rs := [4, 8]) (by kernel_rfl) (by simp) ?_
          refine all_consH rfl (fun K hK => ?_) ?_
          · skip
            refine Stp.mk ?_
            go_simp
            go_wp2_with fail
            refine (s_clip d.W d.nW d.cW _ HCL.out.1 HCL.out.2).mono ?_
            rintro e w6 ⟨rfl, rfl⟩
            have hSn := hS
            go_wp2
            refine hK.out _ _ hSn (fun hS => ?_)
            clear hK K hSn
            refine wpAnyH_ready (rs := [8]) (by kernel_rfl) (by simp) ?_
            refine all_consH rfl (fun K hK => ?_) ?_
            · skip
              obtain ⟨W0, hW0⟩ : ∃ V, V = wc.drew := ⟨_, rfl⟩
              obtain ⟨b9, hb9⟩ : ∃ b, b = W0.heap.size := ⟨_, rfl⟩
              obtain ⟨w8, hw8⟩ : ∃ W, W = W0.alloc (.cells #[.int .i64 at_, .slice s.A s.n s.c] 54) := ⟨_, rfl⟩
              refine stp_run (v := .slice (some ⟨b9, 0, none⟩) 1 1) (w' := w8) rfl (by rw [hb9, hw8, hW0]; go_simp) ?_
              have hr9 := Rd.made W0 54 2 1 [.int .i64 at_, .slice s.A s.n s.c] rfl
              have hb8 := below_new' W0 (.cells #[.int .i64 at_, .slice s.A s.n s.c] 54)
              rw [show ([.int .i64 at_, .slice s.A s.n s.c] : List Value).toArray = #[.int .i64 at_, .slice s.A s.n s.c] from rfl, ← hb9, ← hw8] at hr9
              rw [← hw8, hW0] at hb8
              have HR9 := Lib.hid (show Rd w8 (b9 + 1) 2 (some ⟨b9, 0, none⟩) 1 (wcs [⟨at_, s⟩]) from hr9)
              have hSn := hS.below hb8 hS.lt
              replace HT8 := Lib.hid (HT8.out.below hb8 HT8.out.lt)
              replace HB8 := Lib.hid (below_to HB8.out hb8 HB8.out.size)
              replace HW1 := Lib.hid (HW1.out.below hb8)
              replace HD8 := Lib.hid (HD8.out.below hb8)
              replace HS8 := Lib.hid (HS8.out.below hb8)
              clear hr9 hb8 hb9 hw8 hW0
              refine hK.out _ _ hSn (fun hS => ?_)
              clear hK K hSn
              refine wpAnyH_ready (rs := [9]) (by kernel_rfl) (by simp) ?_
              refine all_consH rfl (fun K hK => ?_) ?_
              · skip
                refine stp_append_full (c := d.nW) (c' := 1) rfl (.tmp 37) (.tmp 41) rfl okW (by simp [Act.eval, Act.put]) HW1.out (by simp [Act.eval, Act.put]) HR9.out (by omega) (d.nW + 1) rfl (by unfold maxLen; omega) (by omega) (wcs (d.ws ++ [⟨at_, s⟩])) (wcs_app _ _).symm ?_
                intro D dd w9 f9 g9 z9
                have hSn := hS.below g9.out hS.lt
                replace HT8 := Lib.hid (HT8.out.below g9.out HT8.out.lt)
                replace HB8 := Lib.hid (below_to HB8.out g9.out HB8.out.size)
                replace HD8 := Lib.hid (HD8.out.below g9.out)
                replace HS8 := Lib.hid (HS8.out.below g9.out)
                have HF9 := Lib.hid f9.out
                clear f9 g9 z9
                refine hK.out _ _ hSn (fun hS => ?_)
                clear hK K hSn
                refine wpAnyH_take (i := 10) (v := ?_) rfl (by kernel_rfl) (by kernel_rfl) (by kernel_rfl) (fun _ _ _ h => h) (Or.inl ⟨by rfl, ?hyq⟩) hS ?_
                case hyq =>
                  intro w hw
                  go_simp
                  try (with_reducible rfl)
                refine wpAnyH_ready (rs := [11]) (by kernel_rfl) (by simp) ?_
                refine all_consH rfl (fun K hK => ?_) ?_
                · skip
                  refine Stp.mk ?_
                  go_simp
                  go_wp2_with fail
                  refine (tw_write d s at_ _ HD8.out HS8.out HAT.out HM.out (HSN.out.trans HN.out) D dd _ HF9.out).mono ?_
                  rintro e w11 ⟨d', he, htw, hb11⟩
                  unfold Dk.v at he
                  subst he
                  have hSn := hS.below hb11 hS.lt
                  have HT := Lib.hid (HT8.out.below hb11 HT8.out.lt)
                  have HN11 := Lib.hid (htw.nw.mono (base' := w.heap.size) (by have := HB8.out.size; omega))
                  have HB11 := Lib.hid (below_to HB8.out hb11 HB8.out.size)
                  clear htw hb11
                  go_wp2
                  refine hK.out _ _ hSn (fun hS => ?_)
                  clear hK K hSn
                  refine wpAnyH_ready (rs := [12]) (by kernel_rfl) (by simp) ?_
                  refine all_consH rfl (fun K hK => ?_) ?_
                  · skip
                    refine Stp.mk ?_
                    obtain ⟨m0, m1⟩ := HT.out.cells
                    have mf := HT.out.frozen
                    have hT9 := (HT.out.put0 (.slice d'.A d'.nB d'.cB)).put1 (.slice d'.W d'.nW d'.cW)
                    have hN9 := (HN11.out.grown_box (grown_setCell _ ⟨w.heap.size + 1, 0, none⟩ (.slice d'.A d'.nB d'.cB)) HT.out).grown_box (grown_setCell _ ⟨w.heap.size + 1, 1, none⟩ (.slice d'.W d'.nW d'.cW)) (HT.out.put0 (.slice d'.A d'.nB d'.cB))
                    have hB9 := (HB11.out.setCell (p := ⟨w.heap.size + 1, 0, none⟩) (Nat.le_succ _) (.slice d'.A d'.nB d'.cB)).setCell (p := ⟨w.heap.size + 1, 1, none⟩) (Nat.le_succ _) (.slice d'.W d'.nW d'.cW)
                    have hSn := (hS.set ⟨w.heap.size + 1, 0, none⟩ (by simp) (.slice d'.A d'.nB d'.cB)).set ⟨w.heap.size + 1, 1, none⟩ (by simp) (.slice d'.W d'.nW d'.cW)
                    go_simp
                    clear m0 m1 mf
                    refine hK.out _ _ hSn (fun hS => ?_)
                    clear hK K hSn
                    refine wpAnyH_ready (rs := [13]) (by kernel_rfl) (by simp) ?_
                    refine all_consH rfl (fun K hK => ?_) ?_
                    · skip
                      refine Stp.mk ?_
                      go_simp
                      have hSn := hS
                      refine hK.out _ _ hSn (fun hS => ?_)
                      clear hK K hSn
                      refine wpAnyH_done (by kernel_rfl) ?_ _
                      obtain ⟨y0, y1⟩ := hT9.cells
                      have HN9 := Lib.hid hN9
                      have HB9 := Lib.hid hB9
                      clear hT9 hN9 hB9
                      go_wp2
                      refine bodyPost_ret (v := .tuple #[.agg #[.slice d'.A d'.nB d'.cB, .slice d'.W d'.nW d'.cW], .int .i64 0]) (by simp [results, Try.results24, go_sem, y0, y1]) rfl ?_
                      exact ⟨d', rfl, by rw [if_pos rfl]; exact HN9.out, HB9.out⟩
                    exact AllReadyH.nil
                  exact AllReadyH.nil
                exact AllReadyH.nil
              exact AllReadyH.nil
            exact AllReadyH.nil
          refine all_consH rfl (fun K hK => ?_) ?_
          · skip
            obtain ⟨W0, hW0⟩ : ∃ V, V = wc.drew := ⟨_, rfl⟩
            obtain ⟨b9, hb9⟩ : ∃ b, b = W0.heap.size := ⟨_, rfl⟩
            obtain ⟨w8, hw8⟩ : ∃ W, W = W0.alloc (.cells #[.int .i64 at_, .slice s.A s.n s.c] 54) := ⟨_, rfl⟩
            refine stp_run (v := .slice (some ⟨b9, 0, none⟩) 1 1) (w' := w8) rfl (by rw [hb9, hw8, hW0]; go_simp) ?_
            have hr9 := Rd.made W0 54 2 1 [.int .i64 at_, .slice s.A s.n s.c] rfl
            have hb8 := below_new' W0 (.cells #[.int .i64 at_, .slice s.A s.n s.c] 54)
            rw [show ([.int .i64 at_, .slice s.A s.n s.c] : List Value).toArray = #[.int .i64 at_, .slice s.A s.n s.c] from rfl, ← hb9, ← hw8] at hr9
            rw [← hw8, hW0] at hb8
            have HR9 := Lib.hid (show Rd w8 (b9 + 1) 2 (some ⟨b9, 0, none⟩) 1 (wcs [⟨at_, s⟩]) from hr9)
            have hSn := hS.below hb8 hS.lt
            replace HT8 := Lib.hid (HT8.out.below hb8 HT8.out.lt)
            replace HB8 := Lib.hid (below_to HB8.out hb8 HB8.out.size)
            replace HW1 := Lib.hid (HW1.out.below hb8)
            replace HD8 := Lib.hid (HD8.out.below hb8)
            replace HS8 := Lib.hid (HS8.out.below hb8)
            clear hr9 hb8 hb9 hw8 hW0
            refine hK.out _ _ hSn (fun hS => ?_)
            clear hK K hSn
            refine wpAnyH_ready (rs := [4]) (by kernel_rfl) (by simp) ?_
            refine all_consH rfl (fun K hK => ?_) ?_
            · skip
              refine Stp.mk ?_
              go_simp
              go_wp2_with fail
              refine (s_clip d.W d.nW d.cW _ HCL.out.1 HCL.out.2).mono ?_
              rintro e w6 ⟨rfl, rfl⟩
              have hSn := hS
              go_wp2
              refine hK.out _ _ hSn (fun hS => ?_)
              clear hK K hSn
              refine wpAnyH_ready (rs := [9]) (by kernel_rfl) (by simp) ?_
              refine all_consH rfl (fun K hK => ?_) ?_
              · skip
                refine stp_append_full (c := d.nW) (c' := 1) rfl (.tmp 37) (.tmp 41) rfl okW (by simp [Act.eval, Act.put]) HW1.out (by simp [Act.eval, Act.put]) HR9.out (by omega) (d.nW + 1) rfl (by unfold maxLen; omega) (by omega) (wcs (d.ws ++ [⟨at_, s⟩])) (wcs_app _ _).symm ?_
                intro D dd w9 f9 g9 z9
                have hSn := hS.below g9.out hS.lt
                replace HT8 := Lib.hid (HT8.out.below g9.out HT8.out.lt)
                replace HB8 := Lib.hid (below_to HB8.out g9.out HB8.out.size)
                replace HD8 := Lib.hid (HD8.out.below g9.out)
                replace HS8 := Lib.hid (HS8.out.below g9.out)
                have HF9 := Lib.hid f9.out
                clear f9 g9 z9
                refine hK.out _ _ hSn (fun hS => ?_)
                clear hK K hSn
                refine wpAnyH_take (i := 10) (v := ?_) rfl (by kernel_rfl) (by kernel_rfl) (by kernel_rfl) (fun _ _ _ h => h) (Or.inl ⟨by rfl, ?hyq⟩) hS ?_
                case hyq =>
                  intro w hw
                  go_simp
                  try (with_reducible rfl)
                refine wpAnyH_ready (rs := [11]) (by kernel_rfl) (by simp) ?_
                refine all_consH rfl (fun K hK => ?_) ?_
                · skip
                  refine Stp.mk ?_
                  go_simp
                  go_wp2_with fail
                  refine (tw_write d s at_ _ HD8.out HS8.out HAT.out HM.out (HSN.out.trans HN.out) D dd _ HF9.out).mono ?_
                  rintro e w11 ⟨d', he, htw, hb11⟩
                  unfold Dk.v at he
                  subst he
                  have hSn := hS.below hb11 hS.lt
                  have HT := Lib.hid (HT8.out.below hb11 HT8.out.lt)
                  have HN11 := Lib.hid (htw.nw.mono (base' := w.heap.size) (by have := HB8.out.size; omega))
                  have HB11 := Lib.hid (below_to HB8.out hb11 HB8.out.size)
                  clear htw hb11
                  go_wp2
                  refine hK.out _ _ hSn (fun hS => ?_)
                  clear hK K hSn
                  refine wpAnyH_ready (rs := [12]) (by kernel_rfl) (by simp) ?_
                  refine all_consH rfl (fun K hK => ?_) ?_
                  · skip
                    refine Stp.mk ?_
                    obtain ⟨m0, m1⟩ := HT.out.cells
                    have mf := HT.out.frozen
                    have hT9 := (HT.out.put0 (.slice d'.A d'.nB d'.cB)).put1 (.slice d'.W d'.nW d'.cW)
                    have hN9 := (HN11.out.grown_box (grown_setCell _ ⟨w.heap.size + 1, 0, none⟩ (.slice d'.A d'.nB d'.cB)) HT.out).grown_box (grown_setCell _ ⟨w.heap.size + 1, 1, none⟩ (.slice d'.W d'.nW d'.cW)) (HT.out.put0 (.slice d'.A d'.nB d'.cB))
                    have hB9 := (HB11.out.setCell (p := ⟨w.heap.size + 1, 0, none⟩) (Nat.le_succ _) (.slice d'.A d'.nB d'.cB)).setCell (p := ⟨w.heap.size + 1, 1, none⟩) (Nat.le_succ _) (.slice d'.W d'.nW d'.cW)
                    have hSn := (hS.set ⟨w.heap.size + 1, 0, none⟩ (by simp) (.slice d'.A d'.nB d'.cB)).set ⟨w.heap.size + 1, 1, none⟩ (by simp) (.slice d'.W d'.nW d'.cW)
                    go_simp
                    clear m0 m1 mf
                    refine hK.out _ _ hSn (fun hS => ?_)
                    clear hK K hSn
                    refine wpAnyH_ready (rs := [13]) (by kernel_rfl) (by simp) ?_
                    refine all_consH rfl (fun K hK => ?_) ?_
                    · skip
                      refine Stp.mk ?_
                      go_simp
                      have hSn := hS
                      refine hK.out _ _ hSn (fun hS => ?_)
                      clear hK K hSn
                      refine wpAnyH_done (by kernel_rfl) ?_ _
                      obtain ⟨y0, y1⟩ := hT9.cells
                      have HN9 := Lib.hid hN9
                      have HB9 := Lib.hid hB9
                      clear hT9 hN9 hB9
                      go_wp2
                      refine bodyPost_ret (v := .tuple #[.agg #[.slice d'.A d'.nB d'.cB, .slice d'.W d'.nW d'.cW], .int .i64 0]) (by simp [results, Try.results24, go_sem, y0, y1]) rfl ?_
                      exact ⟨d', rfl, by rw [if_pos rfl]; exact HN9.out, HB9.out⟩
                    exact AllReadyH.nil
                  exact AllReadyH.nil
                exact AllReadyH.nil
              exact AllReadyH.nil
            exact AllReadyH.nil
          exact AllReadyH.nil
      · have hn2 : ((s.n : Int) != 256) = true := by simp; omega
        rw [if_neg hn] at hee
        subst hee
        have HN := Lib.hid hn
        clear hn
        go_wp2
        refine bodyPost_ret (v := .tuple #[.agg #[.slice none 0 0, .slice none 0 0], .int .i64 3]) (by simp [results, Try.results24, go_sem, y0, y1]) rfl ?_
        exact ⟨Dk.nil, rfl, by rw [if_neg (by decide)]; exact Nw.nil _ _, HB3.out⟩
    · have hee : E = E1 := by
        have := HE2.out
        rw [if_neg he] at this
        exact this
      subst hee
      have he2 : (E != 0) = true := by simp [he]
      have he3 : (E == 0) = false := by simp [he]
      have HE := Lib.hid he
      clear he HE2 HMAY
      go_wp2
      refine bodyPost_ret (v := .tuple #[.agg #[.slice none 0 0, .slice none 0 0], .int .i64 E]) (by simp [results, Try.results24, go_sem, y0, y1]) rfl ?_
      exact ⟨Dk.nil, rfl, by rw [if_neg HE.out]; exact Nw.nil _ _, HB3.out⟩
end Go.Proofs.Ytkaklppkmokffaa
