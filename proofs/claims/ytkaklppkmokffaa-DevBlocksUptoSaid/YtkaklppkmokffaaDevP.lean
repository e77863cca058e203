/-
  Contract of dev.Read.
-/
import Derived.Test.YtkaklppkmokffaaDevL
namespace Go.Proofs.Ytkaklppkmokffaa
open Go.RowKit
set_option linter.unusedVariables false
set_option linter.unusedSimpArgs false
set_option maxRecDepth 100000

theorem gd_read (d : Dk) (G : Nat) (w : World) (hG : DkBox w G (.slice d.A d.nB d.cB) (.slice d.W d.nW d.cW)) (hd : d.ok w) (hB6 : (d.nB : Int) ≤ 1000000) (hW6 : (d.nW : Int) ≤ 1000000) (is : Bool) (E : Int) (hE : E = errG d.c is) :
    Calls Try.prog 34 #[.agg #[.slice d.A d.nB d.cB, .slice d.W d.nW d.cW], .bool is, .func (.func 45) #[] #[.pointer (some ⟨G, 0, none⟩)]] w (GdP (TwR (d.c.left fun _ => true) (w.heap.size + 2)) none E w) :=
  d_guarded d w hd hB6 hW6 is 45 #[.pointer (some ⟨G, 0, none⟩)] e_doRead (TwR (d.c.left fun _ => true) (w.heap.size + 2)) none (fun j hj => by cases hj) E hE
    (fun hmay _ W hW hWs => d_doRead G d W (hG.below hW hG.lt) (hd.below hW) hmay _ hWs none) (TwR.stable (by omega))
theorem fr_box {w w' : World} {base sz n c j : Nat} {e : TypeId} {A : Option Addr} {xs : List Value} {X Y : Value} (h : Fr w base e sz A n c xs) (hg : w.grownBy w' (some j)) (hb : DkBox w j X Y) (hne : e ≠ 25) : Fr w' base e sz A n c xs :=
  h.kept hg (by
    by_cases hn : rowOf A c = none
    · exact .inl hn
    · refine .inr fun e1 => ?_
      obtain ⟨cur, fz, hc⟩ := h.cells_ j e1
      unfold DkBox at hb
      rw [hb] at hc
      cases hc
      exact hne rfl)
theorem Nw.grown_box {c : Ct} {base j : Nat} {d : Dk} {w w' : World} {X Y : Value} (h : Nw c base d w) (hg : w.grownBy w' (some j)) (hb : DkBox w j X Y) : Nw c base d w' := by
  obtain ⟨h1, h2, h3, h4, h5, h6⟩ := h
  have f3 := fr_box h3 hg hb (by decide)
  have f4 := fr_box h4 hg hb (by decide)
  have hr : ∀ i, some j = some i → i < base ∨ ∃ cur fz e, w.heap[i]? = some (.cells cur e fz) ∧ e ≠ 5 := fun i hi => .inr ⟨_, _, _, by cases hi; exact hb, by decide⟩
  have ob := fun s hs => own_came (h1.sb s hs) (h5 s hs) hg hr
  have ow := fun x hx => own_came (h1.sw x hx).1 (h6 x hx) hg hr
  exact ⟨⟨h1.lb, f3.rd, fun s hs => (ob s hs).1, h1.lw, f4.rd, fun x hx => ⟨(ow x hx).1, (h1.sw x hx).2⟩, h1.cb, h1.cw⟩, h2, f3, f4, fun s hs => (ob s hs).2, fun x hx => (ow x hx).2⟩
def ReadP (c : Ct) (at_ : Int) (E : Int) (w : World) (e : Ending) (w' : World) : Prop :=
  ∃ s : Sl, e = .returned (.tuple #[.slice s.A s.n s.c, .int .i64 E]) ∧ s.came w' ∧ Own w' w.heap.size s ∧ s.l = (if E = 0 then c.b.getD at_.toNat [] else []) ∧ Below w.heap.size w w'
def RdR (c : Ct) (E : Int) (w : World) (p e : Value) (wc : World) : Prop :=
  ∃ (g : Nat) (d' : Dk), p = .pointer (some ⟨g, 0, none⟩) ∧ e = .int .i64 E ∧ DkBox wc g (.slice d'.A d'.nB d'.cB) (.slice d'.W d'.nW d'.cW) ∧ Nw (if E = 0 then c else ⟨[], []⟩) w.heap.size d' wc ∧ Below w.heap.size w wc
theorem gd_nw {c : Ct} {base B : Nat} {E : Int} {d' : Dk} {w' : World} (h0 : E = 0 → TwR c base d' w') (hne : E ≠ 0 → d' = Dk.nil) (hB : B ≤ base) : Nw (if E = 0 then c else ⟨[], []⟩) B d' w' := by
  by_cases he : E = 0
  · rw [if_pos he]
    exact (show Tw _ _ _ _ from h0 he).nw.mono hB
  · rw [if_neg he, hne he]
    exact Nw.nil _ _
set_option maxHeartbeats 4000000 in
theorem d_read (d : Dk) (w : World) (hd : d.ok w) (hB6 : (d.nB : Int) ≤ 1000000) (hW6 : (d.nW : Int) ≤ 1000000) (at_ : Int) (hat : I64 at_) (E : Int) (hE : E = errG d.c (decide (0 ≤ at_ ∧ at_ < 256))) :
    Calls Try.prog 22 #[d.v, .int .i64 at_] w (ReadP (d.c.left fun _ => true) at_ E w) := by
  have hx1 := DkBox.new w (.slice d.A d.nB d.cB) (.slice d.W d.nW d.cW)
  have hb1 := below_new' w (.cells #[.slice d.A d.nB d.cB, .slice d.W d.nW d.cW] 25)
  have hz1 : (w.alloc (.cells #[.slice d.A d.nB d.cB, .slice d.W d.nW d.cW] 25)).heap.size = w.heap.size + 1 := by simp
  have hp := fun W => d_place at_ hat W _ rfl
  have hgd := fun W hG hd => gd_read d w.heap.size W hG hd hB6 hW6 _ E hE
  have hE0 : E = 0 → d.c.May ∧ 0 ≤ at_ ∧ at_ < 256 := by
    intro he
    rw [hE] at he
    unfold errG at he
    split at he
    · rename_i hm
      split at he
      · rename_i h2
        exact ⟨hm, of_decide_eq_true h2⟩
      · cases he
    · cases he
  have hmay0 : E = 0 → (d.c.left fun _ => true).May := fun h => Ct.left_may (hE0 h).1 _
  have hd1 := hd.below hb1
  have HX1 := Lib.hid hx1
  have HB1 := Lib.hid hb1
  have HZ1 := Lib.hid hz1
  have HP := Lib.hid hp
  have HGD := Lib.hid hgd
  have HE0 := Lib.hid (fun h => (hE0 h).2)
  have HM0 := Lib.hid hmay0
  have HD1 := Lib.hid hd1
  obtain ⟨cc, hcc⟩ : ∃ cc, cc = d.c.left fun _ => true := ⟨_, rfl⟩
  rw [← hcc] at HGD HM0 ⊢
  generalize decide (0 ≤ at_ ∧ at_ < 256) = v at *
  simp only [Dk.v] at *
  clear hx1 hb1 hz1 hp hgd hE0 hmay0 hd1 hd hE hat hcc
  go_enter Try.func22, Try.ntmps22
  go_wp2
  generalize w.alloc (.cells #[.slice d.A d.nB d.cB, .slice d.W d.nW d.cW] 25) = w2 at *
  go_cut [6, 7] from 8 (fun p e wc => RdR cc E w p e wc)
  case first =>
    have hwx : DkBox w2.drew w.heap.size (.slice d.A d.nB d.cB) (.slice d.W d.nW d.cW) := HX1.out
    have hbd := HB1.out.drew
    have hdd : d.ok w2.drew := HD1.out.below ((Below.refl _ _).drew)
    replace HB1 := Lib.hid (show Below w.heap.size w w2.drew from hbd)
    replace HD1 := Lib.hid hdd
    replace HZ1 := Lib.hid (show w2.drew.heap.size = w.heap.size + 1 from HZ1.out)
    clear hbd hdd HX1
    refine wp_region_held_drew (S := fun V => DkBox V w.heap.size (.slice d.A d.nB d.cB) (.slice d.W d.nW d.cW)) (by kernel_rfl) hwx (fun hS => ?_)
    refine wpAnyH_take (i := 0) (v := ?_) rfl (by kernel_rfl) (by kernel_rfl) (by kernel_rfl) (fun _ _ _ h => h) (Or.inl ⟨by rfl, ?hyq⟩) hS ?_
    case hyq =>
      intro w hw
      obtain ⟨k0, k1⟩ := hw.cells
      go_simp
      try (with_reducible rfl)
    refine wpAnyH_take (i := 1) (v := ?_) rfl (by kernel_rfl) (by kernel_rfl) (by kernel_rfl) (fun _ _ _ h => h) (Or.inl ⟨by rfl, ?hyq⟩) hS ?_
    case hyq =>
      intro w hw
      go_simp
      try (with_reducible rfl)
    refine wpAnyH_take (i := 3) (v := ?_) rfl (by kernel_rfl) (by kernel_rfl) (by kernel_rfl) (fun _ _ _ h => h) (Or.inl ⟨by rfl, ?hyq⟩) hS ?_
    case hyq =>
      intro w hw
      go_simp
      try (with_reducible rfl)
    refine wpAnyH_ready (rs := [2, 8]) (by kernel_rfl) (by simp) ?_
    refine all_consH rfl (fun K hK => ?_) ?_
    · skip
      refine Stp.mk ?_
      go_simp
      go_wp2_with fail
      refine (HP.out _).mono ?_
      rintro e w3 ⟨rfl, rfl⟩
      have hSn := hS
      go_wp2
      refine hK.out _ _ hSn (fun hS => ?_)
      clear hK K hSn
      refine wpAnyH_ready (rs := [4, 8]) (by kernel_rfl) (by simp) ?_
      refine all_consH rfl (fun K hK => ?_) ?_
      · skip
        refine Stp.mk ?_
        go_simp
        go_wp2_with fail
        refine (HGD.out _ hS HD1.out).mono ?_
        rintro e w4 ⟨d', rfl, h0, hne, hg4⟩
        have hb4 := grown_below hg4 (Nat.le_refl _) (fun j hj => by cases hj)
        have hSn := hS.below hb4 hS.lt
        have HN4 := Lib.hid (gd_nw (B := w.heap.size) h0 hne (by have := hS.lt; omega))
        have HB4 := Lib.hid (below_to HB1.out hb4 HB1.out.size)
        clear h0 hne hg4 hb4
        go_wp2
        refine hK.out _ _ hSn (fun hS => ?_)
        clear hK K hSn
        refine wpAnyH_take (i := 5) (v := ?_) rfl (by kernel_rfl) (by kernel_rfl) (by kernel_rfl) (fun _ _ _ h => h) (Or.inl ⟨by rfl, ?hyq⟩) hS ?_
        case hyq =>
          intro w hw
          go_simp
          try (with_reducible rfl)
        refine wpAnyH_take (i := 6) (v := ?_) rfl (by kernel_rfl) (by kernel_rfl) (by kernel_rfl) (fun _ _ _ h => h) (Or.inl ⟨by rfl, ?hyq⟩) hS ?_
        case hyq =>
          intro w hw
          go_simp
          try (with_reducible rfl)
        refine wpAnyH_take (i := 7) (v := ?_) rfl (by kernel_rfl) (by kernel_rfl) (by kernel_rfl) (fun _ _ _ h => h) (Or.inl ⟨by rfl, ?hyq⟩) hS ?_
        case hyq =>
          intro w hw
          go_simp
          try (with_reducible rfl)
        refine wpAnyH_ready (rs := [8]) (by kernel_rfl) (by simp) ?_
        refine all_consH rfl (fun K hK => ?_) ?_
        · skip
          obtain ⟨W0, hW0⟩ : ∃ V, V = w4 := ⟨_, rfl⟩
          obtain ⟨g6, hg6⟩ : ∃ b, b = W0.heap.size := ⟨_, rfl⟩
          obtain ⟨w8, hw8⟩ : ∃ W, W = W0.alloc (.cells #[.slice none 0 0, .slice none 0 0] 25) := ⟨_, rfl⟩
          refine stp_run (v := .pointer (some ⟨g6, 0, none⟩)) (w' := w8) rfl (by rw [hg6, hw8, hW0]; go_simp) ?_
          have hb8 := below_new' W0 (.cells #[.slice none 0 0, .slice none 0 0] 25)
          have hy8 := DkBox.new W0 (.slice none 0 0) (.slice none 0 0)
          rw [← hw8] at hb8 hy8
          rw [← hg6] at hy8
          rw [hW0] at hb8 hg6
          have hSn := hS.below hb8 hS.lt
          have HG6 := Lib.hid (show w.heap.size < g6 from by have := hS.lt; omega)
          have HY := Lib.hid hy8
          have HB := Lib.hid (below_to HB4.out hb8 HB4.out.size)
          have HN := Lib.hid (HN4.out.below hb8)
          clear hb8 hy8 hw8 hg6 hW0
          refine hK.out _ _ hSn (fun hS => ?_)
          clear hK K hSn
          refine wpAnyH_ready (rs := [9]) (by kernel_rfl) (by simp) ?_
          refine all_consH rfl (fun K hK => ?_) ?_
          · skip
            refine Stp.mk ?_
            obtain ⟨m0, m1⟩ := HY.out.cells
            have mf := HY.out.frozen
            have hX9 := (HY.out.put0 (.slice d'.A d'.nB d'.cB)).put1 (.slice d'.W d'.nW d'.cW)
            have hN9 := (HN.out.grown_box (grown_setCell _ ⟨g6, 0, none⟩ (.slice d'.A d'.nB d'.cB)) HY.out).grown_box (grown_setCell _ ⟨g6, 1, none⟩ (.slice d'.W d'.nW d'.cW)) (HY.out.put0 (.slice d'.A d'.nB d'.cB))
            have hB9 := (HB.out.setCell (p := ⟨g6, 0, none⟩) (Nat.le_of_lt HG6.out) (.slice d'.A d'.nB d'.cB)).setCell (p := ⟨g6, 1, none⟩) (Nat.le_of_lt HG6.out) (.slice d'.W d'.nW d'.cW)
            have hSn := (hS.set ⟨g6, 0, none⟩ (by have := HG6.out; simp; omega) (.slice d'.A d'.nB d'.cB)).set ⟨g6, 1, none⟩ (by have := HG6.out; simp; omega) (.slice d'.W d'.nW d'.cW)
            go_simp
            clear m0 m1 mf
            refine hK.out _ _ hSn (fun hS => ?_)
            clear hK K hSn
            refine wpAnyH_ready (rs := [10]) (by kernel_rfl) (by simp) ?_
            refine all_consH rfl (fun K hK => ?_) ?_
            · skip
              refine Stp.mk ?_
              go_simp
              have hSn := hS
              refine hK.out _ _ hSn (fun hS => ?_)
              clear hK K hSn
              refine wpAnyH_done (by kernel_rfl) ?_ _
              go_wp2
              go_meet
              case rel => exact ⟨g6, d', rfl, rfl, hX9, hN9, hB9⟩
            exact AllReadyH.nil
          exact AllReadyH.nil
        exact AllReadyH.nil
      refine all_consH rfl (fun K hK => ?_) ?_
      · skip
        obtain ⟨W0, hW0⟩ : ∃ V, V = w2.drew := ⟨_, rfl⟩
        obtain ⟨g6, hg6⟩ : ∃ b, b = W0.heap.size := ⟨_, rfl⟩
        obtain ⟨w8, hw8⟩ : ∃ W, W = W0.alloc (.cells #[.slice none 0 0, .slice none 0 0] 25) := ⟨_, rfl⟩
        refine stp_run (v := .pointer (some ⟨g6, 0, none⟩)) (w' := w8) rfl (by rw [hg6, hw8, hW0]; go_simp) ?_
        have hb8 := below_new' W0 (.cells #[.slice none 0 0, .slice none 0 0] 25)
        have hy8 := DkBox.new W0 (.slice none 0 0) (.slice none 0 0)
        rw [← hw8] at hb8 hy8
        rw [← hg6] at hy8
        rw [hW0] at hb8 hg6
        have hSn := hS.below hb8 hS.lt
        have HG6 := Lib.hid (show w.heap.size < g6 from by have := hS.lt; omega)
        have HY8 := Lib.hid hy8
        have HB8 := Lib.hid (below_to HB1.out hb8 HB1.out.size)
        have HD8 := Lib.hid (HD1.out.below hb8)
        clear hb8 hy8 hw8 hg6 hW0
        refine hK.out _ _ hSn (fun hS => ?_)
        clear hK K hSn
        refine wpAnyH_ready (rs := [4]) (by kernel_rfl) (by simp) ?_
        refine all_consH rfl (fun K hK => ?_) ?_
        · skip
          refine Stp.mk ?_
          go_simp
          go_wp2_with fail
          refine (HGD.out w8 hS HD8.out).mono ?_
          rintro e w4 ⟨d', rfl, h0, hne, hg4⟩
          have hb4 := grown_below hg4 (Nat.le_refl _) (fun j hj => by cases hj)
          have hSn := hS.below hb4 hS.lt
          have HN := Lib.hid (gd_nw (B := w.heap.size) h0 hne (by have := hS.lt; omega))
          have HB := Lib.hid (below_to HB8.out hb4 HB8.out.size)
          have HY := Lib.hid (HY8.out.below hb4 HY8.out.lt)
          clear h0 hne hg4 hb4
          go_wp2
          refine hK.out _ _ hSn (fun hS => ?_)
          clear hK K hSn
          refine wpAnyH_take (i := 5) (v := ?_) rfl (by kernel_rfl) (by kernel_rfl) (by kernel_rfl) (fun _ _ _ h => h) (Or.inl ⟨by rfl, ?hyq⟩) hS ?_
          case hyq =>
            intro w hw
            go_simp
            try (with_reducible rfl)
          refine wpAnyH_take (i := 6) (v := ?_) rfl (by kernel_rfl) (by kernel_rfl) (by kernel_rfl) (fun _ _ _ h => h) (Or.inl ⟨by rfl, ?hyq⟩) hS ?_
          case hyq =>
            intro w hw
            go_simp
            try (with_reducible rfl)
          refine wpAnyH_take (i := 7) (v := ?_) rfl (by kernel_rfl) (by kernel_rfl) (by kernel_rfl) (fun _ _ _ h => h) (Or.inl ⟨by rfl, ?hyq⟩) hS ?_
          case hyq =>
            intro w hw
            go_simp
            try (with_reducible rfl)
          refine wpAnyH_ready (rs := [9]) (by kernel_rfl) (by simp) ?_
          refine all_consH rfl (fun K hK => ?_) ?_
          · skip
            refine Stp.mk ?_
            obtain ⟨m0, m1⟩ := HY.out.cells
            have mf := HY.out.frozen
            have hX9 := (HY.out.put0 (.slice d'.A d'.nB d'.cB)).put1 (.slice d'.W d'.nW d'.cW)
            have hN9 := (HN.out.grown_box (grown_setCell _ ⟨g6, 0, none⟩ (.slice d'.A d'.nB d'.cB)) HY.out).grown_box (grown_setCell _ ⟨g6, 1, none⟩ (.slice d'.W d'.nW d'.cW)) (HY.out.put0 (.slice d'.A d'.nB d'.cB))
            have hB9 := (HB.out.setCell (p := ⟨g6, 0, none⟩) (Nat.le_of_lt HG6.out) (.slice d'.A d'.nB d'.cB)).setCell (p := ⟨g6, 1, none⟩) (Nat.le_of_lt HG6.out) (.slice d'.W d'.nW d'.cW)
            have hSn := (hS.set ⟨g6, 0, none⟩ (by have := HG6.out; simp; omega) (.slice d'.A d'.nB d'.cB)).set ⟨g6, 1, none⟩ (by have := HG6.out; simp; omega) (.slice d'.W d'.nW d'.cW)
            go_simp
            clear m0 m1 mf
            refine hK.out _ _ hSn (fun hS => ?_)
            clear hK K hSn
            refine wpAnyH_ready (rs := [10]) (by kernel_rfl) (by simp) ?_
            refine all_consH rfl (fun K hK => ?_) ?_
            · skip
              refine Stp.mk ?_
              go_simp
              have hSn := hS
              refine hK.out _ _ hSn (fun hS => ?_)
              clear hK K hSn
              refine wpAnyH_done (by kernel_rfl) ?_ _
              go_wp2
              go_meet
              case rel => exact ⟨g6, d', rfl, rfl, hX9, hN9, hB9⟩
            exact AllReadyH.nil
          exact AllReadyH.nil
        exact AllReadyH.nil
      exact AllReadyH.nil
    refine all_consH rfl (fun K hK => ?_) ?_
    · skip
      obtain ⟨W0, hW0⟩ : ∃ V, V = w2.drew := ⟨_, rfl⟩
      obtain ⟨g6, hg6⟩ : ∃ b, b = W0.heap.size := ⟨_, rfl⟩
      obtain ⟨w8, hw8⟩ : ∃ W, W = W0.alloc (.cells #[.slice none 0 0, .slice none 0 0] 25) := ⟨_, rfl⟩
      refine stp_run (v := .pointer (some ⟨g6, 0, none⟩)) (w' := w8) rfl (by rw [hg6, hw8, hW0]; go_simp) ?_
      have hb8 := below_new' W0 (.cells #[.slice none 0 0, .slice none 0 0] 25)
      have hy8 := DkBox.new W0 (.slice none 0 0) (.slice none 0 0)
      rw [← hw8] at hb8 hy8
      rw [← hg6] at hy8
      rw [hW0] at hb8 hg6
      have hSn := hS.below hb8 hS.lt
      have HG6 := Lib.hid (show w.heap.size < g6 from by have := hS.lt; omega)
      have HY8 := Lib.hid hy8
      have HB8 := Lib.hid (below_to HB1.out hb8 HB1.out.size)
      have HD8 := Lib.hid (HD1.out.below hb8)
      clear hb8 hy8 hw8 hg6 hW0
      refine hK.out _ _ hSn (fun hS => ?_)
      clear hK K hSn
      refine wpAnyH_ready (rs := [2]) (by kernel_rfl) (by simp) ?_
      refine all_consH rfl (fun K hK => ?_) ?_
      · skip
        refine Stp.mk ?_
        go_simp
        go_wp2_with fail
        refine (HP.out _).mono ?_
        rintro e w3 ⟨rfl, rfl⟩
        have hSn := hS
        go_wp2
        refine hK.out _ _ hSn (fun hS => ?_)
        clear hK K hSn
        refine wpAnyH_ready (rs := [4]) (by kernel_rfl) (by simp) ?_
        refine all_consH rfl (fun K hK => ?_) ?_
        · skip
          refine Stp.mk ?_
          go_simp
          go_wp2_with fail
          refine (HGD.out w8 hS HD8.out).mono ?_
          rintro e w4 ⟨d', rfl, h0, hne, hg4⟩
          have hb4 := grown_below hg4 (Nat.le_refl _) (fun j hj => by cases hj)
          have hSn := hS.below hb4 hS.lt
          have HN := Lib.hid (gd_nw (B := w.heap.size) h0 hne (by have := hS.lt; omega))
          have HB := Lib.hid (below_to HB8.out hb4 HB8.out.size)
          have HY := Lib.hid (HY8.out.below hb4 HY8.out.lt)
          clear h0 hne hg4 hb4
          go_wp2
          refine hK.out _ _ hSn (fun hS => ?_)
          clear hK K hSn
          refine wpAnyH_take (i := 5) (v := ?_) rfl (by kernel_rfl) (by kernel_rfl) (by kernel_rfl) (fun _ _ _ h => h) (Or.inl ⟨by rfl, ?hyq⟩) hS ?_
          case hyq =>
            intro w hw
            go_simp
            try (with_reducible rfl)
          refine wpAnyH_take (i := 6) (v := ?_) rfl (by kernel_rfl) (by kernel_rfl) (by kernel_rfl) (fun _ _ _ h => h) (Or.inl ⟨by rfl, ?hyq⟩) hS ?_
          case hyq =>
            intro w hw
            go_simp
            try (with_reducible rfl)
          refine wpAnyH_take (i := 7) (v := ?_) rfl (by kernel_rfl) (by kernel_rfl) (by kernel_rfl) (fun _ _ _ h => h) (Or.inl ⟨by rfl, ?hyq⟩) hS ?_
          case hyq =>
            intro w hw
            go_simp
            try (with_reducible rfl)
          refine wpAnyH_ready (rs := [9]) (by kernel_rfl) (by simp) ?_
          refine all_consH rfl (fun K hK => ?_) ?_
          · skip
            refine Stp.mk ?_
            obtain ⟨m0, m1⟩ := HY.out.cells
            have mf := HY.out.frozen
            have hX9 := (HY.out.put0 (.slice d'.A d'.nB d'.cB)).put1 (.slice d'.W d'.nW d'.cW)
            have hN9 := (HN.out.grown_box (grown_setCell _ ⟨g6, 0, none⟩ (.slice d'.A d'.nB d'.cB)) HY.out).grown_box (grown_setCell _ ⟨g6, 1, none⟩ (.slice d'.W d'.nW d'.cW)) (HY.out.put0 (.slice d'.A d'.nB d'.cB))
            have hB9 := (HB.out.setCell (p := ⟨g6, 0, none⟩) (Nat.le_of_lt HG6.out) (.slice d'.A d'.nB d'.cB)).setCell (p := ⟨g6, 1, none⟩) (Nat.le_of_lt HG6.out) (.slice d'.W d'.nW d'.cW)
            have hSn := (hS.set ⟨g6, 0, none⟩ (by have := HG6.out; simp; omega) (.slice d'.A d'.nB d'.cB)).set ⟨g6, 1, none⟩ (by have := HG6.out; simp; omega) (.slice d'.W d'.nW d'.cW)
            go_simp
            clear m0 m1 mf
            refine hK.out _ _ hSn (fun hS => ?_)
            clear hK K hSn
            refine wpAnyH_ready (rs := [10]) (by kernel_rfl) (by simp) ?_
            refine all_consH rfl (fun K hK => ?_) ?_
            · skip
              refine Stp.mk ?_
              go_simp
              have hSn := hS
              refine hK.out _ _ hSn (fun hS => ?_)
              clear hK K hSn
              refine wpAnyH_done (by kernel_rfl) ?_ _
              go_wp2
              go_meet
              case rel => exact ⟨g6, d', rfl, rfl, hX9, hN9, hB9⟩
            exact AllReadyH.nil
          exact AllReadyH.nil
        exact AllReadyH.nil
      exact AllReadyH.nil
    exact AllReadyH.nil
  case rest =>
    obtain ⟨g, d', rfl, rfl, hX, hN, hB⟩ := hcut
    clear HX1 HB1 HZ1 HP HGD HD1
    have HX := Lib.hid hX
    have HB := Lib.hid hB
    by_cases he : E = 0
    · subst he
      obtain ⟨h0, h1⟩ := HE0.out rfl
      obtain ⟨k, rfl⟩ : ∃ k : Nat, at_ = (k : Int) := ⟨at_.toNat, by omega⟩
      have hm := HM0.out rfl
      rw [if_pos rfl] at hN
      have hcb : d'.bs.map Sl.l = cc.b := by rw [← hN.cc]; rfl
      have hlen : d'.bs.length = 256 := by
        have := hm.1
        rw [← hcb, List.length_map] at this
        exact this
      have hnB : d'.nB = 256 := by rw [← hN.ok.lb]; exact hlen
      have hk : k < d'.bs.length := by omega
      have hkn : k < d'.nB := by omega
      have hlb := hN.ok.lb
      obtain ⟨b, off, hA, hbb, hc⟩ := hN.ok.rb.atS hkn hlb
      have hs := hN.ok.sb _ (List.getElem_mem hk)
      have ho := hN.ob _ (List.getElem_mem hk)
      have hl : (d'.bs[k]).l = cc.b.getD ((k : Int)).toNat [] := by
        rw [← hcb, List.getD_eq_getElem?_getD, Int.toNat_natCast, List.getElem?_map, List.getElem?_eq_getElem hk]
        rfl
      have HS := Lib.hid hs
      have HO := Lib.hid ho
      have HL := Lib.hid hl
      obtain ⟨x0, x1⟩ := hX.cells
      rw [hA, hnB] at x0
      have hk0 : ¬ ((k : Int) < 0) := by omega
      have hk1 : (k : Int) < 256 := h1
      clear hX hB hN hm hcb hlen hnB hA hs ho hl h0 h1 HE0 HM0
      generalize d'.bs[k] = s at *
      clear hkn hlb
      go_wp2
      go_ret2
      exact ⟨s, rfl, HS.out, HO.out, by rw [if_pos rfl]; exact HL.out, HB.out⟩
    · have he2 : (E == 0) = false := by simp [he]
      clear hX hB hN HE0 HM0
      go_wp2
      go_ret2
      exact ⟨⟨none, 0, 0, []⟩, rfl, ⟨rfl, Rd.nil_, Nat.le_refl _, Nat.zero_le _⟩, fun h => absurd h (Nat.lt_irrefl _), by rw [if_neg he], HB.out⟩
end Go.Proofs.Ytkaklppkmokffaa
