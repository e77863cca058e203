/-
  Contract of charterhouseref09.Kept.
-/
import Derived.Test.YtkaklppkmokffaaRf9d
import Derived.Test.YtkaklppkmokffaaRf9f
namespace Go.Proofs.Ytkaklppkmokffaa
open Go.RowKit
set_option linter.unusedVariables false
set_option linter.unusedSimpArgs false
set_option maxRecDepth 100000

/-- What holds of the boxes, the blocks so far and the world all along. -/
structure KpI (d : Dk) (w : World) (wt : Nat → List UInt8) (k : Nat) (A : Option Addr) (c : Nat) (ps : List Sl) (V : World) : Prop where
  x : DkBox V w.heap.size (.slice d.A d.nB d.cB) (.slice d.W d.nW d.cW)
  r : DkBox V (w.heap.size + 1) (.slice none 0 0) (.slice none 0 0)
  y : DkBox V (w.heap.size + 1 + 1) (.slice A k c) (.slice none 0 0)
  fb : Fr V (w.heap.size + 3) 41 1 A k c (ps.map Sl.v)
  vals : ps.map Sl.l = (List.range k).map wt
  own : ∀ s ∈ ps, s.came V ∧ Own V (w.heap.size + 3) s
  b : Below w.heap.size w V
  sz : w.heap.size + 3 ≤ V.heap.size
theorem KpI.below {d : Dk} {w : World} {wt : Nat → List UInt8} {k c : Nat} {A : Option Addr} {ps : List Sl} {V V' : World} (h : KpI d w wt k A c ps V) (hb : Below V.heap.size V V') : KpI d w wt k A c ps V' :=
  ⟨h.x.below hb h.x.lt, h.r.below hb h.r.lt, h.y.below hb h.y.lt, h.fb.below hb (Nat.le_refl _), h.vals, fun s hs => own_came (h.own s hs).1 (h.own s hs).2 (grown_of_below hb none) (fun j hj => by cases hj), below_to h.b hb h.b.size, Nat.le_trans h.sz hb.size⟩
theorem KpI.len {d : Dk} {w : World} {wt : Nat → List UInt8} {k c : Nat} {A : Option Addr} {ps : List Sl} {V : World} (h : KpI d w wt k A c ps V) : ps.length = k := by
  have := congrArg List.length h.vals
  simpa using this
/-- What the reads of a round lean on. -/
structure KpS (d : Dk) (w : World) (V : World) : Prop where
  x : DkBox V w.heap.size (.slice d.A d.nB d.cB) (.slice d.W d.nW d.cW)
theorem KpI.s {d : Dk} {w : World} {wt : Nat → List UInt8} {k c : Nat} {A : Option Addr} {ps : List Sl} {V : World} (h : KpI d w wt k A c ps V) : KpS d w V := ⟨h.x⟩
/-- One block more: the row grew into D, the box is not yet set. -/
theorem KpI.app {d : Dk} {w : World} {wt : Nat → List UInt8} {k c : Nat} {A : Option Addr} {ps : List Sl} {V V' : World} (h : KpI d w wt k A c ps V) {s : Sl} {D : Option Addr} {dd : Nat} (hs : s.came V) (ho : Own V (w.heap.size + 3) s) (hl : s.l = wt k)
    (hf : Fr V' (w.heap.size + 3) 41 1 D (k + 1) dd ((ps ++ [s]).map Sl.v)) (hg : V.grownBy V' (rowOf A c)) :
    KpS d w V' ∧ KpI d w wt (k + 1) D dd (ps ++ [s]) (V'.setCell ⟨w.heap.size + 1 + 1, 0, none⟩ (.slice D (k + 1) dd)) := by
  have hr : ∀ j, rowOf A c = some j → w.heap.size + 3 ≤ j := fun j hj => (h.fb.row j hj).1
  have hx := h.x.grown hg (fun e => by have := hr _ e.symm; omega)
  have hR := h.r.grown hg (fun e => by have := hr _ e.symm; omega)
  have hy := h.y.grown hg (fun e => by have := hr _ e.symm; omega)
  have ho' : ∀ t ∈ ps ++ [s], t.came V' ∧ Own V' (w.heap.size + 3) t := by
    intro t ht
    have h0 : t.came V ∧ Own V (w.heap.size + 3) t := by
      rcases List.mem_append.1 ht with h1 | h1
      · exact h.own t h1
      · rw [List.mem_singleton.1 h1]; exact ⟨hs, ho⟩
    exact own_came h0.1 h0.2 hg (fun j hj => .inr (h.fb.other (by decide) j hj))
  have hb := grown_below (B := w.heap.size) hg (by have := h.b.size; omega) (fun j hj => by have := hr j hj; omega)
  have hg2 := grown_setCell V' ⟨w.heap.size + 1 + 1, 0, none⟩ (.slice D (k + 1) dd)
  refine ⟨⟨hx⟩, hx.set _ (by show w.heap.size + 1 + 1 ≠ w.heap.size; omega) _, hR.set _ (by show w.heap.size + 1 + 1 ≠ w.heap.size + 1; omega) _, hy.put0 _, fr_box hf hg2 hy (by decide), ?_, fun t ht => own_came (ho' t ht).1 (ho' t ht).2 hg2 (fun j hj => .inl (by cases hj; show w.heap.size + 1 + 1 < w.heap.size + 3; omega)), ?_, ?_⟩
  · rw [List.map_append, h.vals, List.range_succ, List.map_append]
    simp [hl]
  · exact (below_to h.b hb (Nat.le_refl _)).setCell (by show w.heap.size ≤ w.heap.size + 1 + 1; omega) _
  · have := h.sz
    have := hg.size
    simp
    omega
def KpR (d : Dk) (w : World) (wt : Nat → List UInt8) (x : Value) (wr : World) : Prop :=
  ∃ (k c : Nat) (A : Option Addr) (ps : List Sl), k ≤ 256 ∧ x = .int .i64 (k : Int) ∧ KpI d w wt k A c ps wr
theorem kept_c (c : Ct) (so : Nat → Bool) (hmay : c.May) (nW : Nat) (hw : c.w.length = nW) : (List.range 256).map (fun (k : Nat) => wantL c so (k : Int) nW) = (c.left so).b := by
  show _ = leftB c.b c.w so
  unfold leftB
  rw [hmay.1, hw]
  apply List.map_congr_left
  intro k hk
  unfold wantL
  rw [Int.toNat_natCast]
  rfl
def KpP (c : Ct) (w : World) (e : Ending) (w' : World) : Prop :=
  ∃ d' : Dk, e = .returned (.agg #[.slice d'.A d'.nB d'.cB, .slice d'.W d'.nW d'.cW]) ∧ Nw c w.heap.size d' w' ∧ Below w.heap.size w w'
set_option maxHeartbeats 4000000 in
theorem r_kept (d : Dk) (KA : Option Addr) (m kc : Nat) (keep : List Bool) (w : World) (hd : d.ok w) (hmay : d.c.May) (hl : keep.length = m) (hr : Rd w w.heap.size 1 KA m (bos keep)) (hm : m = 0 ∨ m = d.nW) :
    Calls Try.prog 39 #[d.v, .slice KA m kc] w (KpP (d.c.left (soK keep)) w) := by
  obtain ⟨w2, hw2⟩ : ∃ V, V = ((w.alloc (.cells #[.slice d.A d.nB d.cB, .slice d.W d.nW d.cW] 25)).alloc (.cells #[.slice none 0 0, .slice none 0 0] 25)).alloc (.cells #[.slice none 0 0, .slice none 0 0] 25) := ⟨_, rfl⟩
  have hb2 : Below w.heap.size w w2 := by rw [hw2]; exact ((below_new' w _).alloc (by simp) _).alloc (by simp; omega) _
  have hx2 : DkBox w2 w.heap.size (.slice d.A d.nB d.cB) (.slice d.W d.nW d.cW) := by rw [hw2]; exact ((DkBox.new w _ _).alloc _).alloc _
  have hz2 : w2.heap.size = w.heap.size + 3 := by rw [hw2]; simp
  have hr2 : DkBox w2 (w.heap.size + 1) (.slice none 0 0) (.slice none 0 0) := by
    rw [hw2]
    have := DkBox.new (w.alloc (.cells #[.slice d.A d.nB d.cB, .slice d.W d.nW d.cW] 25)) (.slice none 0 0) (.slice none 0 0)
    rw [World.size_alloc] at this
    exact this.alloc _
  have hy2 : DkBox w2 (w.heap.size + 1 + 1) (.slice none 0 0) (.slice none 0 0) := by
    rw [hw2]
    have := DkBox.new ((w.alloc (.cells #[.slice d.A d.nB d.cB, .slice d.W d.nW d.cW] 25)).alloc (.cells #[.slice none 0 0, .slice none 0 0] 25)) (.slice none 0 0) (.slice none 0 0)
    simp only [World.size_alloc] at this
    exact this
  have hI : KpI d w (fun (k : Nat) => wantL d.c (soK keep) (k : Int) d.nW) 0 none 0 [] w2 := ⟨hx2, hr2, hy2, Fr.none_, rfl, fun s hs => (by cases hs), hb2, by rw [hz2]; exact Nat.le_refl _⟩
  have hdw : d.c.w.length = d.nW := by rw [Dk.c_w, List.length_map, hd.lw]
  have hkc := kept_c d.c (soK keep) hmay d.nW hdw
  have HI := Lib.hid hI
  have HW2 := Lib.hid hw2
  have HD := Lib.hid hd
  have HMAY := Lib.hid hmay
  have HL := Lib.hid hl
  have HR := Lib.hid hr
  have HM := Lib.hid hm
  have HKC := Lib.hid hkc
  clear hb2 hx2 hz2 hr2 hy2 hw2 hd hmay hl hr hm hI hdw hkc
  simp only [Dk.v] at *
  go_enter Try.func39, Try.ntmps39
  go_wp2
  rw [← HW2.out]
  clear HW2
  go_loopw [6] (fun x wr => KpR d w (fun (k : Nat) => wantL d.c (soK keep) (k : Int) d.nW) x wr) (fun x _ => 256 - (intOf x).toNat)
  case atStart => exact ⟨0, 0, none, [], Nat.zero_le _, rfl, HI.out⟩
  case round =>
    clear HI
    obtain ⟨k, c, A, ps, hk, rfl, hi⟩ := hrel
    by_cases hlt : k < 256
    · have h1 : (k : Int) < 256 := by omega
      have HI := Lib.hid (hi.below ((Below.refl wr.heap.size wr).drew))
      clear hi
      go_wp2
      refine wp_region_held_drew (S := KpS d w) (by kernel_rfl) HI.out.s (fun hS => ?_)
      refine wpAnyH_take (i := 0) (v := ?_) rfl (by kernel_rfl) (by kernel_rfl) (by kernel_rfl) (fun _ _ _ h => h) (Or.inl ⟨by rfl, ?hyq⟩) hS ?_
      case hyq =>
        intro w hw
        go_simp
        try (with_reducible rfl)
      refine wpAnyH_take (i := 2) (v := ?_) rfl (by kernel_rfl) (by kernel_rfl) (by kernel_rfl) (fun _ _ _ h => h) (Or.inl ⟨by rfl, ?hyq⟩) hS ?_
      case hyq =>
        intro w hw
        obtain ⟨k0, k1⟩ := hw.x.cells
        go_simp
        try (with_reducible rfl)
      refine wpAnyH_take (i := 3) (v := ?_) rfl (by kernel_rfl) (by kernel_rfl) (by kernel_rfl) (fun _ _ _ h => h) (Or.inl ⟨by rfl, ?hyq⟩) hS ?_
      case hyq =>
        intro w hw
        go_simp
        try (with_reducible rfl)
      refine wpAnyH_take (i := 4) (v := ?_) rfl (by kernel_rfl) (by kernel_rfl) (by kernel_rfl) (fun _ _ _ h => h) (Or.inl ⟨by rfl, ?hyq⟩) hS ?_
      case hyq =>
        intro w hw
        go_simp
        try (with_reducible rfl)
      try go_simp
      refine wpAnyH_ready (rs := [1, 5]) (by kernel_rfl) (by simp) ?_
      refine all_consH rfl (fun K hK => ?_) ?_
      · skip
        refine Stp.mk ?_
        obtain ⟨m0, m1⟩ := HI.out.y.cells
        go_simp
        have hSn := hS
        clear m0 m1
        refine hK.out _ _ hSn (fun hS => ?_)
        clear hK K hSn
        try go_simp
        refine wpAnyH_ready (rs := [5]) (by kernel_rfl) (by simp) ?_
        refine all_consH rfl (fun K hK => ?_) ?_
        · skip
          refine Stp.mk ?_
          have hcall := r_left d KA m kc keep k wr.drew (HD.out.below HI.out.b) HMAY.out HL.out ((HR.out.below HI.out.b).more HI.out.b.size) HM.out hlt
          simp only [Dk.v] at hcall
          have HCALL := Lib.hid hcall
          clear hcall
          go_simp
          go_wp2_with fail
          refine HCALL.out.mono ?_
          clear HCALL
          rintro e w3 ⟨s, rfl, hsc, hso, hsl, hb3⟩
          have hI3 := HI.out.below hb3
          have hSn := hI3.s
          have HSC := Lib.hid hsc
          have HSO := Lib.hid (hso.mono HI.out.sz)
          have HSL := Lib.hid hsl
          replace HI := Lib.hid hI3
          clear hsc hso hsl hb3 hI3
          go_wp2
          refine hK.out _ _ hSn (fun hS => ?_)
          clear hK K hSn
          try go_simp
          refine wpAnyH_ready (rs := [6]) (by kernel_rfl) (by simp) ?_
          refine all_consH rfl (fun K hK => ?_) ?_
          · skip
            refine stp_new rfl (fun g => .slice (some ⟨g, 0, none⟩) 1 1) (.cells #[.slice s.A s.n s.c] 41) (by go_simp) ?_
            intro g6 w6 hn hb
            have hI6 := HI.out.below hb.out
            have hSn := hI6.s
            have HR6 : Hid (∃ B, Rd w6 B 1 (some ⟨g6, 0, none⟩) 1 [.slice s.A s.n s.c]) := Lib.hid ⟨_, (Fr.ofHeap (base := 0) (sz := 1) (n := 1) (xs := [.slice s.A s.n s.c]) hn.out.2.2 (Nat.zero_le _) (by unfold maxLen; omega) rfl).rd⟩
            replace HSC := Lib.hid (HSC.out.below hb.out)
            replace HSO := Lib.hid (HSO.out.below hb.out)
            replace HI := Lib.hid hI6
            clear hn hb hI6
            refine hK.out _ _ hSn (fun hS => ?_)
            clear hK K hSn
            try go_simp
            refine wpAnyH_ready (rs := [7]) (by kernel_rfl) (by simp) ?_
            refine all_consH rfl (fun K hK => ?_) ?_
            · skip
              obtain ⟨B6, hR6⟩ := HR6.out
              refine stp_append_to (c := c) (c' := 1) rfl (.tmp 12) (.tmp 17) rfl okBs (by simp [Act.eval, Act.put]) HI.out.fb (by simp [Act.eval, Act.put]) hR6 (ones1 rfl) (k + 1) rfl ((ps ++ [s]).map Sl.v) (by rw [List.map_append]; rfl) (by unfold maxLen; omega) (by omega) HI.out.sz ?_
              intro D dd w7 f7 g7
              have hap := HI.out.app HSC.out HSO.out HSL.out f7.out g7.out
              have hSn := hap.1
              have HI9 := Lib.hid hap.2
              have HY7 := Lib.hid (HI.out.y.grown g7.out (fun e => by have := (HI.out.fb.row _ e.symm).1; omega))
              clear f7 g7 hap hR6 HR6
              refine hK.out _ _ hSn (fun hS => ?_)
              clear hK K hSn
              refine wpAnyH_take (i := 8) (v := ?_) rfl (by kernel_rfl) (by kernel_rfl) (by kernel_rfl) (fun _ _ _ h => h) (Or.inl ⟨by rfl, ?hyq⟩) hS ?_
              case hyq =>
                intro w hw
                go_simp
                try (with_reducible rfl)
              try go_simp
              refine wpAnyH_ready (rs := [9]) (by kernel_rfl) (by simp) ?_
              refine all_consH rfl (fun K hK => ?_) ?_
              · skip
                refine Stp.mk ?_
                obtain ⟨m0, m1⟩ := HY7.out.cells
                have mf := HY7.out.frozen
                have hSn : KpS d w _ := ⟨HI9.out.x⟩
                go_simp
                clear m0 m1 mf
                refine hK.out _ _ hSn (fun hS => ?_)
                clear hK K hSn
                refine wpAnyH_done (by kernel_rfl) ?_ _
                go_wp2
                go_roundw
                case rel => exact ⟨k + 1, dd, D, ps ++ [s], by omega, by simp, HI9.out⟩
                case measure => simp [intOf]; omega
              exact AllReadyH.nil
            exact AllReadyH.nil
          exact AllReadyH.nil
        exact AllReadyH.nil
      refine all_consH rfl (fun K hK => ?_) ?_
      · skip
        refine Stp.mk ?_
        have hcall := r_left d KA m kc keep k wr.drew (HD.out.below HI.out.b) HMAY.out HL.out ((HR.out.below HI.out.b).more HI.out.b.size) HM.out hlt
        simp only [Dk.v] at hcall
        have HCALL := Lib.hid hcall
        clear hcall
        go_simp
        go_wp2_with fail
        refine HCALL.out.mono ?_
        clear HCALL
        rintro e w3 ⟨s, rfl, hsc, hso, hsl, hb3⟩
        have hI3 := HI.out.below hb3
        have hSn := hI3.s
        have HSC := Lib.hid hsc
        have HSO := Lib.hid (hso.mono HI.out.sz)
        have HSL := Lib.hid hsl
        replace HI := Lib.hid hI3
        clear hsc hso hsl hb3 hI3
        go_wp2
        refine hK.out _ _ hSn (fun hS => ?_)
        clear hK K hSn
        try go_simp
        refine wpAnyH_ready (rs := [1, 6]) (by kernel_rfl) (by simp) ?_
        refine all_consH rfl (fun K hK => ?_) ?_
        · skip
          refine Stp.mk ?_
          obtain ⟨m0, m1⟩ := HI.out.y.cells
          go_simp
          have hSn := hS
          clear m0 m1
          refine hK.out _ _ hSn (fun hS => ?_)
          clear hK K hSn
          try go_simp
          refine wpAnyH_ready (rs := [6]) (by kernel_rfl) (by simp) ?_
          refine all_consH rfl (fun K hK => ?_) ?_
          · skip
            refine stp_new rfl (fun g => .slice (some ⟨g, 0, none⟩) 1 1) (.cells #[.slice s.A s.n s.c] 41) (by go_simp) ?_
            intro g6 w6 hn hb
            have hI6 := HI.out.below hb.out
            have hSn := hI6.s
            have HR6 : Hid (∃ B, Rd w6 B 1 (some ⟨g6, 0, none⟩) 1 [.slice s.A s.n s.c]) := Lib.hid ⟨_, (Fr.ofHeap (base := 0) (sz := 1) (n := 1) (xs := [.slice s.A s.n s.c]) hn.out.2.2 (Nat.zero_le _) (by unfold maxLen; omega) rfl).rd⟩
            replace HSC := Lib.hid (HSC.out.below hb.out)
            replace HSO := Lib.hid (HSO.out.below hb.out)
            replace HI := Lib.hid hI6
            clear hn hb hI6
            refine hK.out _ _ hSn (fun hS => ?_)
            clear hK K hSn
            try go_simp
            refine wpAnyH_ready (rs := [7]) (by kernel_rfl) (by simp) ?_
            refine all_consH rfl (fun K hK => ?_) ?_
            · skip
              obtain ⟨B6, hR6⟩ := HR6.out
              refine stp_append_to (c := c) (c' := 1) rfl (.tmp 12) (.tmp 17) rfl okBs (by simp [Act.eval, Act.put]) HI.out.fb (by simp [Act.eval, Act.put]) hR6 (ones1 rfl) (k + 1) rfl ((ps ++ [s]).map Sl.v) (by rw [List.map_append]; rfl) (by unfold maxLen; omega) (by omega) HI.out.sz ?_
              intro D dd w7 f7 g7
              have hap := HI.out.app HSC.out HSO.out HSL.out f7.out g7.out
              have hSn := hap.1
              have HI9 := Lib.hid hap.2
              have HY7 := Lib.hid (HI.out.y.grown g7.out (fun e => by have := (HI.out.fb.row _ e.symm).1; omega))
              clear f7 g7 hap hR6 HR6
              refine hK.out _ _ hSn (fun hS => ?_)
              clear hK K hSn
              refine wpAnyH_take (i := 8) (v := ?_) rfl (by kernel_rfl) (by kernel_rfl) (by kernel_rfl) (fun _ _ _ h => h) (Or.inl ⟨by rfl, ?hyq⟩) hS ?_
              case hyq =>
                intro w hw
                go_simp
                try (with_reducible rfl)
              try go_simp
              refine wpAnyH_ready (rs := [9]) (by kernel_rfl) (by simp) ?_
              refine all_consH rfl (fun K hK => ?_) ?_
              · skip
                refine Stp.mk ?_
                obtain ⟨m0, m1⟩ := HY7.out.cells
                have mf := HY7.out.frozen
                have hSn : KpS d w _ := ⟨HI9.out.x⟩
                go_simp
                clear m0 m1 mf
                refine hK.out _ _ hSn (fun hS => ?_)
                clear hK K hSn
                refine wpAnyH_done (by kernel_rfl) ?_ _
                go_wp2
                go_roundw
                case rel => exact ⟨k + 1, dd, D, ps ++ [s], by omega, by simp, HI9.out⟩
                case measure => simp [intOf]; omega
              exact AllReadyH.nil
            exact AllReadyH.nil
          exact AllReadyH.nil
        refine all_consH rfl (fun K hK => ?_) ?_
        · skip
          refine stp_new rfl (fun g => .slice (some ⟨g, 0, none⟩) 1 1) (.cells #[.slice s.A s.n s.c] 41) (by go_simp) ?_
          intro g6 w6 hn hb
          have hI6 := HI.out.below hb.out
          have hSn := hI6.s
          have HR6 : Hid (∃ B, Rd w6 B 1 (some ⟨g6, 0, none⟩) 1 [.slice s.A s.n s.c]) := Lib.hid ⟨_, (Fr.ofHeap (base := 0) (sz := 1) (n := 1) (xs := [.slice s.A s.n s.c]) hn.out.2.2 (Nat.zero_le _) (by unfold maxLen; omega) rfl).rd⟩
          replace HSC := Lib.hid (HSC.out.below hb.out)
          replace HSO := Lib.hid (HSO.out.below hb.out)
          replace HI := Lib.hid hI6
          clear hn hb hI6
          refine hK.out _ _ hSn (fun hS => ?_)
          clear hK K hSn
          try go_simp
          refine wpAnyH_ready (rs := [1]) (by kernel_rfl) (by simp) ?_
          refine all_consH rfl (fun K hK => ?_) ?_
          · skip
            refine Stp.mk ?_
            obtain ⟨m0, m1⟩ := HI.out.y.cells
            go_simp
            have hSn := hS
            clear m0 m1
            refine hK.out _ _ hSn (fun hS => ?_)
            clear hK K hSn
            try go_simp
            refine wpAnyH_ready (rs := [7]) (by kernel_rfl) (by simp) ?_
            refine all_consH rfl (fun K hK => ?_) ?_
            · skip
              obtain ⟨B6, hR6⟩ := HR6.out
              refine stp_append_to (c := c) (c' := 1) rfl (.tmp 12) (.tmp 17) rfl okBs (by simp [Act.eval, Act.put]) HI.out.fb (by simp [Act.eval, Act.put]) hR6 (ones1 rfl) (k + 1) rfl ((ps ++ [s]).map Sl.v) (by rw [List.map_append]; rfl) (by unfold maxLen; omega) (by omega) HI.out.sz ?_
              intro D dd w7 f7 g7
              have hap := HI.out.app HSC.out HSO.out HSL.out f7.out g7.out
              have hSn := hap.1
              have HI9 := Lib.hid hap.2
              have HY7 := Lib.hid (HI.out.y.grown g7.out (fun e => by have := (HI.out.fb.row _ e.symm).1; omega))
              clear f7 g7 hap hR6 HR6
              refine hK.out _ _ hSn (fun hS => ?_)
              clear hK K hSn
              refine wpAnyH_take (i := 8) (v := ?_) rfl (by kernel_rfl) (by kernel_rfl) (by kernel_rfl) (fun _ _ _ h => h) (Or.inl ⟨by rfl, ?hyq⟩) hS ?_
              case hyq =>
                intro w hw
                go_simp
                try (with_reducible rfl)
              try go_simp
              refine wpAnyH_ready (rs := [9]) (by kernel_rfl) (by simp) ?_
              refine all_consH rfl (fun K hK => ?_) ?_
              · skip
                refine Stp.mk ?_
                obtain ⟨m0, m1⟩ := HY7.out.cells
                have mf := HY7.out.frozen
                have hSn : KpS d w _ := ⟨HI9.out.x⟩
                go_simp
                clear m0 m1 mf
                refine hK.out _ _ hSn (fun hS => ?_)
                clear hK K hSn
                refine wpAnyH_done (by kernel_rfl) ?_ _
                go_wp2
                go_roundw
                case rel => exact ⟨k + 1, dd, D, ps ++ [s], by omega, by simp, HI9.out⟩
                case measure => simp [intOf]; omega
              exact AllReadyH.nil
            exact AllReadyH.nil
          exact AllReadyH.nil
        exact AllReadyH.nil
      exact AllReadyH.nil
    · have hk6 : k = 256 := by omega
      have HI := Lib.hid hi
      obtain ⟨x0, x1⟩ := hi.y.cells
      obtain ⟨r0, r1⟩ := hi.r.cells
      have rf := hi.r.frozen
      have h1 : ¬ ((k : Int) < 256) := by omega
      have HK6 := Lib.hid hk6
      have hlt := hi.y.lt
      clear hi hk6
      have hns : Nw (d.c.left (soK keep)) (w.heap.size + 3) ⟨A, k, c, ps, none, 0, 0, []⟩ wr := by
        have hI := HI.out
        refine ⟨⟨hI.len, hI.fb.rd, fun s hs => (hI.own s hs).1, rfl, Rd.nil_, fun x hx => (by cases hx), ⟨hI.fb.nc, hI.fb.cm⟩, ⟨Nat.le_refl _, Nat.zero_le _⟩⟩, ?_, hI.fb, Fr.none_, fun s hs => (hI.own s hs).2, fun x hx => (by cases hx)⟩
        show (⟨ps.map Sl.l, []⟩ : Ct) = _
        rw [hI.vals, HK6.out, HKC.out]
        rfl
      have hn9 := (hns.grown (grown_setCell wr ⟨w.heap.size + 1, 0, none⟩ (.slice A k c)) (fun j hj => by cases hj; show w.heap.size + 1 < _; omega)).grown (grown_setCell _ ⟨w.heap.size + 1, 1, none⟩ (.slice none 0 0)) (fun j hj => by cases hj; show w.heap.size + 1 < _; omega)
      have hb9 := (HI.out.b.setCell (p := ⟨w.heap.size + 1, 0, none⟩) (Nat.le_succ _) (.slice A k c)).setCell (p := ⟨w.heap.size + 1, 1, none⟩) (Nat.le_succ _) (.slice none 0 0)
      have HN9 := Lib.hid (hn9.mono (Nat.le_add_right w.heap.size 3))
      have HB9 := Lib.hid hb9
      clear hns hn9 hb9
      go_wp2
      refine bodyPost_ret (v := .agg #[.slice A k c, .slice none 0 0]) (by simp [results, Try.results39, go_sem, x0, x1, r0, r1]) rfl ?_
      exact ⟨⟨A, k, c, ps, none, 0, 0, []⟩, rfl, HN9.out, HB9.out⟩
end Go.Proofs.Ytkaklppkmokffaa
