/-
  Contract of charterhouseref09.Write.
-/
import Derived.Test.YtkaklppkmokffaaRf9m
namespace Go.Proofs.Ytkaklppkmokffaa
open Go.RowKit
set_option linter.unusedVariables false
set_option linter.unusedSimpArgs false
set_option maxRecDepth 100000

set_option maxHeartbeats 4000000 in
theorem r_write (d : Dk) (w : World) (hd : d.ok w) (hB6 : (d.nB : Int) ≤ 1000000) (hW6 : (d.nW : Int) ≤ 1000000) (at_ : Int) (hat : I64 at_) (s : Sl) (hs : s.came w) (hs6 : (s.n : Int) ≤ 1000000000) (E : Int) (hE : E = errW d.c at_ s.l.length) :
    Calls Try.prog 25 #[d.v, .int .i64 at_, .slice s.A s.n s.c] w (AnsP (d.c.write at_ s.l) E w) := by
  obtain ⟨q, hq⟩ : ∃ q, q = decide (0 ≤ at_ ∧ at_ < 256) := ⟨_, rfl⟩
  unfold errW at hE
  rw [← hq, hs.1] at hE
  obtain ⟨w2, hw2⟩ : ∃ V, V = (w.alloc (.cells #[.slice d.A d.nB d.cB, .slice d.W d.nW d.cW] 25)).alloc (.cells #[.slice none 0 0, .slice none 0 0] 25) := ⟨_, rfl⟩
  have hb2 : Below w.heap.size w w2 := by rw [hw2]; exact (below_new' w _).alloc (by simp) _
  have hx2 : DkBox w2 w.heap.size (.slice d.A d.nB d.cB) (.slice d.W d.nW d.cW) := by rw [hw2]; exact (DkBox.new w _ _).alloc _
  have hz2 : w2.heap.size = w.heap.size + 2 := by rw [hw2]; simp
  have hr2 : DkBox w2 (w.heap.size + 1) (.slice none 0 0) (.slice none 0 0) := by
    rw [hw2]
    have := DkBox.new (w.alloc (.cells #[.slice d.A d.nB d.cB, .slice d.W d.nW d.cW] 25)) (.slice none 0 0) (.slice none 0 0)
    rw [World.size_alloc] at this
    exact this
  have hp := fun V => r_place at_ V q hq
  have ha := r_ask d q w2.drew (hd.below hb2.drew) hB6 hW6 _ rfl
  obtain ⟨c0, c1⟩ := hx2.cells
  have HP := Lib.hid hp
  have HA := Lib.hid ha
  have HX := Lib.hid hx2
  have HR := Lib.hid hr2
  have HB := Lib.hid hb2
  have HZ := Lib.hid hz2
  have HW2 := Lib.hid hw2
  have HD := Lib.hid hd
  have HE := Lib.hid hE
  have HQ := Lib.hid hq
  have HS := Lib.hid hs
  have HS6 := Lib.hid hs6
  have HAT := Lib.hid hat
  clear hb2 hx2 hz2 hr2 hw2 hd ha hE hq hp hat hs hs6
  simp only [Dk.v] at *
  go_enter Try.func25, Try.ntmps25
  go_wp2_with fail
  rw [← HW2.out]
  clear HW2
  refine wp_region_held_drew (S := fun V => DkBox V w.heap.size (.slice d.A d.nB d.cB) (.slice d.W d.nW d.cW)) (by kernel_rfl) (show DkBox w2.drew _ _ _ from HX.out) (fun hS => ?_)
  refine wpAnyH_take (i := 0) (v := ?_) rfl (by kernel_rfl) (by kernel_rfl) (by kernel_rfl) (fun _ _ _ h => h) (Or.inl ⟨by rfl, ?hyq⟩) hS ?_
  case hyq =>
    intro w hw
    obtain ⟨k0, k1⟩ := hw.cells
    go_simp
    try (with_reducible rfl)
  refine wpAnyH_take (i := 1) (v := ?_) rfl (by kernel_rfl) (by kernel_rfl) (by kernel_rfl) (fun _ _ _ h => h) (Or.inl ⟨by rfl, ?hyq⟩) hS ?_
  case hyq =>
    intro w hw
    go_simp
    try (with_reducible rfl)
  try go_simp
  refine wpAnyH_ready (rs := [2]) (by kernel_rfl) (by simp) ?_
  refine all_consH rfl (fun K hK => ?_) ?_
  · skip
    refine Stp.mk ?_
    go_simp
    go_wp2_with fail
    refine (HP.out _).mono ?_
    rintro e w9 ⟨rfl, rfl⟩
    have hSn := hS
    go_wp2
    refine hK.out _ _ hSn (fun hS => ?_)
    clear hK K hSn
    try go_simp
    refine wpAnyH_ready (rs := [3]) (by kernel_rfl) (by simp) ?_
    refine all_consH rfl (fun K hK => ?_) ?_
    · skip
      refine Stp.mk ?_
      go_simp
      go_wp2_with fail
      refine HA.out.mono ?_
      rintro e w3 ⟨rfl, hb3⟩
      have HX3 := Lib.hid (hS.below hb3 hS.lt)
      have HR3 := Lib.hid ((show DkBox w2.drew _ _ _ from HR.out).below hb3 HR.out.lt)
      have HB3 := Lib.hid (below_to HB.out.drew hb3 HB.out.size)
      have HZ3 := Lib.hid (show w.heap.size + 2 ≤ w3.heap.size from by have := hb3.size; rw [show w2.drew.heap.size = w2.heap.size from rfl, HZ.out] at this; exact this)
      have hSn := hS.below hb3 hS.lt
      clear hb3
      go_wp2
      refine hK.out _ _ hSn (fun hS => ?_)
      clear hK K hSn
      try go_simp
      refine wpAnyH_ready (rs := [4]) (by kernel_rfl) (by simp) ?_
      refine all_consH rfl (fun K hK => ?_) ?_
      · skip
        refine Stp.mk ?_
        go_simp
        have hSn := hS
        refine hK.out _ _ hSn (fun hS => ?_)
        clear hK K hSn
        refine wpAnyH_done (by kernel_rfl) ?_ _
        clear HA HX HR HB HZ c0 c1 HP
        obtain ⟨x0, x1⟩ := HX3.out.cells
        by_cases hmay : d.c.May
        · cases q with
          | true =>
            have hG : errG d.c true = 0 := errG_ok hmay
            have HG := Lib.hid hG
            rw [hG] at HE ⊢
            rw [if_pos rfl] at HE
            clear hG
            by_cases hn : s.n = 256
            · have HN := Lib.hid hn
              have hni : (s.n : Int) = 256 := by omega
              rw [if_pos hn] at HE
              clear hn
              by_cases hf : d.c.w.length = 4096
              · obtain ⟨z1, z2⟩ := HD.out.sizes rfl hmay
                have hfi : (d.nW : Int) = 4096 := by omega
                obtain rfl : E = 9 := by rw [HE.out, if_pos hf]
                clear hf z1 z2 HN
                obtain ⟨r0, r1⟩ := HR3.out.cells
                have rf := HR3.out.frozen
                have hlt := HR3.out.lt
                have hb9 := (HB3.out.setCell (p := ⟨w.heap.size + 1, 0, none⟩) (Nat.le_succ _) (.slice none 0 0)).setCell (p := ⟨w.heap.size + 1, 1, none⟩) (Nat.le_succ _) (.slice none 0 0)
                have HB9 := Lib.hid hb9
                clear hb9 hmay
                go_wp2
                refine bodyPost_ret (v := .tuple #[.agg #[.slice none 0 0, .slice none 0 0], .int .i64 9]) (by simp [results, Try.results25, go_sem, r0, r1]) rfl ?_
                exact ⟨Dk.nil, rfl, Nw.nil _ _, HB9.out⟩
              · obtain ⟨z1, z2⟩ := HD.out.sizes rfl hmay
                have hle : d.c.w.length ≤ 4096 := hmay.2.2.1
                have hlt' : d.c.w.length < 4096 := by omega
                have hfi : ¬ (d.nW : Int) = 4096 := by omega
                obtain rfl : E = 0 := by rw [HE.out, if_neg hf]
                have hk := r_with d w3 (HD.out.below HB3.out) hmay hlt' at_ HAT.out s (HS.out.below HB3.out) HS6.out
                simp only [Dk.v] at hk
                have HK := Lib.hid hk
                clear hf z1 z2 HN hle hlt' hk hmay
                go_wp2_with fail
                refine HK.out.mono ?_
                rintro e w4 ⟨d', rfl, hn4, hb4⟩
                have hr4 := HR3.out.below hb4 HR3.out.lt
                obtain ⟨r0, r1⟩ := hr4.cells
                have rf := hr4.frozen
                have hlt := hr4.lt
                have hn9 := (hn4.grown (grown_setCell w4 ⟨w.heap.size + 1, 0, none⟩ (.slice d'.A d'.nB d'.cB)) (fun j hj => by cases hj; show w.heap.size + 1 < _; have := HZ3.out; omega)).grown (grown_setCell _ ⟨w.heap.size + 1, 1, none⟩ (.slice d'.W d'.nW d'.cW)) (fun j hj => by cases hj; show w.heap.size + 1 < _; have := HZ3.out; omega)
                have hb9 := ((below_to HB3.out hb4 HB3.out.size).setCell (p := ⟨w.heap.size + 1, 0, none⟩) (Nat.le_succ _) (.slice d'.A d'.nB d'.cB)).setCell (p := ⟨w.heap.size + 1, 1, none⟩) (Nat.le_succ _) (.slice d'.W d'.nW d'.cW)
                have HN9 := Lib.hid (hn9.mono HB3.out.size)
                have HB9 := Lib.hid hb9
                clear hn4 hb4 hr4 hn9 hb9 HK x0 x1
                go_wp2
                refine bodyPost_ret (v := .tuple #[.agg #[.slice d'.A d'.nB d'.cB, .slice d'.W d'.nW d'.cW], .int .i64 0]) (by simp [results, Try.results25, go_sem, r0, r1]) rfl ?_
                exact ⟨d', rfl, HN9.out, HB9.out⟩
            · have hni : ¬ (s.n : Int) = 256 := by omega
              obtain rfl : E = 3 := by rw [HE.out, if_neg hn]
              clear hn
              obtain ⟨r0, r1⟩ := HR3.out.cells
              have rf := HR3.out.frozen
              have hlt := HR3.out.lt
              have hb9 := (HB3.out.setCell (p := ⟨w.heap.size + 1, 0, none⟩) (Nat.le_succ _) (.slice none 0 0)).setCell (p := ⟨w.heap.size + 1, 1, none⟩) (Nat.le_succ _) (.slice none 0 0)
              have HB9 := Lib.hid hb9
              clear hb9 hmay
              go_wp2
              refine bodyPost_ret (v := .tuple #[.agg #[.slice none 0 0, .slice none 0 0], .int .i64 3]) (by simp [results, Try.results25, go_sem, r0, r1]) rfl ?_
              exact ⟨Dk.nil, rfl, Nw.nil _ _, HB9.out⟩
          | false =>
            have hG : errG d.c false = 2 := errG_arg hmay
            rw [hG] at HE ⊢
            obtain rfl : E = 2 := HE.out
            clear hG
            obtain ⟨r0, r1⟩ := HR3.out.cells
            have rf := HR3.out.frozen
            have hlt := HR3.out.lt
            have hb9 := (HB3.out.setCell (p := ⟨w.heap.size + 1, 0, none⟩) (Nat.le_succ _) (.slice none 0 0)).setCell (p := ⟨w.heap.size + 1, 1, none⟩) (Nat.le_succ _) (.slice none 0 0)
            have HB9 := Lib.hid hb9
            clear hb9 hmay
            go_wp2
            refine bodyPost_ret (v := .tuple #[.agg #[.slice none 0 0, .slice none 0 0], .int .i64 2]) (by simp [results, Try.results25, go_sem, r0, r1]) rfl ?_
            exact ⟨Dk.nil, rfl, Nw.nil _ _, HB9.out⟩
        · have hG : errG d.c q = 8 := errG_bad hmay q
          rw [hG] at HE ⊢
          obtain rfl : E = 8 := HE.out
          clear hG
          obtain ⟨r0, r1⟩ := HR3.out.cells
          have rf := HR3.out.frozen
          have hlt := HR3.out.lt
          have hb9 := (HB3.out.setCell (p := ⟨w.heap.size + 1, 0, none⟩) (Nat.le_succ _) (.slice none 0 0)).setCell (p := ⟨w.heap.size + 1, 1, none⟩) (Nat.le_succ _) (.slice none 0 0)
          have HB9 := Lib.hid hb9
          clear hb9 hmay
          go_wp2
          refine bodyPost_ret (v := .tuple #[.agg #[.slice none 0 0, .slice none 0 0], .int .i64 8]) (by simp [results, Try.results25, go_sem, r0, r1]) rfl ?_
          exact ⟨Dk.nil, rfl, Nw.nil _ _, HB9.out⟩
      exact AllReadyH.nil
    exact AllReadyH.nil
  exact AllReadyH.nil
end Go.Proofs.Ytkaklppkmokffaa
