/-
  Contract of charterhouseref09.Crash.
-/
import Derived.Test.YtkaklppkmokffaaRf9h
import Derived.Test.YtkaklppkmokffaaDevJ
namespace Go.Proofs.Ytkaklppkmokffaa
open Go.RowKit
set_option linter.unusedVariables false
set_option linter.unusedSimpArgs false
set_option maxRecDepth 100000

theorem left_soK (d : Dk) (keep : List Bool) (hw : d.c.w.length = keep.length) : d.c.left (soK keep) = d.c.left (markB keep) := by
  by_cases h0 : keep.length = 0
  · have h1 : d.c.w = [] := List.length_eq_zero_iff.1 (hw.trans h0)
    unfold Ct.left leftB
    rw [h1]
    rfl
  · have h1 : soK keep = markB keep := by funext i; unfold soK; rw [if_neg h0]
    rw [h1]
set_option maxHeartbeats 2000000 in
theorem r_crash (d : Dk) (w : World) (hd : d.ok w) (hB6 : (d.nB : Int) ≤ 1000000) (hW6 : (d.nW : Int) ≤ 1000000) (KA : Option Addr) (n kc : Nat) (keep : List Bool) (hl : keep.length = n) (hr : Rd w w.heap.size 1 KA n (bos keep)) (hn6 : (n : Int) ≤ 1000000) (E : Int) (hE : E = errG d.c (decide (n = d.nW))) :
    Calls Try.prog 17 #[d.v, .slice KA n kc] w (AnsP (d.c.left (markB keep)) E w) := by
  obtain ⟨q, hq⟩ : ∃ q, q = decide (n = d.nW) := ⟨_, rfl⟩
  have hq2 : ((n : Int) == (d.nW : Int)) = q := by
    rw [hq]
    by_cases h : n = d.nW
    · simp [h]
    · have : ¬ ((n : Int) = (d.nW : Int)) := by omega
      simp [h, this]
  rw [← hq] at hE
  obtain ⟨w2, hw2⟩ : ∃ V, V = (w.alloc (.cells #[.slice d.A d.nB d.cB, .slice d.W d.nW d.cW] 25)).alloc (.cells #[.slice none 0 0, .slice none 0 0] 25) := ⟨_, rfl⟩
  have hb2 : Below w.heap.size w w2 := by rw [hw2]; exact (below_new' w _).alloc (by simp) _
  have hx2 : DkBox w2 w.heap.size (.slice d.A d.nB d.cB) (.slice d.W d.nW d.cW) := by rw [hw2]; exact (DkBox.new w _ _).alloc _
  have hz2 : w2.heap.size = w.heap.size + 2 := by rw [hw2]; simp
  have hr2 : DkBox w2 (w.heap.size + 1) (.slice none 0 0) (.slice none 0 0) := by
    rw [hw2]
    have := DkBox.new (w.alloc (.cells #[.slice d.A d.nB d.cB, .slice d.W d.nW d.cW] 25)) (.slice none 0 0) (.slice none 0 0)
    rw [World.size_alloc] at this
    exact this
  have ha := r_ask d q w2 (hd.below hb2) hB6 hW6 E hE
  obtain ⟨c0, c1⟩ := hx2.cells
  have HA := Lib.hid ha
  have HX := Lib.hid hx2
  have HR := Lib.hid hr2
  have HB := Lib.hid hb2
  have HZ := Lib.hid hz2
  have HW2 := Lib.hid hw2
  have HD := Lib.hid hd
  have HE := Lib.hid hE
  have HRD := Lib.hid hr
  have HL := Lib.hid hl
  have HQ := Lib.hid hq
  clear hb2 hx2 hz2 hr2 hw2 hd ha hE hl hr hq
  simp only [Dk.v] at *
  go_enter Try.func17, Try.ntmps17
  go_wp2_with fail
  rw [← HW2.out]
  clear HW2
  refine HA.out.mono ?_
  rintro e w3 ⟨rfl, hb3⟩
  have HX3 := Lib.hid (HX.out.below hb3 HX.out.lt)
  have HR3 := Lib.hid (HR.out.below hb3 HR.out.lt)
  have HB3 := Lib.hid (below_to HB.out hb3 HB.out.size)
  have HZ3 := Lib.hid (show w.heap.size + 2 ≤ w3.heap.size from by have := hb3.size; rw [HZ.out] at this; exact this)
  clear hb3 HA HX HR HB HZ c0 c1 hq2
  obtain ⟨x0, x1⟩ := HX3.out.cells
  by_cases hmay : d.c.May
  · cases q with
    | true =>
      obtain rfl : E = 0 := by rw [HE.out, errG_ok hmay]
      have hnq : n = d.nW := by have := HQ.out; exact of_decide_eq_true this.symm
      have hk := r_kept d KA n kc keep w3 (HD.out.below HB3.out) hmay HL.out ((HRD.out.below HB3.out).more HB3.out.size) (.inr hnq)
      rw [left_soK d keep (by rw [Dk.c_w, List.length_map, HD.out.lw, HL.out, hnq])] at hk
      clear hnq
      simp only [Dk.v] at hk
      have HK := Lib.hid hk
      clear hk hmay
      go_wp2_with fail
      refine HK.out.mono ?_
      rintro e w4 ⟨d', rfl, hn4, hb4⟩
      have hr4 := HR3.out.below hb4 HR3.out.lt
      obtain ⟨r0, r1⟩ := hr4.cells
      have rf := hr4.frozen
      have hlt := hr4.lt
      have hn9 := (hn4.grown (grown_setCell w4 ⟨w.heap.size + 1, 0, none⟩ (.slice d'.A d'.nB d'.cB)) (fun j hj => by cases hj; show w.heap.size + 1 < _; have := HZ3.out; omega)).grown (grown_setCell _ ⟨w.heap.size + 1, 1, none⟩ (.slice d'.W d'.nW d'.cW)) (fun j hj => by cases hj; show w.heap.size + 1 < _; have := HZ3.out; omega)
      have hb9 := ((below_to HB3.out hb4 HB3.out.size).setCell (p := ⟨w.heap.size + 1, 0, none⟩) (Nat.le_succ _) (.slice d'.A d'.nB d'.cB)).setCell (p := ⟨w.heap.size + 1, 1, none⟩) (Nat.le_succ _) (.slice d'.W d'.nW d'.cW)
      have HN9 := Lib.hid (hn9.mono HB3.out.size)
      have HB9 := Lib.hid hb9
      clear hn4 hb4 hr4 hn9 hb9 HK x0 x1
      go_wp2
      refine bodyPost_ret (v := .tuple #[.agg #[.slice d'.A d'.nB d'.cB, .slice d'.W d'.nW d'.cW], .int .i64 0]) (by simp [results, Try.results17, go_sem, r0, r1]) rfl ?_
      exact ⟨d', rfl, HN9.out, HB9.out⟩
    | false =>
      obtain rfl : E = 2 := by rw [HE.out, errG_arg hmay]
      obtain ⟨r0, r1⟩ := HR3.out.cells
      have rf := HR3.out.frozen
      have hlt := HR3.out.lt
      have hb9 := (HB3.out.setCell (p := ⟨w.heap.size + 1, 0, none⟩) (Nat.le_succ _) (.slice none 0 0)).setCell (p := ⟨w.heap.size + 1, 1, none⟩) (Nat.le_succ _) (.slice none 0 0)
      have HB9 := Lib.hid hb9
      clear hb9 hmay
      go_wp2
      refine bodyPost_ret (v := .tuple #[.agg #[.slice none 0 0, .slice none 0 0], .int .i64 2]) (by simp [results, Try.results17, go_sem, r0, r1]) rfl ?_
      exact ⟨Dk.nil, rfl, Nw.nil _ _, HB9.out⟩
  · obtain rfl : E = 8 := by rw [HE.out, errG_bad hmay]
    obtain ⟨r0, r1⟩ := HR3.out.cells
    have rf := HR3.out.frozen
    have hlt := HR3.out.lt
    have hb9 := (HB3.out.setCell (p := ⟨w.heap.size + 1, 0, none⟩) (Nat.le_succ _) (.slice none 0 0)).setCell (p := ⟨w.heap.size + 1, 1, none⟩) (Nat.le_succ _) (.slice none 0 0)
    have HB9 := Lib.hid hb9
    clear hb9 hmay
    go_wp2
    refine bodyPost_ret (v := .tuple #[.agg #[.slice none 0 0, .slice none 0 0], .int .i64 8]) (by simp [results, Try.results17, go_sem, r0, r1]) rfl ?_
    exact ⟨Dk.nil, rfl, Nw.nil _ _, HB9.out⟩
end Go.Proofs.Ytkaklppkmokffaa
