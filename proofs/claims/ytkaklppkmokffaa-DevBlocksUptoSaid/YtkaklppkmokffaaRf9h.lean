/-
  Contract of charterhouseref09.Flush.
-/
import Derived.Test.YtkaklppkmokffaaRf9e
import Derived.Test.YtkaklppkmokffaaRf9g
import Derived.Test.YtkaklppkmokffaaDevI
namespace Go.Proofs.Ytkaklppkmokffaa
open Go.RowKit
set_option linter.unusedVariables false
set_option linter.unusedSimpArgs false
set_option maxRecDepth 100000

set_option maxHeartbeats 2000000 in
theorem r_flush (d : Dk) (w : World) (hd : d.ok w) (hB6 : (d.nB : Int) ≤ 1000000) (hW6 : (d.nW : Int) ≤ 1000000) (E : Int) (hE : E = errG d.c true) :
    Calls Try.prog 15 #[d.v] w (AnsP (d.c.left fun _ => true) E w) := by
  obtain ⟨w2, hw2⟩ : ∃ V, V = (w.alloc (.cells #[.slice d.A d.nB d.cB, .slice d.W d.nW d.cW] 25)).alloc (.cells #[.slice none 0 0, .slice none 0 0] 25) := ⟨_, rfl⟩
  have hb2 : Below w.heap.size w w2 := by rw [hw2]; exact (below_new' w _).alloc (by simp) _
  have hx2 : DkBox w2 w.heap.size (.slice d.A d.nB d.cB) (.slice d.W d.nW d.cW) := by rw [hw2]; exact (DkBox.new w _ _).alloc _
  have hz2 : w2.heap.size = w.heap.size + 2 := by rw [hw2]; simp
  have hr2 : DkBox w2 (w.heap.size + 1) (.slice none 0 0) (.slice none 0 0) := by
    rw [hw2]
    have := DkBox.new (w.alloc (.cells #[.slice d.A d.nB d.cB, .slice d.W d.nW d.cW] 25)) (.slice none 0 0) (.slice none 0 0)
    rw [World.size_alloc] at this
    exact this
  have ha := r_ask d true w2 (hd.below hb2) hB6 hW6 E hE
  obtain ⟨c0, c1⟩ := hx2.cells
  have HA := Lib.hid ha
  have HX := Lib.hid hx2
  have HR := Lib.hid hr2
  have HB := Lib.hid hb2
  have HZ := Lib.hid hz2
  have HW2 := Lib.hid hw2
  have HD := Lib.hid hd
  have HE := Lib.hid hE
  clear hb2 hx2 hz2 hr2 hw2 hd ha hE
  simp only [Dk.v] at *
  go_enter Try.func15, Try.ntmps15
  go_wp2_with fail
  rw [← HW2.out]
  clear HW2
  refine HA.out.mono ?_
  rintro e w3 ⟨rfl, hb3⟩
  have HX3 := Lib.hid (HX.out.below hb3 HX.out.lt)
  have HR3 := Lib.hid (HR.out.below hb3 HR.out.lt)
  have HB3 := Lib.hid (below_to HB.out hb3 HB.out.size)
  have HZ3 := Lib.hid (show w.heap.size + 2 ≤ w3.heap.size from by have := hb3.size; rw [HZ.out] at this; exact this)
  clear hb3 HA HX HR HB HZ c0 c1
  obtain ⟨x0, x1⟩ := HX3.out.cells
  by_cases hmay : d.c.May
  · obtain rfl : E = 0 := by rw [HE.out, errG_ok hmay]
    have hk := r_kept d none 0 0 [] w3 (HD.out.below HB3.out) hmay rfl Rd.nil_ (.inl rfl)
    have hso : soK [] = fun _ => true := by funext i; rfl
    rw [hso] at hk
    simp only [Dk.v] at hk
    have HK := Lib.hid hk
    clear hk hso hmay
    go_wp2_with fail
    refine HK.out.mono ?_
    rintro e w4 ⟨d', rfl, hn4, hb4⟩
    have hr4 := HR3.out.below hb4 HR3.out.lt
    obtain ⟨r0, r1⟩ := hr4.cells
    have rf := hr4.frozen
    have hlt := hr4.lt
    have hn9 := (hn4.grown (grown_setCell w4 ⟨w.heap.size + 1, 0, none⟩ (.slice d'.A d'.nB d'.cB)) (fun j hj => by cases hj; show w.heap.size + 1 < _; have := HZ3.out; omega)).grown (grown_setCell _ ⟨w.heap.size + 1, 1, none⟩ (.slice d'.W d'.nW d'.cW)) (fun j hj => by cases hj; show w.heap.size + 1 < _; have := HZ3.out; omega)
    have hb9 := ((below_to HB3.out hb4 HB3.out.size).setCell (p := ⟨w.heap.size + 1, 0, none⟩) (Nat.le_succ _) (.slice d'.A d'.nB d'.cB)).setCell (p := ⟨w.heap.size + 1, 1, none⟩) (Nat.le_succ _) (.slice d'.W d'.nW d'.cW)
    have HN9 := Lib.hid (hn9.mono HB3.out.size)
    have HB9 := Lib.hid hb9
    clear hn4 hb4 hr4 hn9 hb9 HK x0 x1
    go_wp2
    refine bodyPost_ret (v := .tuple #[.agg #[.slice d'.A d'.nB d'.cB, .slice d'.W d'.nW d'.cW], .int .i64 0]) (by simp [results, Try.results15, go_sem, r0, r1]) rfl ?_
    exact ⟨d', rfl, HN9.out, HB9.out⟩
  · obtain rfl : E = 8 := by rw [HE.out, errG_bad hmay]
    obtain ⟨r0, r1⟩ := HR3.out.cells
    have rf := HR3.out.frozen
    have hlt := HR3.out.lt
    have hb9 := (HB3.out.setCell (p := ⟨w.heap.size + 1, 0, none⟩) (Nat.le_succ _) (.slice none 0 0)).setCell (p := ⟨w.heap.size + 1, 1, none⟩) (Nat.le_succ _) (.slice none 0 0)
    have HB9 := Lib.hid hb9
    clear hb9 hmay
    go_wp2
    refine bodyPost_ret (v := .tuple #[.agg #[.slice none 0 0, .slice none 0 0], .int .i64 8]) (by simp [results, Try.results15, go_sem, r0, r1]) rfl ?_
    exact ⟨Dk.nil, rfl, Nw.nil _ _, HB9.out⟩
end Go.Proofs.Ytkaklppkmokffaa
