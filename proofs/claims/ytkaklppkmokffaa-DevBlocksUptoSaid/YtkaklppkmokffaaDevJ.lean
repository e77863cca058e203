/-
  Contracts of dev.Crash, dev.Tamper.
-/
import Derived.Test.YtkaklppkmokffaaDevI
import Derived.StillTailTactics
namespace Go.Proofs.Ytkaklppkmokffaa
open Go.RowKit
set_option linter.unusedVariables false
set_option linter.unusedSimpArgs false
set_option maxRecDepth 100000

set_option maxHeartbeats 1000000 in
theorem d_crash (d : Dk) (w : World) (hd : d.ok w) (hB6 : (d.nB : Int) ≤ 1000000) (hW6 : (d.nW : Int) ≤ 1000000) (K : Option Addr) (n c : Nat) (keep : List Bool) (hl : keep.length = n) (hr : Rd w w.heap.size 1 K n (bos keep)) (hn6 : (n : Int) ≤ 1000000) (E : Int) (hE : E = errG d.c (decide (n = d.nW))) :
    Calls Try.prog 16 #[d.v, .slice K n c] w (AnsP (d.c.left (markB keep)) E w) := by
  obtain ⟨q, hq⟩ : ∃ q, q = decide (n = d.nW) := ⟨_, rfl⟩
  have hq2 : ((n : Int) == (d.nW : Int)) = q := by
    rw [hq, Bool.eq_iff_iff]
    simp
    omega
  rw [← hq] at hE
  have hx0 := DkBox.new w (.slice d.A d.nB d.cB) (.slice d.W d.nW d.cW)
  have hx1 := hx0.alloc (.cells #[.slice K n c] 26)
  have hxA := hx1.alloc (.cells #[.slice none 0 0, .slice none 0 0] 25)
  have hk1 : KeepBox (w.alloc (.cells #[.slice d.A d.nB d.cB, .slice d.W d.nW d.cW] 25) |>.alloc (.cells #[.slice K n c] 26)) (w.heap.size + 1) (.slice K n c) := by
    have := heap_alloc_new (w.alloc (.cells #[.slice d.A d.nB d.cB, .slice d.W d.nW d.cW] 25)) (.cells #[.slice K n c] 26)
    rw [World.size_alloc] at this
    exact this
  have hk2 : KeepBox ((w.alloc (.cells #[.slice d.A d.nB d.cB, .slice d.W d.nW d.cW] 25) |>.alloc (.cells #[.slice K n c] 26)).alloc (.cells #[.slice none 0 0, .slice none 0 0] 25)) (w.heap.size + 1) (.slice K n c) :=
    (Below.heap_alloc _ _ (w.heap.size + 1) (by simp)).trans hk1
  have hxB := DkBox.new (w.alloc (.cells #[.slice d.A d.nB d.cB, .slice d.W d.nW d.cW] 25) |>.alloc (.cells #[.slice K n c] 26)) (.slice none 0 0) (.slice none 0 0)
  have hb2 := ((below_new' w (.cells #[.slice d.A d.nB d.cB, .slice d.W d.nW d.cW] 25)).alloc (by simp) (.cells #[.slice K n c] 26)).alloc (by simp; omega) (.cells #[.slice none 0 0, .slice none 0 0] 25)
  have hsz1 : ((w.alloc (.cells #[.slice d.A d.nB d.cB, .slice d.W d.nW d.cW] 25)).alloc (.cells #[.slice K n c] 26)).heap.size = w.heap.size + 2 := by simp
  have hsz : (((w.alloc (.cells #[.slice d.A d.nB d.cB, .slice d.W d.nW d.cW] 25)).alloc (.cells #[.slice K n c] 26)).alloc (.cells #[.slice none 0 0, .slice none 0 0] 25)).heap.size = w.heap.size + 3 := by simp
  rw [hsz1] at hxB
  obtain ⟨c0, c1⟩ := hxA.cells
  have hg := d_guarded d _ (hd.below hb2) hB6 hW6 q 40 #[.pointer (some ⟨w.heap.size, 0, none⟩), .pointer (some ⟨w.heap.size + 1, 0, none⟩)] e_doCrash (TwR (d.c.left (markB keep)) (w.heap.size + 5)) none (fun j hj => by cases hj) E hE
    (fun hmay hqt W hW hWs => d_doCrash w.heap.size (w.heap.size + 1) d K n c keep W (hxA.below hW hxA.lt) ((hd.below hb2).below hW) hmay ((hW.block _ (Array.getElem?_eq_some_iff.1 hk2).1).trans hk2) hl (by rw [hq] at hqt; exact of_decide_eq_true hqt) ((hr.below (below_to hb2 hW (by rw [hsz]; omega))).more (by have := hW.size; rw [hsz] at this; omega)) _ (by rw [hsz] at hWs; omega) none) (TwR.stable (by rw [hsz]; omega))
  have HG := Lib.hid hg
  have HXB := Lib.hid hxB
  have HB2 := Lib.hid hb2
  simp only [Dk.v] at *
  clear hx0 hx1 hxA hxB hb2 hsz hsz1 hg hd hE hq hk1 hk2 hr hl
  go_enter Try.func16, Try.ntmps16
  go_wp2_with fail
  refine HG.out.mono ?_
  rintro e w3 ⟨d', rfl, h0, hne, hg3⟩
  have hb3 := grown_below hg3 (Nat.le_refl _) (fun j hj => by cases hj)
  have HX3 := Lib.hid (HXB.out.below hb3 HXB.out.lt)
  obtain ⟨x0, x1⟩ := HX3.out.cells
  have xf := HX3.out.frozen
  have hnw : Nw (if E = 0 then d.c.left (markB keep) else ⟨[], []⟩) (w.heap.size + 3) d' w3 := by
    by_cases he : E = 0
    · rw [if_pos he]
      exact (show Tw _ _ _ _ from h0 he).nw.mono (by omega)
    · rw [if_neg he, hne he]
      exact Nw.nil _ _
  have hn4 := (hnw.grown (grown_setCell w3 ⟨w.heap.size + 2, 0, none⟩ (.slice d'.A d'.nB d'.cB)) (fun j hj => by cases hj; simp)).grown (grown_setCell _ ⟨w.heap.size + 2, 1, none⟩ (.slice d'.W d'.nW d'.cW)) (fun j hj => by cases hj; simp)
  have hb4 := ((below_to HB2.out hb3 HB2.out.size).setCell (p := ⟨w.heap.size + 2, 0, none⟩) (Nat.le_add_right _ _) (.slice d'.A d'.nB d'.cB)).setCell (p := ⟨w.heap.size + 2, 1, none⟩) (Nat.le_add_right _ _) (.slice d'.W d'.nW d'.cW)
  have HN4 := Lib.hid (hn4.mono (Nat.le_add_right w.heap.size 3))
  have HB4 := Lib.hid hb4
  clear h0 hne hg3 hb3 hnw hn4 hb4 c0 c1 HG
  go_wp2
  refine bodyPost_ret (v := .tuple #[.agg #[.slice d'.A d'.nB d'.cB, .slice d'.W d'.nW d'.cW], .int .i64 E]) (by simp [results, Try.results16, go_sem, x0, x1]) rfl ?_
  exact ⟨d', rfl, HN4.out, HB4.out⟩
end Go.Proofs.Ytkaklppkmokffaa
