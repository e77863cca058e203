/-
  Contracts of dev.Flush, dev.Crash, dev.Tamper, dev.New.
-/
import Derived.Test.YtkaklppkmokffaaDevH
namespace Go.Proofs.Ytkaklppkmokffaa
open Go.RowKit
set_option linter.unusedVariables false
set_option linter.unusedSimpArgs false
set_option maxRecDepth 100000

def TwR (c : Ct) (base : Nat) (d' : Dk) (V : World) : Prop := Tw c base d' V
theorem TwR.stable {c : Ct} {base G : Nat} (hG : G < base) : ∀ d' V V', TwR c base d' V → V.grownBy V' (some G) → TwR c base d' V' := fun d' V V' h hg => Tw.grown h hg (fun j hj => by cases hj; exact hG)
theorem e_all : ∀ args w, (callFunc 37 args).run Try.prog w = .ok (.enter 37 args) w := enters_of Try.func37 (by kernel_rfl) rfl
theorem e_mark : ∀ args w, (callFunc 41 args).run Try.prog w = .ok (.enter 41 args) w := enters_of Try.func41 (by kernel_rfl) rfl
theorem e_doFlush : ∀ args w, (callFunc 35 args).run Try.prog w = .ok (.enter 35 args) w := enters_of Try.func35 (by kernel_rfl) rfl
theorem e_doCrash : ∀ args w, (callFunc 40 args).run Try.prog w = .ok (.enter 40 args) w := enters_of Try.func40 (by kernel_rfl) rfl
theorem e_doTamper : ∀ args w, (callFunc 43 args).run Try.prog w = .ok (.enter 43 args) w := enters_of Try.func43 (by kernel_rfl) rfl
theorem e_doRead : ∀ args w, (callFunc 45 args).run Try.prog w = .ok (.enter 45 args) w := enters_of Try.func45 (by kernel_rfl) rfl
theorem e_doWrite : ∀ args w, (callFunc 47 args).run Try.prog w = .ok (.enter 47 args) w := enters_of Try.func47 (by kernel_rfl) rfl
set_option maxHeartbeats 1000000 in
theorem d_doFlush (G : Nat) (d : Dk) (W : World) (hG : DkBox W G (.slice d.A d.nB d.cB) (.slice d.W d.nW d.cW)) (hd : d.ok W) (hmay : d.c.May) (base : Nat) (hbase : base ≤ W.heap.size) (row : Option Nat) :
    Calls Try.prog 35 #[.pointer (some ⟨G, 0, none⟩)] W (DoP (TwR (d.c.left fun _ => true) base) row W) := by
  have hxB := DkBox.new W (.slice none 0 0) (.slice none 0 0)
  have hb2 := below_new' W (.cells #[.slice none 0 0, .slice none 0 0] 25)
  have hleft := d_left d _ (hd.below hb2) hmay (fun _ => true) 37 #[] e_all (d_all d.nW _)
  have HLEFT := Lib.hid hleft
  have HXB := Lib.hid hxB
  have HB2 := Lib.hid hb2
  have hlt := hG.lt
  obtain ⟨c0, c1⟩ := hG.cells
  simp only [Dk.v] at *
  clear hxB hb2 hleft hG hd hmay
  go_enter Try.func35, Try.ntmps35
  go_wp2_with fail
  refine HLEFT.out.mono ?_
  rintro e w3 ⟨d', he, htw, hb3⟩
  unfold Dk.v at he
  subst he
  have HX3 := Lib.hid (HXB.out.below hb3 HXB.out.lt)
  obtain ⟨x0, x1⟩ := HX3.out.cells
  have xf := HX3.out.frozen
  have hbase2 : base ≤ (W.alloc (.cells #[.slice none 0 0, .slice none 0 0] 25)).heap.size := by rw [World.size_alloc]; omega
  have ht4 := (htw.grown (grown_setCell w3 ⟨W.heap.size, 0, none⟩ (.slice d'.A d'.nB d'.cB)) (fun j hj => by cases hj; simp)).grown (grown_setCell _ ⟨W.heap.size, 1, none⟩ (.slice d'.W d'.nW d'.cW)) (fun j hj => by cases hj; simp)
  have hb4 := ((below_to HB2.out hb3 HB2.out.size).setCell (p := ⟨W.heap.size, 0, none⟩) (Nat.le_refl _) (.slice d'.A d'.nB d'.cB)).setCell (p := ⟨W.heap.size, 1, none⟩) (Nat.le_refl _) (.slice d'.W d'.nW d'.cW)
  have HT4 := Lib.hid (ht4.mono hbase2)
  have HB4 := Lib.hid hb4
  clear htw hb3 ht4 hb4 c0 c1 hbase2 HLEFT
  go_wp2
  refine bodyPost_ret (v := .agg #[.slice d'.A d'.nB d'.cB, .slice d'.W d'.nW d'.cW]) (by simp [results, Try.results35, go_sem, x0, x1]) rfl ?_
  exact ⟨d', rfl, HT4.out, grown_of_below HB4.out row⟩
set_option maxHeartbeats 1000000 in
theorem d_doRead (G : Nat) (d : Dk) (W : World) (hG : DkBox W G (.slice d.A d.nB d.cB) (.slice d.W d.nW d.cW)) (hd : d.ok W) (hmay : d.c.May) (base : Nat) (hbase : base ≤ W.heap.size) (row : Option Nat) :
    Calls Try.prog 45 #[.pointer (some ⟨G, 0, none⟩)] W (DoP (TwR (d.c.left fun _ => true) base) row W) := by
  have hxB := DkBox.new W (.slice none 0 0) (.slice none 0 0)
  have hb2 := below_new' W (.cells #[.slice none 0 0, .slice none 0 0] 25)
  have hleft := d_left d _ (hd.below hb2) hmay (fun _ => true) 37 #[] e_all (d_all d.nW _)
  have HLEFT := Lib.hid hleft
  have HXB := Lib.hid hxB
  have HB2 := Lib.hid hb2
  have hlt := hG.lt
  obtain ⟨c0, c1⟩ := hG.cells
  simp only [Dk.v] at *
  clear hxB hb2 hleft hG hd hmay
  go_enter Try.func45, Try.ntmps45
  go_wp2_with fail
  refine HLEFT.out.mono ?_
  rintro e w3 ⟨d', he, htw, hb3⟩
  unfold Dk.v at he
  subst he
  have HX3 := Lib.hid (HXB.out.below hb3 HXB.out.lt)
  obtain ⟨x0, x1⟩ := HX3.out.cells
  have xf := HX3.out.frozen
  have hbase2 : base ≤ (W.alloc (.cells #[.slice none 0 0, .slice none 0 0] 25)).heap.size := by rw [World.size_alloc]; omega
  have ht4 := (htw.grown (grown_setCell w3 ⟨W.heap.size, 0, none⟩ (.slice d'.A d'.nB d'.cB)) (fun j hj => by cases hj; simp)).grown (grown_setCell _ ⟨W.heap.size, 1, none⟩ (.slice d'.W d'.nW d'.cW)) (fun j hj => by cases hj; simp)
  have hb4 := ((below_to HB2.out hb3 HB2.out.size).setCell (p := ⟨W.heap.size, 0, none⟩) (Nat.le_refl _) (.slice d'.A d'.nB d'.cB)).setCell (p := ⟨W.heap.size, 1, none⟩) (Nat.le_refl _) (.slice d'.W d'.nW d'.cW)
  have HT4 := Lib.hid (ht4.mono hbase2)
  have HB4 := Lib.hid hb4
  clear htw hb3 ht4 hb4 c0 c1 hbase2 HLEFT
  go_wp2
  refine bodyPost_ret (v := .agg #[.slice d'.A d'.nB d'.cB, .slice d'.W d'.nW d'.cW]) (by simp [results, Try.results45, go_sem, x0, x1]) rfl ?_
  exact ⟨d', rfl, HT4.out, grown_of_below HB4.out row⟩
set_option maxHeartbeats 1000000 in
theorem d_doCrash (G G2 : Nat) (d : Dk) (A : Option Addr) (n c : Nat) (keep : List Bool) (W : World) (hG : DkBox W G (.slice d.A d.nB d.cB) (.slice d.W d.nW d.cW)) (hd : d.ok W) (hmay : d.c.May) (hk : KeepBox W G2 (.slice A n c)) (hl : keep.length = n) (hn : n = d.nW)
    (hr : Rd W W.heap.size 1 A n (bos keep)) (base : Nat) (hbase : base ≤ W.heap.size) (row : Option Nat) :
    Calls Try.prog 40 #[.pointer (some ⟨G, 0, none⟩), .pointer (some ⟨G2, 0, none⟩)] W (DoP (TwR (d.c.left (markB keep)) base) row W) := by
  have hxB := DkBox.new W (.slice none 0 0) (.slice none 0 0)
  have hb2 := below_new' W (.cells #[.slice none 0 0, .slice none 0 0] 25)
  have hkc : W.cell? ⟨G2, 0, none⟩ = some (.slice A n c) := by
    unfold KeepBox at hk
    simp [World.cell?, hk]
  have hkl : G2 < W.heap.size := (Array.getElem?_eq_some_iff.1 hk).1
  have hnn : (n : Int) ≤ 1000000 := by
    have := hmay.2.2.1
    rw [Dk.c_w, List.length_map, hd.lw] at this
    omega
  have hmark := (d_mark G2 A n c keep W hkl hkc hl hnn hr).below hb2
  rw [hn] at hmark
  have hleft := d_left d _ (hd.below hb2) hmay (markB keep) 41 #[.pointer (some ⟨G2, 0, none⟩)] e_mark hmark
  have HLEFT := Lib.hid hleft
  have HXB := Lib.hid hxB
  have HB2 := Lib.hid hb2
  have hlt := hG.lt
  obtain ⟨c0, c1⟩ := hG.cells
  simp only [Dk.v] at *
  clear hxB hb2 hleft hG hd hmay hkc hkl hnn hmark hk hl hn hr
  go_enter Try.func40, Try.ntmps40
  go_wp2_with fail
  refine HLEFT.out.mono ?_
  rintro e w3 ⟨d', he, htw, hb3⟩
  unfold Dk.v at he
  subst he
  have HX3 := Lib.hid (HXB.out.below hb3 HXB.out.lt)
  obtain ⟨x0, x1⟩ := HX3.out.cells
  have xf := HX3.out.frozen
  have hbase2 : base ≤ (W.alloc (.cells #[.slice none 0 0, .slice none 0 0] 25)).heap.size := by rw [World.size_alloc]; omega
  have ht4 := (htw.grown (grown_setCell w3 ⟨W.heap.size, 0, none⟩ (.slice d'.A d'.nB d'.cB)) (fun j hj => by cases hj; simp)).grown (grown_setCell _ ⟨W.heap.size, 1, none⟩ (.slice d'.W d'.nW d'.cW)) (fun j hj => by cases hj; simp)
  have hb4 := ((below_to HB2.out hb3 HB2.out.size).setCell (p := ⟨W.heap.size, 0, none⟩) (Nat.le_refl _) (.slice d'.A d'.nB d'.cB)).setCell (p := ⟨W.heap.size, 1, none⟩) (Nat.le_refl _) (.slice d'.W d'.nW d'.cW)
  have HT4 := Lib.hid (ht4.mono hbase2)
  have HB4 := Lib.hid hb4
  clear htw hb3 ht4 hb4 c0 c1 hbase2 HLEFT
  go_wp2
  refine bodyPost_ret (v := .agg #[.slice d'.A d'.nB d'.cB, .slice d'.W d'.nW d'.cW]) (by simp [results, Try.results40, go_sem, x0, x1]) rfl ?_
  exact ⟨d', rfl, HT4.out, grown_of_below HB4.out row⟩

/-! ### Flush, Crash -/
def AnsP (c : Ct) (E : Int) (w : World) (e : Ending) (w' : World) : Prop :=
  ∃ d' : Dk, e = .returned (.tuple #[.agg #[.slice d'.A d'.nB d'.cB, .slice d'.W d'.nW d'.cW], .int .i64 E]) ∧ Nw (if E = 0 then c else ⟨[], []⟩) w.heap.size d' w' ∧ Below w.heap.size w w'
set_option maxHeartbeats 1000000 in
theorem d_flush (d : Dk) (w : World) (hd : d.ok w) (hB6 : (d.nB : Int) ≤ 1000000) (hW6 : (d.nW : Int) ≤ 1000000) (E : Int) (hE : E = errG d.c true) :
    Calls Try.prog 14 #[d.v] w (AnsP (d.c.left fun _ => true) E w) := by
  have hx0 := DkBox.new w (.slice d.A d.nB d.cB) (.slice d.W d.nW d.cW)
  have hxA := hx0.alloc (.cells #[.slice none 0 0, .slice none 0 0] 25)
  have hxB := DkBox.new (w.alloc (.cells #[.slice d.A d.nB d.cB, .slice d.W d.nW d.cW] 25)) (.slice none 0 0) (.slice none 0 0)
  rw [World.size_alloc] at hxB
  have hb2 := (below_new' w (.cells #[.slice d.A d.nB d.cB, .slice d.W d.nW d.cW] 25)).alloc (by simp) (.cells #[.slice none 0 0, .slice none 0 0] 25)
  have hsz : ((w.alloc (.cells #[.slice d.A d.nB d.cB, .slice d.W d.nW d.cW] 25)).alloc (.cells #[.slice none 0 0, .slice none 0 0] 25)).heap.size = w.heap.size + 2 := by simp
  obtain ⟨c0, c1⟩ := hxA.cells
  have hg := d_guarded d _ (hd.below hb2) hB6 hW6 true 35 #[.pointer (some ⟨w.heap.size, 0, none⟩)] e_doFlush (TwR (d.c.left fun _ => true) (w.heap.size + 4)) none (fun j hj => by cases hj) E hE
    (fun hmay _ W hW hWs => d_doFlush w.heap.size d W (hxA.below hW hxA.lt) ((hd.below hb2).below hW) hmay _ (by rw [hsz] at hWs; omega) none) (TwR.stable (by rw [hsz]; omega))
  have HG := Lib.hid hg
  have HXB := Lib.hid hxB
  have HB2 := Lib.hid hb2
  simp only [Dk.v] at *
  clear hx0 hxA hxB hb2 hsz hg hd hE
  go_enter Try.func14, Try.ntmps14
  go_wp2_with fail
  refine HG.out.mono ?_
  rintro e w3 ⟨d', rfl, h0, hne, hg3⟩
  have hb3 := grown_below hg3 (Nat.le_refl _) (fun j hj => by cases hj)
  have HX3 := Lib.hid (HXB.out.below hb3 HXB.out.lt)
  obtain ⟨x0, x1⟩ := HX3.out.cells
  have xf := HX3.out.frozen
  have hnw : Nw (if E = 0 then d.c.left (fun _ => true) else ⟨[], []⟩) (w.heap.size + 2) d' w3 := by
    by_cases he : E = 0
    · rw [if_pos he]
      exact (show Tw _ _ _ _ from h0 he).nw.mono (by omega)
    · rw [if_neg he, hne he]
      exact Nw.nil _ _
  have hn4 := (hnw.grown (grown_setCell w3 ⟨w.heap.size + 1, 0, none⟩ (.slice d'.A d'.nB d'.cB)) (fun j hj => by cases hj; simp)).grown (grown_setCell _ ⟨w.heap.size + 1, 1, none⟩ (.slice d'.W d'.nW d'.cW)) (fun j hj => by cases hj; simp)
  have hb4 := ((below_to HB2.out hb3 HB2.out.size).setCell (p := ⟨w.heap.size + 1, 0, none⟩) (Nat.le_succ _) (.slice d'.A d'.nB d'.cB)).setCell (p := ⟨w.heap.size + 1, 1, none⟩) (Nat.le_succ _) (.slice d'.W d'.nW d'.cW)
  have HN4 := Lib.hid (hn4.mono (Nat.le_add_right w.heap.size 2))
  have HB4 := Lib.hid hb4
  clear h0 hne hg3 hb3 hnw hn4 hb4 c0 c1 HG
  go_wp2
  refine bodyPost_ret (v := .tuple #[.agg #[.slice d'.A d'.nB d'.cB, .slice d'.W d'.nW d'.cW], .int .i64 E]) (by simp [results, Try.results14, go_sem, x0, x1]) rfl ?_
  exact ⟨d', rfl, HN4.out, HB4.out⟩
end Go.Proofs.Ytkaklppkmokffaa
