/-
  Contract of dev.Tamper.
-/
import Derived.Test.YtkaklppkmokffaaDevK
namespace Go.Proofs.Ytkaklppkmokffaa
open Go.RowKit
set_option linter.unusedVariables false
set_option linter.unusedSimpArgs false
set_option maxRecDepth 100000

theorem xor_u8 (x y : UInt8) : bits .xor .u8 (x.toNat : Int) (y.toNat : Int) = ((x ^^^ y).toNat : Int) := by
  rw [u8_xor_nat _ _ x.toNat_lt y.toNat_lt, UInt8.toNat_xor]
theorem wpList_skip {P : Program} {w : World} {ops : Array Oper} {rest : List Oper} {o : Oper} {a : Act} {Q : Exit → Act → World → Prop} (hgd : o.guard = none) {w' : World} (hr : (execOp a.eval o).run P w = .ok .skip w')
    (h : wpList P ops Q rest (a.put o.dst undef) w') : wpList P ops Q (o :: rest) a w :=
  wpList_plain hgd fun K hK => by
    unfold Oper.wp
    rw [hr]
    exact hK _ _ h
def NwR (c : Ct) (base : Nat) (d' : Dk) (V : World) : Prop := Nw c base d' V
theorem NwR.stable {c : Ct} {base G : Nat} (hG : G < base) : ∀ d' V V', NwR c base d' V → V.grownBy V' (some G) → NwR c base d' V' := fun d' V V' h hg => Nw.grown h hg (fun j hj => by cases hj; exact hG)
set_option maxHeartbeats 2000000 in
theorem d_doTamper (G G1 G2 G3 : Nat) (d : Dk) (a b : Nat) (v : UInt8) (W : World) (hG : DkBox W G (.slice d.A d.nB d.cB) (.slice d.W d.nW d.cW)) (hd : d.ok W) (hmay : d.c.May) (base : Nat) (hbase : base ≤ W.heap.size) (h1 : W.cell? ⟨G1, 0, none⟩ = some (.int .i64 (a : Int))) (h2 : W.cell? ⟨G2, 0, none⟩ = some (.int .i64 (b : Int))) (h3 : W.cell? ⟨G3, 0, none⟩ = some (.int .u8 (v.toNat : Int)))
    (hlt : G < base ∧ G1 < base ∧ G2 < base ∧ G3 < base) (hne : G ≠ G1 ∧ G ≠ G2 ∧ G ≠ G3) (ha : a < 256) (hb : b < 256) :
    Calls Try.prog 43 #[.pointer (some ⟨G, 0, none⟩), .pointer (some ⟨G1, 0, none⟩), .pointer (some ⟨G2, 0, none⟩), .pointer (some ⟨G3, 0, none⟩)] W (DoP (NwR (d.c.tamper a b v) base) (some G) W) := by
  have hxB := DkBox.new W (.slice none 0 0) (.slice none 0 0)
  have hb2 := below_new' W (.cells #[.slice none 0 0, .slice none 0 0] 25)
  have hnB : (d.nB : Int) ≤ 1000000 := by have := hmay.1; rw [Dk.c_b, List.length_map, hd.lb] at this; omega
  have hnW : (d.nW : Int) ≤ 1000000 := by have := hmay.2.2.1; rw [Dk.c_w, List.length_map, hd.lw] at this; omega
  have htw := d_twin d _ (hd.below hb2) hnB hnW (by have := hmay.total; omega) (fun x hx => by
    have h1 := (hmay.2.2.2 (Wt.c x) (List.mem_map_of_mem hx)).2
    have h2 := (hd.sw x hx).1.1
    simp only [Wt.c] at h1
    omega)
  have HTW := Lib.hid htw
  have HXB := Lib.hid hxB
  have HB2 := Lib.hid hb2
  have HG := Lib.hid hG
  have HMAY := Lib.hid hmay
  have HLT := Lib.hid hlt
  have HNE := Lib.hid hne
  have H1 := Lib.hid h1
  have H2 := Lib.hid h2
  have H3 := Lib.hid h3
  obtain ⟨c0, c1⟩ := hG.cells
  have hGl := hG.lt
  simp only [Dk.v] at *
  clear hxB hb2 htw hd hmay hG hlt hne h1 h2 h3
  go_enter Try.func43, Try.ntmps43
  go_wp2_with fail
  refine HTW.out.mono ?_
  rintro e w3 ⟨d1, he, htw, hb3⟩
  unfold Dk.v at he
  subst he
  have hbw := below_to HB2.out hb3 HB2.out.size
  have HG3 := Lib.hid (HG.out.below hbw HG.out.lt)
  have HX3 := Lib.hid (HXB.out.below hb3 HXB.out.lt)
  obtain ⟨x0, x1⟩ := HG3.out.cells
  have xf := HG3.out.frozen
  have hsz : W.heap.size + 1 ≤ w3.heap.size := by have := hb3.size; simp at this; omega
  clear c0 c1 HTW
  go_wp2
  obtain ⟨w4, hw4⟩ : ∃ V, V = (w3.setCell ⟨G, 0, none⟩ (.slice d1.A d1.nB d1.cB)).setCell ⟨G, 1, none⟩ (.slice d1.W d1.nW d1.cW) := ⟨_, rfl⟩
  rw [← hw4]
  have hg4 : w3.grownBy w4 (some G) := by
    rw [hw4]
    exact (grown_setCell w3 ⟨G, 0, none⟩ (.slice d1.A d1.nB d1.cB)).andThen (grown_setCell _ ⟨G, 1, none⟩ (.slice d1.W d1.nW d1.cW)) (fun j hj => .inr hj)
  have hX4 : DkBox w4 G (.slice d1.A d1.nB d1.cB) (.slice d1.W d1.nW d1.cW) := by
    rw [hw4]
    exact (HG3.out.put0 _).put1 _
  have hR4 : DkBox w4 W.heap.size (.slice none 0 0) (.slice none 0 0) := HX3.out.grown hg4 (by simp; omega)
  have htw4 := htw.grown hg4 (fun j hj => by cases hj; have := HG.out.lt; simp; omega)
  have hgW : W.grownBy w4 (some G) := (grown_of_below hbw (some G)).andThen hg4 (fun j hj => .inr hj)
  obtain ⟨gA, g, off, k, x, hA, hgAl, hgl, hnb, hca, hcx, hfx, hgb, hnw⟩ := htw4.turn HMAY.out ha hb v
  have cell4 : ∀ j : Nat, j ≠ G → j < W.heap.size → ∀ u, W.cell? ⟨j, 0, none⟩ = some u → w4.cell? ⟨j, 0, none⟩ = some u := fun j hj hl u hu => (World.cell?_of_block (a := ⟨j, 0, none⟩) (hgW.block j hl (fun e => hj (by injection e)))).trans hu
  have l1 := cell4 G1 (Ne.symm HNE.out.1) (by have := HLT.out; omega) _ H1.out
  have l2 := cell4 G2 (Ne.symm HNE.out.2.1) (by have := HLT.out; omega) _ H2.out
  have l3 := cell4 G3 (Ne.symm HNE.out.2.2) (by have := HLT.out; omega) _ H3.out
  have hgG : G ≠ g := by have := HLT.out; simp at hgb; omega
  have hgR : W.heap.size ≠ g := by simp at hgb; omega
  have hX5 : DkBox (w4.drew.setCell ⟨g, off + b, none⟩ (.int .u8 ((x ^^^ v).toNat : Int))) G (.slice d1.A d1.nB d1.cB) (.slice d1.W d1.nW d1.cW) := DkBox.set (w := w4.drew) hX4 ⟨g, off + b, none⟩ (Ne.symm hgG) _
  have hR5 : DkBox (w4.drew.setCell ⟨g, off + b, none⟩ (.int .u8 ((x ^^^ v).toNat : Int))) W.heap.size (.slice none 0 0) (.slice none 0 0) := DkBox.set (w := w4.drew) hR4 ⟨g, off + b, none⟩ (Ne.symm hgR) _
  have hgr5 : W.grownBy (w4.drew.setCell ⟨g, off + b, none⟩ (.int .u8 ((x ^^^ v).toNat : Int))) (some G) := (grown_drew hgW).andThen (grown_setCell w4.drew ⟨g, off + b, none⟩ _) (fun j hj => .inl (by cases hj; simp at hgb ⊢; omega))
  have hnw5 : Nw (d.c.tamper a b v) (W.heap.size + 1) ⟨d1.A, d1.nB, d1.cB, turnS d1.bs a b v, d1.W, d1.nW, d1.cW, d1.ws⟩ (w4.drew.setCell ⟨g, off + b, none⟩ (.int .u8 ((x ^^^ v).toNat : Int))) := by
    have := hnw.below (w' := (w4.setCell ⟨g, off + b, none⟩ (.int .u8 ((x ^^^ v).toNat : Int))).drew) ((Below.refl _ _).drew)
    rw [World.setCell_drew]
    rw [World.size_alloc] at this
    exact this
  have HX5 := Lib.hid hX5
  have HR5 := Lib.hid hR5
  have HG5 := Lib.hid hgr5
  have HN5 := Lib.hid hnw5
  have HX4 := Lib.hid hX4
  obtain ⟨z0, z1⟩ := HX4.out.cells
  rw [hA] at z0
  rw [hnb] at z0
  have ha0 : ¬ ((a : Int) < 0) := by omega
  have ha1 : (a : Int) < 256 := by omega
  have hb0 : ¬ ((b : Int) < 0) := by omega
  have hb1 : (b : Int) < 256 := by omega
  have hgl4 := Lib.hid hgl
  clear htw hb3 hbw x0 x1 xf hw4 hg4 hX4 hR4 htw4 hgW hnw cell4 hX5 hR5 hgr5 hnw5 hgb hgAl hgl
  go_still_tail 11, (by kernel_rfl)
  obtain ⟨w5, hw5⟩ : ∃ V, V = w4.drew.setCell ⟨g, off + b, none⟩ (.int .u8 ((x ^^^ v).toNat : Int)) := ⟨_, rfl⟩
  rw [← hw5] at HX5 HR5 HG5 HN5
  have hxr := xor_u8 x v
  refine wpList_skip (w' := w5) rfl (by
    rw [hw5, ← hxr]
    clear hxr hw5
    generalize bits .xor .u8 (x.toNat : Int) (v.toNat : Int) = z
    have hcx' : w4.drew.cell? ⟨g, off + b, none⟩ = some (.int .u8 (x.toNat : Int)) := hcx
    have hfx' : w4.drew.frozen? ⟨g, off + b, none⟩ = false := hfx
    clear hcx hfx
    rw [show ({ heap := w4.heap, tape := w4.tape, drawn := w4.drawn + 1, os := w4.os, output := w4.output } : World) = w4.drew from rfl]
    generalize w4.drew = W4 at *
    go_simp) ?_
  clear hw5 hxr z0 z1 hcx hfx l1 l2 l3 hca HX4 hA hnb
  obtain ⟨y0, y1⟩ := HX5.out.cells
  obtain ⟨r0, r1⟩ := HR5.out.cells
  have rf := HR5.out.frozen
  have hn6 := (HN5.out.grown (grown_setCell w5 ⟨W.heap.size, 0, none⟩ (.slice d1.A d1.nB d1.cB)) (fun j hj => by cases hj; simp)).grown (grown_setCell _ ⟨W.heap.size, 1, none⟩ (.slice d1.W d1.nW d1.cW)) (fun j hj => by cases hj; simp)
  have hg6 := (HG5.out.andThen (grown_setCell w5 ⟨W.heap.size, 0, none⟩ (.slice d1.A d1.nB d1.cB)) (fun j hj => .inl (by cases hj; exact Nat.le_refl _))).andThen (grown_setCell _ ⟨W.heap.size, 1, none⟩ (.slice d1.W d1.nW d1.cW)) (fun j hj => .inl (by cases hj; exact Nat.le_refl _))
  have HN6 := Lib.hid (hn6.mono (base' := base) (by omega))
  have HG6 := Lib.hid hg6
  clear hn6 hg6
  go_wp2
  refine bodyPost_ret (v := .agg #[.slice d1.A d1.nB d1.cB, .slice d1.W d1.nW d1.cW]) (by simp [results, Try.results43, go_sem, r0, r1]) rfl ?_
  exact ⟨⟨d1.A, d1.nB, d1.cB, turnS d1.bs a b v, d1.W, d1.nW, d1.cW, d1.ws⟩, rfl, HN6.out, HG6.out⟩
end Go.Proofs.Ytkaklppkmokffaa
