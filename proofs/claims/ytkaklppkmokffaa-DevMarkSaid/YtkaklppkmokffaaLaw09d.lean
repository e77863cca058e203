/-
  The walk of DevMark.
-/
import Derived.Test.YtkaklppkmokffaaLaw09b
import Derived.BigQuiet
namespace Go.Proofs.Ytkaklppkmokffaa
open Go.RowKit
set_option linter.unusedVariables false
set_option linter.unusedSimpArgs false
set_option maxRecDepth 100000
attribute [local go_sem] str_toList toList_mk

/-! ### plain -/
theorem lastI_more {α : Type} (ws : List α) (key : α → Int) (so so' : Nat → Bool) (j : Nat) (hj : ∀ i, i ≠ j → so' i = so i) (hjj : so' j = true) (a : Int) : ∀ n, lastI ws key so' a n = lastI ws key so a n ∨ ∃ x, ws[j]? = some x ∧ key x = a ∧ lastI ws key so' a n = some x
  | 0 => .inl rfl
  | n + 1 => by
    have ih := lastI_more ws key so so' j hj hjj a n
    rw [lastI, lastI]
    cases hw : ws[n]? with
    | none => exact ih
    | some x =>
      simp only
      by_cases hn : n = j
      · subst hn
        by_cases hk : key x = a
        · rw [if_pos ⟨hjj, hk⟩]
          exact .inr ⟨x, hw, hk, rfl⟩
        · rw [if_neg (fun h => hk h.2), if_neg (fun h => hk h.2)]
          exact ih
      · rw [hj n hn]
        by_cases hc : so n = true ∧ key x = a
        · rw [if_pos hc, if_pos hc]
          exact .inl rfl
        · rw [if_neg hc, if_neg hc]
          exact ih
theorem wantL_more {c : Ct} {so so' : Nat → Bool} {j : Nat} (hj : ∀ i, i ≠ j → so' i = so i) (hjj : so' j = true) {x : Int × List UInt8} (hx : c.w[j]? = some x) (a : Int) (n : Nat) (h : ¬ wantL c so a n = wantL c so' a n) : x.1 = a ∧ wantL c so' a n = x.2 := by
  rcases lastI_more c.w Prod.fst so so' j hj hjj a n with e | ⟨y, hy, hk, e⟩
  · exact absurd (by unfold wantL; rw [e]) h
  · rw [hx] at hy
    cases hy
    exact ⟨hk, by unfold wantL; rw [e]⟩
theorem markB_set {keep : List Bool} {j : Nat} (hj : j < keep.length) : (∀ i, i ≠ j → markB (keep.set j true) i = markB keep i) ∧ markB (keep.set j true) j = true := by
  unfold markB
  refine ⟨fun i hi => ?_, ?_⟩
  · rw [List.getD_eq_getElem?_getD, List.getElem?_set_ne (Ne.symm hi), ← List.getD_eq_getElem?_getD]
  · rw [List.getD_eq_getElem?_getD, List.getElem?_set_self hj]
    rfl
theorem bos_set (keep : List Bool) (j : Nat) : (bos keep).set j (.bool true) = bos (keep.set j true) := by
  unfold bos
  rw [List.map_set]
theorem bos_one (l : List Bool) : ∀ u ∈ bos l, u.oneCell' = true := by
  intro u hu
  obtain ⟨s, _, rfl⟩ := List.mem_map.1 hu
  rfl
/-! ### the walk -/
def MkR (V : World) (x : Value) (wr : World) : Prop := ∃ k : Nat, k ≤ 256 ∧ x = .int .i64 (k : Int) ∧ Below V.heap.size V wr
set_option maxHeartbeats 4000000 in
theorem devMark_walk (d : Dk) (K : Option Addr) (n kc : Nat) (keep : List Bool) (wh : Int) (w : World) (hd : d.ok w) (hl : keep.length = n) (hr : Rd w w.heap.size 1 K n (bos keep)) (hwh : I64 wh) :
    Calls Try.prog 7 #[d.v, .slice K n kc, .int .i64 wh] w fun e w' => e = .returned (.bool true) ∧ Below w.heap.size w w' := by
  have hx := DkBox.new w (.slice d.A d.nB d.cB) (.slice d.W d.nW d.cW)
  have hb := below_new' w (.cells #[.slice d.A d.nB d.cB, .slice d.W d.nW d.cW] 25)
  have HX := Lib.hid hx
  have HB := Lib.hid hb
  have HD := Lib.hid hd
  have HR := Lib.hid hr
  have HL := Lib.hid hl
  clear hx hb hd hr hl
  simp only [Dk.v] at *
  go_enter Try.func7, Try.ntmps7
  go_wp2_with fail
  refine (alive09 _).mono ?_
  rintro e w1 ⟨rfl, b1⟩
  have hx := HX.out.below b1 HX.out.lt
  have HB1 := Lib.hid (below_to HB.out b1 HB.out.size)
  have HX1 := Lib.hid hx
  obtain ⟨x0, x1⟩ := hx.cells
  clear b1 hx HX HB
  go_wp2_with fail
  refine (g_great d w1 (HD.out.below HB1.out)).mono ?_
  rintro e w2 ⟨v, rfl, hv, b2⟩
  have hx := HX1.out.below b2 HX1.out.lt
  have HB2 := Lib.hid (below_to HB1.out b2 HB1.out.size)
  have HX2 := Lib.hid hx
  clear x0 x1 b2 HX1 HB1 hx
  cases v with
  | true =>
    clear hv
    go_wp2
    go_ret
    exact ⟨rfl, HB2.out⟩
  | false =>
    obtain ⟨g1, g2⟩ := hv rfl
    have HG1 := Lib.hid g1
    have HG2 := Lib.hid g2
    clear hv g1 g2
    by_cases hk : n > 5000
    · have hk1 : (5000 : Int) < (n : Int) := by omega
      clear hk
      go_wp2
      go_ret
      exact ⟨rfl, HB2.out⟩
    · have HK := Lib.hid hk
      have hk1 : decide ((5000 : Int) < (n : Int)) = false := by simp; omega
      by_cases h0 : wh < 0
      · clear hk
        go_wp2
        go_ret
        exact ⟨rfl, HB2.out⟩
      · have h0d : decide (wh < 0) = false := by simp; omega
        by_cases h1 : (n : Int) ≤ wh
        · clear hk
          go_wp2
          go_ret
          exact ⟨rfl, HB2.out⟩
        · have h1d : decide ((n : Int) ≤ wh) = false := by simp; omega
          obtain ⟨j, rfl⟩ : ∃ j : Nat, wh = (j : Int) := ⟨wh.toNat, by omega⟩
          have hjn : j < n := by omega
          have HR2 := Lib.hid (HR.out.below HB2.out)
          have HJ := Lib.hid hjn
          clear hk h0 h1
          go_wp2_with (at_builtin; go_loud (refine wpList_append_to rfl (.const (.slice none 0 0)) (.tmp 39) rfl okO rfl (Fr.none_ (w := w2) (base := w2.heap.size)) rfl HR2.out (bos_one _) n (by omega) (bos keep) rfl (by have := HK.out; unfold maxLen; omega) (by have := HK.out; omega) (Nat.le_refl _) ?_; intro D dd w3 f3 g3 _; obtain ⟨g, rfl, hgb, hgl⟩ := f3.form (by have := f3.nc; omega); obtain ⟨u, hu, hcu⟩ := f3.cell (i := j) hjn; have hfz := f3.frozen (i := j) hjn; have hj0 : ¬ ((j : Int) < 0) := (by omega); have hj1 : (j : Int) < (n : Int) := (by omega); have HF3 := Lib.hid f3; have HG3 := Lib.hid g3; have hb3 := grown_below g3 (Nat.le_refl _) (fun q hq => by rw [rowOf_zero] at hq; cases hq); have HB3 := Lib.hid hb3; have HGB := Lib.hid hgb; have hgne : w.heap.size ≠ g := (by have := HX2.out.lt; omega); have hx4 := (HX2.out.below hb3 HX2.out.lt).set ⟨g, j, none⟩ (Ne.symm hgne) (.bool true); have HX4 := Lib.hid hx4; obtain ⟨x0, x1⟩ := hx4.cells; clear hu hgl f3 g3 hb3 hgb hx4))
          have hf4 := HF3.out.set (by have := HF3.out.nc; omega) j (.bool true)
          rw [bos_set] at hf4
          have hb4 := (below_to HB2.out HB3.out HB2.out.size).setCell (p := ⟨g, j, none⟩) (by have := HX2.out.lt; have := HGB.out; simp; omega) (.bool true)
          obtain ⟨W4, hW4⟩ : ∃ V, V = w3.setCell ⟨g, j, none⟩ (.bool true) := ⟨_, rfl⟩
          rw [← hW4] at hf4 hb4 HX4 x0 x1 ⊢
          have HF4 := Lib.hid hf4
          have HB4 := Lib.hid hb4
          obtain ⟨E, hE⟩ : ∃ E, E = errG d.c (decide (n = d.nW)) := ⟨_, rfl⟩
          have hd4 := HD.out.below HB4.out
          have hcr := d_crash d W4 hd4 (by have := HG1.out; omega) (by have := HG2.out; omega) K n kc keep HL.out ((HR.out.below HB4.out).more HB4.out.size) (by have := HK.out; omega) E hE
          have HCR := Lib.hid hcr
          have HE := Lib.hid hE
          clear hf4 hb4 hW4 hE hd4 hcr hcu hfz hk1 h0d h1d HF3 HG3 HB3 HX2 hj0 hj1
          refine HCR.out.mono ?_
          rintro e w5 ⟨da, rfl, hna, hb5⟩
          have hx5 := HX4.out.below hb5 HX4.out.lt
          have HXA := Lib.hid hx5
          obtain ⟨y0, y1⟩ := hx5.cells
          have hxl := hx5.lt
          clear x0 x1 hx5
          have hb6 := below_new' w5 (.cells #[.slice da.A da.nB da.cB, .slice da.W da.nW da.cW] 25)
          have hya := DkBox.new w5 (.slice da.A da.nB da.cB) (.slice da.W da.nW da.cW)
          have HB6 := Lib.hid (below_to (below_to HB4.out hb5 HB4.out.size) hb6 (below_to HB4.out hb5 HB4.out.size).size)
          have HNA := Lib.hid (hna.below hb6)
          have hr6 := ((HF4.out.rd.below hb5).below (hb6.mono hb5.size)).more (B' := (w5.alloc (.cells #[.slice da.A da.nB da.cB, .slice da.W da.nW da.cW] 25)).heap.size) (Nat.le_trans hb5.size hb6.size)
          have hjl : j < keep.length := by rw [HL.out]; exact HJ.out
          have hcr2 := d_crash d _ (HD.out.below HB6.out) (by have := HG1.out; omega) (by have := HG2.out; omega) (some ⟨g, 0, none⟩) n dd (keep.set j true) (by rw [List.length_set]; exact HL.out) hr6 (by have := HK.out; omega) E HE.out
          have HCR2 := Lib.hid hcr2
          have HYA := Lib.hid hya
          have HXA6 := Lib.hid (HXA.out.below hb6 HXA.out.lt)
          clear hr6 hcr2 hya hb6 hb5 hna HCR HX4 HF4
          go_wp2_with fail
          refine HCR2.out.mono ?_
          rintro e w7 ⟨db, rfl, hnb, hb7⟩
          have HB7 := Lib.hid (below_to HB6.out hb7 HB6.out.size)
          have HXA7 := Lib.hid (HXA6.out.below hb7 HXA6.out.lt)
          have HYA7 := Lib.hid (HYA.out.below hb7 HYA.out.lt)
          have HNA7 := Lib.hid (HNA.out.below hb7)
          have HNB := Lib.hid hnb
          clear y0 y1 hxl hnb hb7 HCR2 HXA6 HYA HNA HXA
          by_cases he : E = 0
          · subst he
            obtain ⟨hm, hnw⟩ := errG_zero HE.out.symm
            have hnw : n = d.nW := of_decide_eq_true hnw
            rw [if_pos rfl] at HNA7 HNB
            have hd7 := HD.out.below HB7.out
            obtain ⟨x, b2, off2, hW, hb2, c0, c1, hxs, hxa, hcw⟩ := hd7.write_ (k := j) (by rw [← hnw]; exact HJ.out)
            obtain ⟨x0, x1⟩ := HXA7.out.cells
            have hxl := HXA7.out.lt
            rw [hW] at x1
            have hj0 : ¬ ((j : Int) < 0) := by omega
            have hj1 : (j : Int) < (d.nW : Int) := by have := HJ.out; omega
            obtain ⟨W9, hW9⟩ : ∃ V, V = (w7.alloc (.cells #[.slice db.A db.nB db.cB, .slice db.W db.nW db.cW] 25)).alloc (.cells #[.int .i64 x.a, .slice x.s.A x.s.n x.s.c] 54) := ⟨_, rfl⟩
            have hb9 : Below w7.heap.size w7 W9 := by rw [hW9]; exact (below_new' w7 _).alloc (by simp) _
            have hyb : DkBox W9 w7.heap.size (.slice db.A db.nB db.cB) (.slice db.W db.nW db.cW) := by rw [hW9]; exact (DkBox.new w7 _ _).alloc _
            have hyw : WtBox W9 (w7.heap.size + 1) (.int .i64 x.a) (.slice x.s.A x.s.n x.s.c) := by
              rw [hW9]
              have := WtBox.new (w7.alloc (.cells #[.slice db.A db.nB db.cB, .slice db.W db.nW db.cW] 25)) (.int .i64 x.a) (.slice x.s.A x.s.n x.s.c)
              rw [World.size_alloc] at this
              exact this
            have HYA9 := Lib.hid (HYA7.out.below hb9 HYA7.out.lt)
            have HYB9 := Lib.hid hyb
            have HYW9 := Lib.hid hyw
            have HNA9 := Lib.hid (HNA7.out.below hb9)
            have HNB9 := Lib.hid (HNB.out.below hb9)
            have HXS9 := Lib.hid (hxs.below hb9)
            have HB9 := Lib.hid (below_to HB7.out hb9 HB7.out.size)
            have HW9 := Lib.hid hW9
            have HM := Lib.hid hm
            have HNW := Lib.hid hnw
            have HCW := Lib.hid hcw
            have HJL := Lib.hid hjl
            clear hd7 hW hxs hxa hb9 hyb hyw hW9 hm hnw hcw HYA7 HNA7 HNB HB6 HB7 hjl
            go_wp2
            rw [← HW9.out]
            clear x0 x1 hxl c0 c1 hb2 hj0 hj1 HW9 HXA7
            go_loopw [14] (fun q wr => MkR W9 q wr) (fun q _ => 256 - (intOf q).toNat)
            case atStart => exact ⟨0, Nat.zero_le _, rfl, Below.refl _ _⟩
            case round =>
              obtain ⟨k, hk, rfl, hbr⟩ := hrel
              have HBR := Lib.hid hbr
              clear hbr
              by_cases hlt : k < 256
              · obtain ⟨pa1, pa2⟩ := HNA9.out.ok.sizes HNA9.out.cc (Ct.left_may HM.out _)
                obtain ⟨pb1, pb2⟩ := HNB9.out.ok.sizes HNB9.out.cc (Ct.left_may HM.out _)
                obtain ⟨sa, ba, oa, hA, hba, ca, hsa, hla, -⟩ := (HNA9.out.below HBR.out).ok.block (k := k) (by omega)
                obtain ⟨sb, bb, ob, hA', hbb, cb, hsb, hlb, -⟩ := (HNB9.out.below HBR.out).ok.block (k := k) (by omega)
                have hwa := wantL_end HM.out (markB keep) hlt
                have hwb := wantL_end HM.out (markB (keep.set j true)) hlt
                rw [← HNA9.out.cc, hla] at hwa
                rw [← HNB9.out.cc, hlb] at hwb
                have hmk := markB_set HJL.out
                have hmore := wantL_more (x := (x.a, x.s.l)) hmk.1 hmk.2 HCW.out (k : Int) d.c.w.length
                rw [← Option.some.inj hwa, ← Option.some.inj hwb] at hmore
                have HMORE := Lib.hid hmore
                have ya := (HYA9.out.below HBR.out HYA9.out.lt)
                have yb := (HYB9.out.below HBR.out HYB9.out.lt)
                have yw := (HYW9.out.below HBR.out HYW9.out.lt)
                obtain ⟨a0, a1⟩ := ya.cells
                obtain ⟨b0, b1⟩ := yb.cells
                obtain ⟨v0, v1⟩ := yw.cells
                rw [hA] at a0
                rw [hA'] at b0
                have cva := fun m => conv (hsa.2.1.drewN m) sa.c
                have cvb := fun m => conv (hsb.2.1.drewN m) sb.c
                have cvx2 := fun m => conv ((HXS9.out.below HBR.out).2.1.drewN m) x.s.c
                have CVX := Lib.hid cvx2
                clear cvx2
                have k0 : ¬ ((k : Int) < 0) := by omega
                have k1 : (k : Int) < (da.nB : Int) := by omega
                have k2 : (k : Int) < (db.nB : Int) := by omega
                have hlti : (k : Int) < 256 := by omega
                clear pa1 pa2 pb1 pb2 hA hba hsa hla hA' hbb hsb hlb hwa hwb hmk hmore ya yb yw
                by_cases hq : sa.l = sb.l
                · have hq2 : (sa.l == sb.l) = true := by simp [hq]
                  clear hq HMORE CVX
                  go_wp2
                  go_quiet (fail)
                  go_wp2
                  go_quiet (fail)
                  go_wp2
                  go_roundw
                  case rel => exact ⟨k + 1, by omega, by simp, below_drewN HBR.out _⟩
                  case measure => simp [intOf]; omega
                · obtain ⟨hxk0, hxl⟩ := HMORE.out hq
                  have hq2 : (sa.l == sb.l) = false := by simp [hq]
                  have hxk : x.a = (k : Int) := hxk0
                  have cvx3 : ∀ m, (convert 41 9 (.slice x.s.A x.s.n x.s.c)).run Try.prog (wr.drewN m) = .ok (.string (str sb.l)) (wr.drewN m) := fun m => by
                    rw [hxl]
                    exact CVX.out m
                  rw [hxk] at v0
                  have hkk : ((k : Int) != (k : Int)) = false := by simp
                  clear hq HMORE hxk hxk0 hxl CVX
                  go_wp2
                  go_quiet (fail)
                  go_wp2
                  go_quiet (fail)
                  go_wp2
                  go_roundw
                  case rel => exact ⟨k + 1, by omega, by simp, below_drewN HBR.out _⟩
                  case measure => simp [intOf]; omega
              · obtain rfl : k = 256 := by omega
                go_wp2
                go_ret
                exact ⟨rfl, below_to HB9.out HBR.out HB9.out.size⟩
          · have he2 : (E != 0) = true := by simp [he]
            have hb8 := below_new' w7 (.cells #[.slice db.A db.nB db.cB, .slice db.W db.nW db.cW] 25)
            have HB8 := Lib.hid (below_to HB7.out hb8 HB7.out.size)
            clear he hb8
            go_wp2
            go_ret
            exact ⟨rfl, HB8.out⟩
end Go.Proofs.Ytkaklppkmokffaa
