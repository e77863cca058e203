/-
  The walk of DevSeen.
-/
import Derived.Test.YtkaklppkmokffaaLaw09b
import Derived.BigQuiet
namespace Go.Proofs.Ytkaklppkmokffaa
open Go.RowKit
set_option linter.unusedVariables false
set_option linter.unusedSimpArgs false
set_option maxRecDepth 100000
attribute [local go_sem] str_toList toList_mk

/-! ### plain -/
def allT : Nat → Bool := fun _ => true
theorem lastI_preS {α : Type} (l m : List α) (key : α → Int) (so : Nat → Bool) (a : Int) : ∀ i, i ≤ l.length → lastI (l ++ m) key so a i = lastI l key so a i
  | 0, _ => rfl
  | i + 1, h => by
    unfold lastI
    rw [List.getElem?_append_left (by omega), lastI_preS l m key so a i (by omega)]
theorem wantL_write (c : Ct) (at_ : Int) (b : List UInt8) (k : Int) : wantL (c.write at_ b) allT k (c.write at_ b).w.length = if at_ = k then b else wantL c allT k c.w.length := by
  have hl : (c.write at_ b).w.length = c.w.length + 1 := by show (c.w ++ [_]).length = _; rw [List.length_append]; rfl
  rw [hl]
  unfold wantL
  show (match lastI (c.w ++ [(at_, b)]) Prod.fst allT k (c.w.length + 1) with | some x => x.2 | none => _) = _
  rw [lastI]
  simp only [List.getElem?_append_right (Nat.le_refl _), Nat.sub_self, List.getElem?_cons_zero, allT, true_and]
  by_cases e : at_ = k
  · simp [e]
  · simp only [e, if_false]
    rw [lastI_preS _ _ _ _ _ _ (Nat.le_refl _)]
    rfl
theorem left_getD {c : Ct} (h : c.May) {k : Nat} (hk : k < 256) : (c.left fun _ => true).b.getD ((k : Int)).toNat [] = wantL c allT (k : Int) c.w.length := by
  rw [Int.toNat_natCast, List.getD_eq_getElem?_getD]
  have := wantL_end h allT hk
  show Option.getD (c.left allT).b[k]? [] = _
  rw [this]
  rfl
theorem errW_zero {c : Ct} (h : c.May) {at_ : Int} {m : Nat} (he : errW c at_ m = 0) : (0 ≤ at_ ∧ at_ < 256) ∧ m = 256 ∧ c.w.length < 4096 := by
  unfold errW at he
  split at he
  · rename_i h1
    obtain ⟨_, h2⟩ := errG_zero h1
    split at he
    · split at he
      · cases he
      · exact ⟨of_decide_eq_true h2, by assumption, by have := h.2.2.1; omega⟩
    · cases he
  · rename_i h1
    exact absurd he h1
set_option maxHeartbeats 4000000 in
theorem devSeen_walk (d : Dk) (at_ : Int) (o : UInt8) (s : Sl) (w : World) (hd : d.ok w) (hat : I64 at_) (hs : s.came w) :
    Calls Try.prog 8 #[d.v, .int .i64 at_, .int .u8 (o.toNat : Int), .slice s.A s.n s.c] w fun e w' => e = .returned (.bool true) ∧ Below w.heap.size w w' := by
  have hx := DkBox.new w (.slice d.A d.nB d.cB) (.slice d.W d.nW d.cW)
  have hb := below_new' w (.cells #[.slice d.A d.nB d.cB, .slice d.W d.nW d.cW] 25)
  obtain ⟨k, hko⟩ : ∃ k, k = o.toNat := ⟨_, rfl⟩
  have hk : k < 256 := by rw [hko]; exact o.toNat_lt
  rw [← hko]
  have HX := Lib.hid hx
  have HB := Lib.hid hb
  have HD := Lib.hid hd
  have HAT := Lib.hid hat
  have HS := Lib.hid hs
  have HK := Lib.hid hk
  have hk64 : IntKind.i64.wrap (k : Int) = (k : Int) := by rw [IntKind.wrap_i64]; omega
  clear hx hb hd hat hs hk hko
  simp only [Dk.v] at *
  go_enter Try.func8, Try.ntmps8
  go_wp2_with fail
  refine (alive09 _).mono ?_
  rintro e w1 ⟨rfl, b1⟩
  have hx := HX.out.below b1 HX.out.lt
  have HB1 := Lib.hid (below_to HB.out b1 HB.out.size)
  have HX1 := Lib.hid hx
  obtain ⟨x0, x1⟩ := hx.cells
  clear b1 hx HX HB
  go_wp2_with fail
  refine (g_great d w1 (HD.out.below HB1.out)).mono ?_
  rintro e w2 ⟨vg, rfl, hv, b2⟩
  have hx := HX1.out.below b2 HX1.out.lt
  have HB2 := Lib.hid (below_to HB1.out b2 HB1.out.size)
  have HX2 := Lib.hid hx
  clear x0 x1 b2 HX1 HB1
  obtain ⟨x0, x1⟩ := hx.cells
  clear hx
  cases vg with
  | true =>
    clear hv
    go_wp2
    go_ret
    exact ⟨rfl, HB2.out⟩
  | false =>
    obtain ⟨g1, g2⟩ := hv rfl
    have HG1 := Lib.hid g1
    have HG2 := Lib.hid g2
    clear hv g1 g2
    by_cases hn : s.n > 10000
    · have hn1 : (10000 : Int) < (s.n : Int) := by omega
      clear hn
      go_wp2
      go_ret
      exact ⟨rfl, HB2.out⟩
    · have hn1 : decide ((10000 : Int) < (s.n : Int)) = false := by simp; omega
      have HN := Lib.hid hn
      clear hn
      have hck := fun E hE => d_check d w2 (HD.out.below HB2.out) E hE (by have := HG1.out; omega) (by have := HG2.out; omega)
      by_cases hm : d.c.May
      · have hck0 := hck 0 (by rw [if_pos hm])
        simp only [Dk.v] at hck0
        have HCK := Lib.hid hck0
        have HM := Lib.hid hm
        clear hck hck0 hm
        go_wp2_with fail
        refine HCK.out.mono ?_
        rintro e w3 ⟨rfl, b3⟩
        have hx := HX2.out.below b3 HX2.out.lt
        have HB3 := Lib.hid (below_to HB2.out b3 HB2.out.size)
        have HX3 := Lib.hid hx
        clear x0 x1 b3 HX2 HB2 HCK hn1
        obtain ⟨x0, x1⟩ := hx.cells
        clear hx
        have hfl := d_flush d w3 (HD.out.below HB3.out) (by have := HG1.out; omega) (by have := HG2.out; omega) 0 (errG_ok HM.out).symm
        simp only [Dk.v] at hfl
        have HFL := Lib.hid hfl
        clear hfl
        go_wp2_with fail
        refine HFL.out.mono ?_
        rintro e w4 ⟨f, rfl, hnf, b4⟩
        rw [if_pos rfl] at hnf
        have hb5 := below_new' w4 (.cells #[.slice f.A f.nB f.cB, .slice f.W f.nW f.cW] 25)
        have HB5 := Lib.hid (below_to (below_to HB3.out b4 HB3.out.size) hb5 (below_to HB3.out b4 HB3.out.size).size)
        have HNF := Lib.hid (hnf.below hb5)
        have hx4 := HX3.out.below b4 HX3.out.lt
        have hxl := hx4.lt
        have HX5 := Lib.hid (hx4.below hb5 hx4.lt)
        have HY5 := Lib.hid (DkBox.new w4 (.slice f.A f.nB f.cB) (.slice f.W f.nW f.cW))
        clear x0 x1 b4 hb5 hnf HX3 HB3 HFL
        obtain ⟨x0, x1⟩ := hx4.cells
        clear hx4
        have hpl : decide (0 ≤ (k : Int) ∧ (k : Int) < 256) = true := decide_eq_true (by have := HK.out; omega)
        have hk6 : I64 (k : Int) := ⟨by omega, by have := HK.out; omega⟩
        have HK6 := Lib.hid hk6
        have HPL := Lib.hid hpl
        clear hk6 hpl
        have hr1 := d_read d _ (HD.out.below HB5.out) (by have := HG1.out; omega) (by have := HG2.out; omega) (k : Int) HK6.out 0 (by rw [HPL.out]; exact (errG_ok HM.out).symm)
        simp only [Dk.v] at hr1
        have HR1 := Lib.hid hr1
        clear hr1
        go_wp2_with fail
        refine HR1.out.mono ?_
        rintro e w6 ⟨sx, rfl, hsx, -, hlx, b6⟩
        have hx6 := HX5.out.below b6 HX5.out.lt
        have hy6 := HY5.out.below b6 HY5.out.lt
        have HX6 := Lib.hid hx6
        have HY6 := Lib.hid hy6
        have HB6 := Lib.hid (below_to HB5.out b6 HB5.out.size)
        have HNF6 := Lib.hid (HNF.out.below b6)
        have HSX := Lib.hid hsx
        have hlx2 : sx.l = wantL d.c allT (k : Int) d.c.w.length := by
          simp only [if_true] at hlx
          exact hlx.trans (left_getD HM.out HK.out)
        have HLX := Lib.hid hlx2
        clear x0 x1 hxl b6 hx6 hsx hlx hlx2 HX5 HY5 HB5 HNF HR1
        obtain ⟨y0, y1⟩ := hy6.cells
        clear hy6
        obtain ⟨z1, z2⟩ := HNF6.out.ok.sizes HNF6.out.cc (Ct.left_may HM.out _)
        have z3 : f.nW = 0 := z2
        have hr2 := d_read f w6 HNF6.out.ok (by omega) (by omega) (k : Int) HK6.out 0 (by rw [HPL.out, HNF6.out.cc]; exact (errG_ok (Ct.left_may HM.out _)).symm)
        rw [HNF6.out.cc, Ct.left_left] at hr2
        simp only [Dk.v] at hr2
        have HR2 := Lib.hid hr2
        have HZ1 := Lib.hid z1
        clear hr2 z1 z2 z3
        go_wp2_with fail
        refine HR2.out.mono ?_
        rintro e w7 ⟨sy, rfl, hsy, -, hly, b7⟩
        have hly2 : sy.l = wantL d.c allT (k : Int) d.c.w.length := by
          simp only [if_true] at hly
          exact hly.trans (left_getD HM.out HK.out)
        have hx7 := HX6.out.below b7 HX6.out.lt
        have hy7 := HY6.out.below b7 HY6.out.lt
        have HX7 := Lib.hid hx7
        have HB7 := Lib.hid (below_to HB6.out b7 HB6.out.size)
        have hnf7 := HNF6.out.below b7
        obtain ⟨sf, bf, of_, hA, hbf, hcf, hsf, hlf, -⟩ := hnf7.ok.block (k := k) (by have := HZ1.out; have := HK.out; omega)
        have hlf2 : sf.l = wantL d.c allT (k : Int) d.c.w.length := by
          rw [hnf7.cc] at hlf
          exact Option.some.inj (hlf.symm.trans (wantL_end HM.out allT HK.out))
        obtain ⟨L, hL⟩ : ∃ L, L = wantL d.c allT (k : Int) d.c.w.length := ⟨_, rfl⟩
        have HSX7 := Lib.hid (HSX.out.below b7)
        have HLX7 := Lib.hid HLX.out
        rw [← hL] at hly2 hlf2 HLX7
        have cvx := fun m => conv (HSX7.out.2.1.drewN m) sx.c
        have cvy := fun m => conv (hsy.2.1.drewN m) sy.c
        have cvf := fun m => conv (hsf.2.1.drewN m) sf.c
        rw [HLX7.out] at cvx
        rw [hly2] at cvy
        rw [hlf2] at cvf
        clear y0 y1
        obtain ⟨y0, y1⟩ := hy7.cells
        rw [hA] at y0
        have hlt7 : ¬ ((k : Int) < 0) := by omega
        have hlt8 : (k : Int) < (f.nB : Int) := by have := HZ1.out; have := HK.out; omega
        have HLW := Lib.hid hL
        clear hx7 hy7 hnf7 hA hbf hsf hlf hlf2 hly hly2 hsy b7 hL HX6 HY6 HB6 HNF6 HSX HLX HR2
        go_wp2
        go_quiet (fail)
        clear y0 y1 hcf cvy cvf hlt7 hlt8
        have hx8 : DkBox (w7.drewN nq) w.heap.size (.slice d.A d.nB d.cB) (.slice d.W d.nW d.cW) := HX7.out
        have hb8 : Below w.heap.size w (w7.drewN nq) := below_drewN HB7.out nq
        have hsx8 : sx.came (w7.drewN nq) := HSX7.out
        obtain ⟨x0, x1⟩ := HX7.out.cells
        have HX8 := Lib.hid hx8
        have HB8 := Lib.hid hb8
        have HSX8 := Lib.hid hsx8
        obtain ⟨E, hE⟩ : ∃ E, E = errW d.c at_ s.l.length := ⟨_, rfl⟩
        have hwr := d_write d _ (HD.out.below HB8.out) (by have := HG1.out; omega) (by have := HG2.out; omega) at_ HAT.out s (HS.out.below HB8.out) (by have := HN.out; omega) E hE
        simp only [Dk.v] at hwr
        have HWR := Lib.hid hwr
        have HE := Lib.hid hE
        clear hx8 hb8 hsx8 hE hwr HX7 HB7 HSX7 cvx
        go_wp2_with fail
        refine HWR.out.mono ?_
        rintro e w9 ⟨d', rfl, hn9, b9⟩
        have hb10 := below_new' w9 (.cells #[.slice d'.A d'.nB d'.cB, .slice d'.W d'.nW d'.cW] 25)
        have hx9 := HX8.out.below b9 HX8.out.lt
        have hxl := hx9.lt
        have HB10 := Lib.hid (below_to (below_to HB8.out b9 HB8.out.size) hb10 (below_to HB8.out b9 HB8.out.size).size)
        have HN10 := Lib.hid (hn9.below hb10)
        have HY10 := Lib.hid (DkBox.new w9 (.slice d'.A d'.nB d'.cB) (.slice d'.W d'.nW d'.cW))
        have HSX10 := Lib.hid ((HSX8.out.below b9).below hb10)
        clear x0 x1
        obtain ⟨x0, x1⟩ := hx9.cells
        have hlw : d.c.w.length = d.nW := by rw [Dk.c_w, List.length_map, HD.out.lw]
        have hsl := HS.out.1
        have hmw := HM.out.2.2.1
        by_cases hE0 : E = 0
        · subst hE0
          obtain ⟨⟨q1, q2⟩, q3, q4⟩ := errW_zero HM.out HE.out.symm
          have r1 : ((d.nW : Int) < 4096) := by omega
          have r2 : (0 : Int) ≤ at_ := q1
          have r3 : at_ < 256 := q2
          have r4 : ((s.n : Int) == 256) = true := by simp; omega
          rw [if_pos rfl] at HN10
          have hmw' := Ct.write_may HM.out ⟨q1, q2⟩ q3 q4
          have HMW := Lib.hid hmw'
          obtain ⟨t1, t2⟩ := HN10.out.ok.sizes HN10.out.cc hmw'
          have t3 : (d.c.write at_ s.l).w.length = d.c.w.length + 1 := by show (d.c.w ++ [_]).length = _; rw [List.length_append]; rfl
          have hr3 := d_read d' _ HN10.out.ok (by omega) (by omega) (k : Int) HK6.out 0 (by rw [HPL.out, HN10.out.cc]; exact (errG_ok hmw').symm)
          rw [HN10.out.cc] at hr3
          simp only [Dk.v] at hr3
          have HR3 := Lib.hid hr3
          clear hn9 b9 hb10 hx9 hlw hsl hmw q1 q2 q3 q4 hmw' t1 t2 t3 hr3 HN10 HX8 HB8 HSX8 HWR HE
          go_wp2_with fail
          refine HR3.out.mono ?_
          rintro e w11 ⟨sz, rfl, hsz, -, hlz, b11⟩
          have hlz2 : sz.l = if at_ = (k : Int) then s.l else L := by
            simp only [if_true] at hlz
            rw [hlz, left_getD HMW.out HK.out, wantL_write, HLW.out]
          have cvz := conv hsz.2.1 sz.c
          have cvx := conv (HSX10.out.below b11).2.1 sx.c
          rw [HLX7.out] at cvx
          have HB11 := Lib.hid (below_to HB10.out b11 HB10.out.size)
          have cvs := conv (HS.out.below HB11.out).2.1 s.c
          clear x0 x1 hxl hsz hlz b11 HR3 r1 r2 r3 r4
          by_cases ha : at_ = (k : Int)
          · rw [if_pos ha] at hlz2
            rw [hlz2] at cvz
            have ha2 : ((k : Int) == at_) = true := by simp [ha]
            have HA := Lib.hid ha
            clear ha hlz2 cvx
            go_wp2
            go_ret
            exact ⟨rfl, HB11.out⟩
          · rw [if_neg ha] at hlz2
            rw [hlz2] at cvz
            have ha2 : ((k : Int) == at_) = false := by simp; omega
            clear ha hlz2 cvs
            go_wp2
            go_ret
            exact ⟨rfl, HB11.out⟩
        · have he2 : (E == 0) = false := by simp [hE0]
          have he3 : (E != 0) = true := by simp [hE0]
          have hz := HN10.out
          rw [if_neg hE0] at hz
          obtain ⟨z1, z2⟩ := hz.none_
          have z3 : ((d'.nB : Int) == 0) = true := by rw [z1]; rfl
          have hno : ¬ ((0 ≤ at_ ∧ at_ < 256) ∧ s.n = 256 ∧ d.nW < 4096) := by
            rintro ⟨h1, h2, h3⟩
            refine hE0 ?_
            rw [HE.out]
            exact errW_ok HM.out h1 (by omega) (by omega)
          have HNO := Lib.hid hno
          clear hz z1 z2 hn9 b9 hb10 hx9 hlw hsl hmw HN10 HX8 HB8 HSX8 HWR HE hE0 hno
          by_cases r1 : d.nW < 4096
          · have r1' : (d.nW : Int) < 4096 := by omega
            by_cases r2 : at_ < 0
            · have r2' : decide (0 ≤ at_) = false := by simp; omega
              clear r1 r2
              go_wp2
              go_ret
              exact ⟨rfl, HB10.out⟩
            · have r2' : (0 : Int) ≤ at_ := by omega
              by_cases r3 : at_ < 256
              · have r4 : ((s.n : Int) == 256) = false := by
                  simp
                  intro h
                  exact HNO.out ⟨⟨r2', r3⟩, by omega, r1⟩
                clear r1 r2
                go_wp2
                go_ret
                exact ⟨rfl, HB10.out⟩
              · have r3' : decide (at_ < 256) = false := by simp; omega
                clear r1 r2 r3
                go_wp2
                go_ret
                exact ⟨rfl, HB10.out⟩
          · have r1' : decide ((d.nW : Int) < 4096) = false := by simp; omega
            clear r1
            go_wp2
            go_ret
            exact ⟨rfl, HB10.out⟩
      · have hck8 := hck 8 (by rw [if_neg hm])
        simp only [Dk.v] at hck8
        have HCK := Lib.hid hck8
        clear hck hck8 hm
        go_wp2_with fail
        refine HCK.out.mono ?_
        rintro e w3 ⟨rfl, b3⟩
        have HB3 := Lib.hid (below_to HB2.out b3 HB2.out.size)
        clear b3
        go_wp2
        go_ret
        exact ⟨rfl, HB3.out⟩
end Go.Proofs.Ytkaklppkmokffaa
