/-
  The walk of ObjParts.
-/
import Derived.Test.YtgcagenhfddpgaaLaw14b
import Derived.Test.YtgcagenhfddpgaaRef10c
namespace Go.Proofs.Ytgcagenhfddpgaa
open Go.RowKit
set_option linter.unusedVariables false
set_option linter.unusedSimpArgs false
set_option maxRecDepth 100000
attribute [local go_sem] str_toList toList_mk

theorem run_str_eql (a b : List UInt8) (v : Bool) (h : (a == b) = v) (w : World) : (binOp .eql 9 (.string (str a)) (.string (str b))).run Try.prog w = .ok (.bool v) w := by
  subst h
  simp [go_sem]
theorem run_str_neq (a b : List UInt8) (v : Bool) (h : (!(a == b)) = v) (w : World) : (binOp .neq 9 (.string (str a)) (.string (str b))).run Try.prog w = .ok (.bool v) w := by
  subst h
  by_cases hab : a = b <;> simp [go_sem, hab]
theorem stp_mko {P : Program} {ops : Array Oper} {o : Oper} {a : Act} {w : World} {Kd : Act → World → Prop} {Q : Exit → Act → World → Prop} {E : Prop} (v : Nat → Value) (ob : Obj) (hw : Region.wanted o (yielded ops a.tmps) = true) (hr : (execOp a.eval o).run P w = .ok (.value (v w.heap.size)) (w.alloc ob))
    (hK : ∀ g w', Hid (w.heap.size = g ∧ g < w'.heap.size ∧ w'.heap[g]? = some ob) → Hid (Below w.heap.size w w') → Kd (a.put o.dst (v g)) w') : Stp P ops o a w Kd Q E := by
  refine ⟨?_⟩
  rw [if_pos hw]
  unfold Oper.wp
  rw [hr]
  exact hK _ _ (Lib.hid ⟨rfl, by simp, heap_alloc_new w ob⟩) (Lib.hid ((Below.refl _ w).alloc (Nat.le_refl _) ob))
/-- A block and its parts. -/
structure BlkOf (Kd L S : Int) (l : List Pt) (a : List UInt8) : Prop where
  len : a.length = 256
  k0 : (bvs a)[0]? = some (.int .u8 Kd)
  k1 : (bvs a)[1]? = some (.int .u8 L)
  num2 : (num ((a.drop 2).take 2) : Int) = S
  mid : (a.drop 4).take 12 = noughts 12
  pce : ∀ i (h : i < l.length), (a.drop (16 + 16 * i)).take 16 = (l[i]).bytes
theorem BlkOf.of {Kd L S : Int} {l : List Pt} (h : ObMay Kd L S l) (hu : AllU l) : BlkOf Kd L S l (obB Kd L S l) := by
  obtain ⟨hok, e0, e1, e2, e3⟩ := read_block h hu
  have hl := hok.1
  have hb : ∀ i, i < 256 → (bvs (obB Kd L S l))[i]? = some (.int .u8 (byteN (obB Kd L S l) i : Int)) := fun i hi => by
    rw [bvs_get, List.getElem?_eq_getElem (by omega)]
    simp [byteN, bv, List.getD_eq_getElem?_getD, List.getElem?_eq_getElem (show i < (obB Kd L S l).length by omega)]
  refine ⟨hl, by rw [hb 0 (by omega), e0], by rw [hb 1 (by omega), e1], e2, hok.2.2.1, fun i hi => ?_⟩
  have hj := joined_rdData hl
  rw [e3] at hj
  have hp := piece16_joined l i hi
  rw [piece16, hj, List.drop_drop] at hp
  exact hp
theorem bytes_beq {p q : Pt} (hp : p.May) (hpu : p.U) (hq : q.May) (hqu : q.U) : (p.bytes == q.bytes) = decide (p = q) := by
  rw [Bool.eq_iff_iff, beq_iff_eq, decide_eq_true_iff]
  constructor
  · intro h
    have := congrArg rd16 h
    rwa [rd16_bytes hp hpu, rd16_bytes hq hqu] at this
  · rintro rfl
    rfl
theorem num2_beq {x y : List UInt8} (hx : x.length = 2) (hy : y.length = 2) : (x == y) = decide ((num x : Int) = (num y : Int)) := by
  rw [Bool.eq_iff_iff, beq_iff_eq, decide_eq_true_iff]
  constructor
  · rintro rfl
    rfl
  · intro h
    have h1 := le_num x
    have h2 := le_num y
    rw [hx] at h1
    rw [hy] at h2
    rw [← h1, ← h2, Int.ofNat.inj h]
theorem blk_beq {Kd L S Kd' L' S' : Int} {l l' : List Pt} (h : ObMay Kd L S l) (hu : AllU l) (h' : ObMay Kd' L' S' l') (hu' : AllU l') : (obB Kd L S l == obB Kd' L' S' l') = decide (Kd = Kd' ∧ L = L' ∧ S = S' ∧ l = l') := by
  rw [Bool.eq_iff_iff, beq_iff_eq, decide_eq_true_iff]
  obtain ⟨-, e0, e1, e2, e3⟩ := read_block h hu
  obtain ⟨-, f0, f1, f2, f3⟩ := read_block h' hu'
  constructor
  · intro he
    rw [he] at e0 e1 e2 e3
    exact ⟨e0.symm.trans f0, e1.symm.trans f1, e2.symm.trans f2, e3.symm.trans f3⟩
  · rintro ⟨rfl, rfl, rfl, rfl⟩
    rfl

set_option maxHeartbeats 4000000 in
theorem objParts_not1 (Kd L S : Int) (A : Option Addr) (n c : Nat) (l : List Pt) (Kd' L' S' : Int) (A' : Option Addr) (n' c' : Nat) (l' : List Pt) (w : World) (hl : l.length = n) (hU : AllU l) (hr : Rd w w.heap.size 5 A n (pcs l)) (hK8 : 0 ≤ Kd ∧ Kd ≤ 255) (hl' : l'.length = n') (hU' : AllU l') (hr' : Rd w w.heap.size 5 A' n' (pcs l')) (hK8' : 0 ≤ Kd' ∧ Kd' ≤ 255) (hm : ¬ ObMay Kd L S l) :
    Calls Try.prog 15 #[.agg #[.int .u8 Kd, .int .i64 L, .int .i64 S, .slice A n c], .agg #[.int .u8 Kd', .int .i64 L', .int .i64 S', .slice A' n' c']] w fun e w' => e = .returned (.bool true) ∧ Below w.heap.size w w' := by
  have hx1 := (ObBox.new w Kd L S (.slice A n c)).alloc (.cells #[.int .u8 Kd', .int .i64 L', .int .i64 S', .slice A' n' c'] 50)
  have hy1 := ObBox.new (w.alloc (.cells #[.int .u8 Kd, .int .i64 L, .int .i64 S, .slice A n c] 50)) Kd' L' S' (.slice A' n' c')
  rw [World.size_alloc] at hy1
  have hb1 : Below w.heap.size w ((w.alloc (.cells #[.int .u8 Kd, .int .i64 L, .int .i64 S, .slice A n c] 50)).alloc (.cells #[.int .u8 Kd', .int .i64 L', .int .i64 S', .slice A' n' c'] 50)) := below_alloc (below_new w _) _ (Nat.le_refl _)
  obtain ⟨W1, hW1⟩ : ∃ V, V = (w.alloc (.cells #[.int .u8 Kd, .int .i64 L, .int .i64 S, .slice A n c] 50)).alloc (.cells #[.int .u8 Kd', .int .i64 L', .int .i64 S', .slice A' n' c'] 50) := ⟨_, rfl⟩
  rw [← hW1] at hx1 hy1 hb1
  have hal := alive14 W1
  rw [hW1] at hal
  have HAL := Lib.hid hal
  have HW1 := Lib.hid hW1
  have HX := Lib.hid hx1
  have HY := Lib.hid hy1
  have HB := Lib.hid hb1
  have HR := Lib.hid hr
  have HR' := Lib.hid hr'
  have HC := Lib.hid (fun V h => obj_check Kd L S A n c l V hl h hK8 8 (obE_no hm))
  clear hx1 hy1 hb1 hal hW1 hr hr' hl hl' hU hU' hK8 hK8' hm
  go_enter Try.func15, Try.ntmps15
  go_wp2_with fail
  refine HAL.out.mono ?_
  rw [← HW1.out]
  clear HW1 HAL
  rintro e w2 ⟨rfl, b2⟩
  have hx2 := HX.out.below b2 HX.out.lt
  have HB2 := Lib.hid (below_to HB.out b2 HB.out.size)
  obtain ⟨x0, x1, x2, x3⟩ := hx2.cells
  clear b2 hx2
  go_wp2_with fail
  refine (HC.out _ ((HR.out.below HB2.out).more HB2.out.size)).mono ?_
  rintro e w3 ⟨rfl, b3⟩
  have HB3 := Lib.hid (below_to HB2.out b3 HB2.out.size)
  clear b3
  go_wp2
  go_ret
  exact ⟨rfl, HB3.out⟩
set_option maxHeartbeats 4000000 in
theorem objParts_not2 (Kd L S : Int) (A : Option Addr) (n c : Nat) (l : List Pt) (Kd' L' S' : Int) (A' : Option Addr) (n' c' : Nat) (l' : List Pt) (w : World) (hl : l.length = n) (hU : AllU l) (hr : Rd w w.heap.size 5 A n (pcs l)) (hK8 : 0 ≤ Kd ∧ Kd ≤ 255) (hl' : l'.length = n') (hU' : AllU l') (hr' : Rd w w.heap.size 5 A' n' (pcs l')) (hK8' : 0 ≤ Kd' ∧ Kd' ≤ 255) (hm : ObMay Kd L S l) (hm' : ¬ ObMay Kd' L' S' l') :
    Calls Try.prog 15 #[.agg #[.int .u8 Kd, .int .i64 L, .int .i64 S, .slice A n c], .agg #[.int .u8 Kd', .int .i64 L', .int .i64 S', .slice A' n' c']] w fun e w' => e = .returned (.bool true) ∧ Below w.heap.size w w' := by
  have hx1 := (ObBox.new w Kd L S (.slice A n c)).alloc (.cells #[.int .u8 Kd', .int .i64 L', .int .i64 S', .slice A' n' c'] 50)
  have hy1 := ObBox.new (w.alloc (.cells #[.int .u8 Kd, .int .i64 L, .int .i64 S, .slice A n c] 50)) Kd' L' S' (.slice A' n' c')
  rw [World.size_alloc] at hy1
  have hb1 : Below w.heap.size w ((w.alloc (.cells #[.int .u8 Kd, .int .i64 L, .int .i64 S, .slice A n c] 50)).alloc (.cells #[.int .u8 Kd', .int .i64 L', .int .i64 S', .slice A' n' c'] 50)) := below_alloc (below_new w _) _ (Nat.le_refl _)
  obtain ⟨W1, hW1⟩ : ∃ V, V = (w.alloc (.cells #[.int .u8 Kd, .int .i64 L, .int .i64 S, .slice A n c] 50)).alloc (.cells #[.int .u8 Kd', .int .i64 L', .int .i64 S', .slice A' n' c'] 50) := ⟨_, rfl⟩
  rw [← hW1] at hx1 hy1 hb1
  have hal := alive14 W1
  rw [hW1] at hal
  have HAL := Lib.hid hal
  have HW1 := Lib.hid hW1
  have HX := Lib.hid hx1
  have HY := Lib.hid hy1
  have HB := Lib.hid hb1
  have HR := Lib.hid hr
  have HR' := Lib.hid hr'
  have HC := Lib.hid (fun V h => obj_check Kd L S A n c l V hl h hK8 0 (obE_yes hm))
  have HC' := Lib.hid (fun V h => obj_check Kd' L' S' A' n' c' l' V hl' h hK8' 8 (obE_no hm'))
  clear hx1 hy1 hb1 hal hW1 hr hr' hl hl' hU hU' hK8 hK8' hm hm'
  go_enter Try.func15, Try.ntmps15
  go_wp2_with fail
  refine HAL.out.mono ?_
  rw [← HW1.out]
  clear HW1 HAL
  rintro e w2 ⟨rfl, b2⟩
  have hx2 := HX.out.below b2 HX.out.lt
  have HB2 := Lib.hid (below_to HB.out b2 HB.out.size)
  have HY2 := Lib.hid (HY.out.below b2 HY.out.lt)
  obtain ⟨x0, x1, x2, x3⟩ := hx2.cells
  clear b2 hx2
  go_wp2_with fail
  refine (HC.out _ ((HR.out.below HB2.out).more HB2.out.size)).mono ?_
  rintro e w3 ⟨rfl, b3⟩
  have HB3 := Lib.hid (below_to HB2.out b3 HB2.out.size)
  have hy3 := HY2.out.below b3 HY2.out.lt
  clear b3 x0 x1 x2 x3
  obtain ⟨y0, y1, y2, y3⟩ := hy3.cells
  clear hy3
  go_wp2_with fail
  refine (HC'.out _ ((HR'.out.below HB3.out).more HB3.out.size)).mono ?_
  rintro e w4 ⟨rfl, b4⟩
  have HB4 := Lib.hid (below_to HB3.out b4 HB3.out.size)
  clear b4
  go_wp2
  go_ret
  exact ⟨rfl, HB4.out⟩
def PaR (W : World) (x : Value) (wr : World) : Prop := ∃ k : Nat, k ≤ 15 ∧ x = .int .i64 (k : Int) ∧ Below W.heap.size W wr
set_option maxHeartbeats 16000000 in
theorem objParts_both (Kd L S : Int) (A : Option Addr) (n c : Nat) (l : List Pt) (Kd' L' S' : Int) (A' : Option Addr) (n' c' : Nat) (l' : List Pt) (w : World) (hl : l.length = n) (hU : AllU l) (hr : Rd w w.heap.size 5 A n (pcs l)) (hK8 : 0 ≤ Kd ∧ Kd ≤ 255) (hl' : l'.length = n') (hU' : AllU l') (hr' : Rd w w.heap.size 5 A' n' (pcs l')) (hK8' : 0 ≤ Kd' ∧ Kd' ≤ 255) (hm : ObMay Kd L S l) (hm' : ObMay Kd' L' S' l') :
    Calls Try.prog 15 #[.agg #[.int .u8 Kd, .int .i64 L, .int .i64 S, .slice A n c], .agg #[.int .u8 Kd', .int .i64 L', .int .i64 S', .slice A' n' c']] w fun e w' => e = .returned (.bool true) ∧ Below w.heap.size w w' := by
  have hx1 := (ObBox.new w Kd L S (.slice A n c)).alloc (.cells #[.int .u8 Kd', .int .i64 L', .int .i64 S', .slice A' n' c'] 50)
  have hy1 := ObBox.new (w.alloc (.cells #[.int .u8 Kd, .int .i64 L, .int .i64 S, .slice A n c] 50)) Kd' L' S' (.slice A' n' c')
  rw [World.size_alloc] at hy1
  have hb1 : Below w.heap.size w ((w.alloc (.cells #[.int .u8 Kd, .int .i64 L, .int .i64 S, .slice A n c] 50)).alloc (.cells #[.int .u8 Kd', .int .i64 L', .int .i64 S', .slice A' n' c'] 50)) := below_alloc (below_new w _) _ (Nat.le_refl _)
  obtain ⟨W1, hW1⟩ : ∃ V, V = (w.alloc (.cells #[.int .u8 Kd, .int .i64 L, .int .i64 S, .slice A n c] 50)).alloc (.cells #[.int .u8 Kd', .int .i64 L', .int .i64 S', .slice A' n' c'] 50) := ⟨_, rfl⟩
  rw [← hW1] at hx1 hy1 hb1
  have hal := alive14 W1
  rw [hW1] at hal
  have HAL := Lib.hid hal
  have HW1 := Lib.hid hW1
  have HX := Lib.hid hx1
  have HY := Lib.hid hy1
  have HB := Lib.hid hb1
  have HR := Lib.hid hr
  have HR' := Lib.hid hr'
  have hn15 : l.length = 15 := hm.2.2.2.1
  have hn15' : l'.length = 15 := hm'.2.2.2.1
  obtain rfl : n = 15 := by omega
  obtain rfl : n' = 15 := by omega
  obtain ⟨aL, haL⟩ : ∃ x, x = obB Kd L S l := ⟨_, rfl⟩
  obtain ⟨bL, hbL⟩ : ∃ x, x = obB Kd' L' S' l' := ⟨_, rfl⟩
  have hPA : BlkOf Kd L S l aL := by rw [haL]; exact BlkOf.of hm hU
  have hPB : BlkOf Kd' L' S' l' bL := by rw [hbL]; exact BlkOf.of hm' hU'
  obtain ⟨v, hv⟩ : ∃ v, v = decide (Kd = Kd' ∧ L = L' ∧ S = S' ∧ l = l') := ⟨_, rfl⟩
  have hab : (aL == bL) = v := by rw [haL, hbL, hv]; exact blk_beq hm hU hm' hU'
  have hs2 : ((aL.drop 2).take 2 == (bL.drop 2).take 2) = (S == S') := by
    rw [num2_beq (by rw [List.length_take, List.length_drop, hPA.len]; rfl) (by rw [List.length_take, List.length_drop, hPB.len]; rfl), hPA.num2, hPB.num2, Bool.eq_iff_iff, decide_eq_true_iff, beq_iff_eq]
  have HQ1 := Lib.hid hab
  have HQ2 := Lib.hid hs2
  have HPA := Lib.hid hPA
  have HPB := Lib.hid hPB
  have HV := Lib.hid hv
  have HM := Lib.hid hm.2.2.2.2
  have HM' := Lib.hid hm'.2.2.2.2
  have HU := Lib.hid hU
  have HU' := Lib.hid hU'
  have HL := Lib.hid hl
  have HL' := Lib.hid hl'
  have hmk : ∀ W, (Instr.makeSlice 23 (.int .i64 12) (.int .i64 12)).run Try.prog W = .ok (.slice (some ⟨W.heap.size, 0, none⟩) 12 12) (W.alloc (.cells (bvs (noughts 12)).toArray 5)) := fun W => run_mkN okB .i64 .i64 12 (by omega) W
  have HMK := Lib.hid hmk
  have HC := Lib.hid (fun V h => obj_check Kd L S A 15 c l V hl h hK8 0 (obE_yes hm))
  have HC' := Lib.hid (fun V h => obj_check Kd' L' S' A' 15 c' l' V hl' h hK8' 0 (obE_yes hm'))
  have HWR := Lib.hid (fun V h => obj_write Kd L S A 15 c l V hl hU h hK8 aL 0 256 haL.symm (obE_yes hm) hPA.len)
  have HWR' := Lib.hid (fun V h => obj_write Kd' L' S' A' 15 c' l' V hl' hU' h hK8' bL 0 256 hbL.symm (obE_yes hm') hPB.len)
  clear hx1 hy1 hb1 hal hW1 hr hr' hl hl' hU hU' hK8 hK8' hm hm' hn15 hn15' haL hbL hPA hPB hv hab hs2 hmk
  go_enter Try.func15, Try.ntmps15
  go_wp2_with fail
  refine HAL.out.mono ?_
  rw [← HW1.out]
  clear HW1 HAL
  rintro e w2 ⟨rfl, b2⟩
  have hx2 := HX.out.below b2 HX.out.lt
  have HB2 := Lib.hid (below_to HB.out b2 HB.out.size)
  have HY2 := Lib.hid (HY.out.below b2 HY.out.lt)
  have HX2 := Lib.hid hx2
  obtain ⟨x0, x1, x2, x3⟩ := hx2.cells
  clear b2 hx2 HX HY HB
  go_wp2_with fail
  refine (HC.out _ ((HR.out.below HB2.out).more HB2.out.size)).mono ?_
  rintro e w3 ⟨rfl, b3⟩
  have HB3 := Lib.hid (below_to HB2.out b3 HB2.out.size)
  have hy3 := HY2.out.below b3 HY2.out.lt
  have HY3 := Lib.hid hy3
  have HX3 := Lib.hid (HX2.out.below b3 HX2.out.lt)
  clear b3 x0 x1 x2 x3 HX2 HY2 HB2 HC
  obtain ⟨y0, y1, y2, y3⟩ := hy3.cells
  clear hy3
  go_wp2_with fail
  refine (HC'.out _ ((HR'.out.below HB3.out).more HB3.out.size)).mono ?_
  rintro e w4 ⟨rfl, b4⟩
  have HB4 := Lib.hid (below_to HB3.out b4 HB3.out.size)
  have hx4 := HX3.out.below b4 HX3.out.lt
  have HX4 := Lib.hid hx4
  have HY4 := Lib.hid (HY3.out.below b4 HY3.out.lt)
  clear b4 y0 y1 y2 y3 HX3 HY3 HB3 HC'
  obtain ⟨x0, x1, x2, x3⟩ := hx4.cells
  clear hx4
  go_wp2_with fail
  refine (HWR.out _ ((HR.out.below HB4.out).more HB4.out.size)).mono ?_
  rintro e w5 ⟨A1, c1, rfl, f1, b5⟩
  have HF1 := Lib.hid f1
  have HB5 := Lib.hid (below_to HB4.out b5 HB4.out.size)
  have HX5 := Lib.hid (HX4.out.below b5 HX4.out.lt)
  have hy5 := HY4.out.below b5 HY4.out.lt
  have HY5 := Lib.hid hy5
  clear b5 f1 x0 x1 x2 x3 HX4 HY4 HB4 HWR
  obtain ⟨y0, y1, y2, y3⟩ := hy5.cells
  clear hy5
  go_wp2_with fail
  refine (HWR'.out _ ((HR'.out.below HB5.out).more HB5.out.size)).mono ?_
  rintro e w6 ⟨A2, c2, rfl, f2, b6⟩
  have hf1 := HF1.out.below b6 (Nat.le_refl _)
  obtain ⟨g1, rfl, _, _⟩ := hf1.form (by have := hf1.nc; omega)
  obtain ⟨g2, rfl, _, _⟩ := f2.form (by have := f2.nc; omega)
  have hc1 : (256 : Int) ≤ (c1 : Int) := by have := hf1.nc; omega
  have hc2 : (256 : Int) ≤ (c2 : Int) := by have := f2.nc; omega
  have HR1 := Lib.hid hf1.rd
  have HR2 := Lib.hid f2.rd
  have HC1 := Lib.hid hc1
  have HC2 := Lib.hid hc2
  have HB6 := Lib.hid (below_to HB5.out b6 HB5.out.size)
  have HX6 := Lib.hid (HX5.out.below b6 HX5.out.lt)
  have HY6 := Lib.hid (HY5.out.below b6 HY5.out.lt)
  have HRO := Lib.hid ((HR.out.below HB6.out).more HB6.out.size)
  have HRO' := Lib.hid ((HR'.out.below HB6.out).more HB6.out.size)
  clear b6 hf1 f2 hc1 hc2 y0 y1 y2 y3 HX5 HY5 HB5 HWR' HF1 HR HR'
  have hab := HQ1.out
  go_wp2
  refine wp_region_held_drew (S := fun V => Below w6.heap.size w6 V) (by kernel_rfl) (show Below w6.heap.size w6 w6.drew from (Below.refl _ _).drew) (fun hS => ?_)
  refine wpAnyH_take (i := 0) (v := ?_) rfl (by kernel_rfl) (by kernel_rfl) (by kernel_rfl) (fun _ _ _ h => h) (Or.inl ⟨by rfl, ?hyq⟩) hS ?_
  case hyq =>
    intro w hw
    go_simp
    try (with_reducible rfl)
  try go_simp
  refine wpAnyH_take (i := 1) (v := ?_) rfl (by kernel_rfl) (by kernel_rfl) (by kernel_rfl) (fun _ _ _ h => h) (Or.inl ⟨by rfl, ?hyq⟩) hS ?_
  case hyq =>
    intro w hw
    go_simp
    try (with_reducible rfl)
  try go_simp
  refine wpAnyH_take (i := 2) (v := ?_) rfl (by kernel_rfl) (by kernel_rfl) (by kernel_rfl) (fun _ _ _ h => h) (Or.inl ⟨by rfl, ?hyq⟩) hS ?_
  case hyq =>
    intro w hw
    go_simp
    try (with_reducible rfl)
  try go_simp
  refine wpAnyH_take (i := 3) (v := ?_) rfl (by kernel_rfl) (by kernel_rfl) (by kernel_rfl) (fun _ _ _ h => h) (Or.inl ⟨by rfl, ?hyq⟩) hS ?_
  case hyq =>
    intro w hw
    go_simp
    try (with_reducible rfl)
  try go_simp
  refine wpAnyH_take (i := 4) (v := ?_) rfl (by kernel_rfl) (by kernel_rfl) (by kernel_rfl) (fun _ _ _ h => h) (Or.inl ⟨by rfl, ?hyq⟩) hS ?_
  case hyq =>
    intro w hw
    go_simp
    try (with_reducible rfl)
  try go_simp
  refine wpAnyH_take (i := 5) (v := ?_) rfl (by kernel_rfl) (by kernel_rfl) (by kernel_rfl) (fun _ _ _ h => h) (Or.inl ⟨by rfl, ?hyq⟩) hS ?_
  case hyq =>
    intro w hw
    go_simp
    try (with_reducible rfl)
  try go_simp
  refine wpAnyH_take (i := 6) (v := ?_) rfl (by kernel_rfl) (by kernel_rfl) (by kernel_rfl) (fun _ _ _ h => h) (Or.inl ⟨by rfl, ?hyq⟩) hS ?_
  case hyq =>
    intro w hw
    go_simp
    try (with_reducible rfl)
  try go_simp
  refine wpAnyH_take (i := 7) (v := ?_) rfl (by kernel_rfl) (by kernel_rfl) (by kernel_rfl) (fun _ _ _ h => h) (Or.inl ⟨by rfl, ?hyq⟩) hS ?_
  case hyq =>
    intro w hw
    go_simp
    try (with_reducible rfl)
  try go_simp
  refine wpAnyH_take (i := 8) (v := ?_) rfl (by kernel_rfl) (by kernel_rfl) (by kernel_rfl) (fun _ _ _ h => h) (Or.inl ⟨by rfl, ?hyq⟩) hS ?_
  case hyq =>
    intro w hw
    go_simp
    try (with_reducible rfl)
  try go_simp
  refine wpAnyH_take (i := 9) (v := ?_) rfl (by kernel_rfl) (by kernel_rfl) (by kernel_rfl) (fun _ _ _ h => h) (Or.inl ⟨by rfl, ?hyq⟩) hS ?_
  case hyq =>
    intro w hw
    go_simp
    try (with_reducible rfl)
  try go_simp
  refine wpAnyH_take (i := 10) (v := ?_) rfl (by kernel_rfl) (by kernel_rfl) (by kernel_rfl) (fun _ _ _ h => h) (Or.inl ⟨by rfl, ?hyq⟩) hS ?_
  case hyq =>
    intro w hw
    go_simp
    try (with_reducible rfl)
  try go_simp
  refine wpAnyH_take (i := 11) (v := ?_) rfl (by kernel_rfl) (by kernel_rfl) (by kernel_rfl) (fun _ _ _ h => h) (Or.inl ⟨by rfl, ?hyq⟩) hS ?_
  case hyq =>
    intro w hw
    go_simp
    try (with_reducible rfl)
  try go_simp
  refine wpAnyH_take (i := 12) (v := ?_) rfl (by kernel_rfl) (by kernel_rfl) (by kernel_rfl) (fun _ _ _ h => h) (Or.inl ⟨by rfl, ?hyq⟩) hS ?_
  case hyq =>
    intro w hw
    go_simp
    try (with_reducible rfl)
  try go_simp
  refine wpAnyH_take (i := 13) (v := ?_) rfl (by kernel_rfl) (by kernel_rfl) (by kernel_rfl) (fun _ _ _ h => h) (Or.inl ⟨by rfl, ?hyq⟩) hS ?_
  case hyq =>
    intro w hw
    go_simp
    try (with_reducible rfl)
  try go_simp
  refine wpAnyH_take (i := 14) (v := ?_) rfl (by kernel_rfl) (by kernel_rfl) (by kernel_rfl) (fun _ _ _ h => h) (Or.inl ⟨by rfl, ?hyq⟩) hS ?_
  case hyq =>
    intro w hw
    go_simp
    try (with_reducible rfl)
  try go_simp
  refine wpAnyH_take (i := 15) (v := ?_) rfl (by kernel_rfl) (by kernel_rfl) (by kernel_rfl) (fun _ _ _ h => h) (Or.inl ⟨by rfl, ?hyq⟩) hS ?_
  case hyq =>
    intro w hw
    go_simp
    try (with_reducible rfl)
  try go_simp
  refine wpAnyH_take (i := 16) (v := ?_) rfl (by kernel_rfl) (by kernel_rfl) (by kernel_rfl) (fun _ _ _ h => h) (Or.inl ⟨by rfl, ?hyq⟩) hS ?_
  case hyq =>
    intro w hw
    go_simp
    try (with_reducible rfl)
  try go_simp
  refine wpAnyH_take (i := 17) (v := ?_) rfl (by kernel_rfl) (by kernel_rfl) (by kernel_rfl) (fun _ _ _ h => h) (Or.inl ⟨by rfl, ?hyq⟩) hS ?_
  case hyq =>
    intro w hw
    go_simp
    try (with_reducible rfl)
  try go_simp
  refine wpAnyH_take (i := 18) (v := ?_) rfl (by kernel_rfl) (by kernel_rfl) (by kernel_rfl) (fun _ _ _ h => h) (Or.inl ⟨by rfl, ?hyq⟩) hS ?_
  case hyq =>
    intro w hw
    have hcv := conv (HR1.out.below hw) c1
    go_simp
    try (with_reducible rfl)
  try go_simp
  refine wpAnyH_take (i := 19) (v := ?_) rfl (by kernel_rfl) (by kernel_rfl) (by kernel_rfl) (fun _ _ _ h => h) (Or.inl ⟨by rfl, ?hyq⟩) hS ?_
  case hyq =>
    intro w hw
    go_simp
    try (with_reducible rfl)
  try go_simp
  refine wpAnyH_take (i := 20) (v := ?_) rfl (by kernel_rfl) (by kernel_rfl) (by kernel_rfl) (fun _ _ _ h => h) (Or.inl ⟨by rfl, ?hyq⟩) hS ?_
  case hyq =>
    intro w hw
    have hcv := conv (HR2.out.below hw) c2
    go_simp
    try (with_reducible rfl)
  try go_simp
  refine wpAnyH_take (i := 21) (v := ?_) rfl (by kernel_rfl) (by kernel_rfl) (by kernel_rfl) (fun _ _ _ h => h) (Or.inl ⟨by rfl, ?hyq⟩) hS ?_
  case hyq =>
    intro w hw
    go_simp
    try (with_reducible rfl)
  try go_simp
  refine wpAnyH_take (i := 22) (v := ?_) rfl (by kernel_rfl) (by kernel_rfl) (by kernel_rfl) (fun _ _ _ h => h) (Or.inl ⟨by rfl, ?hyq⟩) hS ?_
  case hyq =>
    intro w hw
    obtain ⟨k0, k1, k2, k3⟩ := (HX6.out.below hw HX6.out.lt).cells
    go_simp
    try (with_reducible rfl)
  try go_simp
  refine wpAnyH_take (i := 23) (v := ?_) rfl (by kernel_rfl) (by kernel_rfl) (by kernel_rfl) (fun _ _ _ h => h) (Or.inl ⟨by rfl, ?hyq⟩) hS ?_
  case hyq =>
    intro w hw
    obtain ⟨k0, k1, k2, k3⟩ := (HY6.out.below hw HY6.out.lt).cells
    go_simp
    try (with_reducible rfl)
  try go_simp
  try go_simp
  refine wpAnyH_ready (rs := [24]) (by kernel_rfl) (by simp) ?_
  refine all_consH rfl (fun K hK => ?_) ?_
  · skip
    refine Stp.mk ?_
    go_simp
    go_wp2_with fail
    refine (obj_same Kd L S A 15 c l Kd' L' S' A' 15 c' l' _ HL.out (by omega) ((HRO.out.below hS).more hS.size) HL'.out ((HRO'.out.below hS).more hS.size) v HV.out).mono ?_
    rintro e w7 ⟨rfl, b7⟩
    have hSn := below_to hS b7 hS.size
    clear b7
    go_wp2
    refine hK.out _ _ hSn (fun hS => ?_)
    clear hK K hSn
    refine wpAnyH_take (i := 25) (v := ?_) rfl (by kernel_rfl) (by kernel_rfl) (by kernel_rfl) (fun _ _ _ h => h) (Or.inl ⟨by rfl, ?hyq⟩) hS ?_
    case hyq =>
      intro w hw
      go_simp
      try (with_reducible rfl)
    try go_simp
    try go_simp
    refine wpAnyH_ready (rs := [26]) (by kernel_rfl) (by simp) ?_
    refine all_consH rfl (fun K hK => ?_) ?_
    · skip
      refine Stp.mk ?_
      go_simp
      have hSn := hS
      refine hK.out _ _ hSn (fun hS => ?_)
      clear hK K hSn
      refine wpAnyH_done (by kernel_rfl) ?_ _
      have HS7 := Lib.hid hS
      clear hS hab
      have hs2 := HQ2.out
      have hmk := HMK.out
      have hc1a : (4 : Int) ≤ (c1 : Int) := by have := HC1.out; omega
      have hc2a : (4 : Int) ≤ (c2 : Int) := by have := HC2.out; omega
      have hc1b : (16 : Int) ≤ (c1 : Int) := by have := HC1.out; omega
      have hc2b : (16 : Int) ≤ (c2 : Int) := by have := HC2.out; omega
      have hc1c : ¬ c1 = 2 := by have := HC1.out; omega
      have hc2c : ¬ c2 = 2 := by have := HC2.out; omega
      have hc1d : ¬ c1 = 4 := by have := HC1.out; omega
      go_wp2
      refine wp_region_held_drew (S := fun V => Below w6.heap.size w6 V) (by kernel_rfl) HS7.out.drew (fun hS => ?_)
      obtain ⟨W8, hW8⟩ : ∃ V, V = w7.drew := ⟨_, rfl⟩
      rw [← hW8] at hS ⊢
      clear hW8
      refine wpAnyH_take (i := 0) (v := ?_) rfl (by kernel_rfl) (by kernel_rfl) (by kernel_rfl) (fun _ _ _ h => h) (Or.inl ⟨by rfl, ?hyq⟩) hS ?_
      case hyq =>
        intro w hw
        go_simp
        try (with_reducible rfl)
      try go_simp
      refine wpAnyH_take (i := 1) (v := ?_) rfl (by kernel_rfl) (by kernel_rfl) (by kernel_rfl) (fun _ _ _ h => h) (Or.inl ⟨by rfl, ?hyq⟩) hS ?_
      case hyq =>
        intro w hw
        go_simp
        try (with_reducible rfl)
      try go_simp
      refine wpAnyH_take (i := 2) (v := ?_) rfl (by kernel_rfl) (by kernel_rfl) (by kernel_rfl) (fun _ _ _ h => h) (Or.inl ⟨by rfl, ?hyq⟩) hS ?_
      case hyq =>
        intro w hw
        obtain ⟨bb, oo, ee, -, gg⟩ := (HR1.out.below hw).2 (by decide)
        cases ee
        have k0 := gg 0 _ HPA.out.k0
        clear gg
        go_simp
        try (with_reducible rfl)
      try go_simp
      refine wpAnyH_take (i := 3) (v := ?_) rfl (by kernel_rfl) (by kernel_rfl) (by kernel_rfl) (fun _ _ _ h => h) (Or.inl ⟨by rfl, ?hyq⟩) hS ?_
      case hyq =>
        intro w hw
        go_simp
        try (with_reducible rfl)
      try go_simp
      refine wpAnyH_take (i := 4) (v := ?_) rfl (by kernel_rfl) (by kernel_rfl) (by kernel_rfl) (fun _ _ _ h => h) (Or.inl ⟨by rfl, ?hyq⟩) hS ?_
      case hyq =>
        intro w hw
        go_simp
        try (with_reducible rfl)
      try go_simp
      refine wpAnyH_take (i := 5) (v := ?_) rfl (by kernel_rfl) (by kernel_rfl) (by kernel_rfl) (fun _ _ _ h => h) (Or.inl ⟨by rfl, ?hyq⟩) hS ?_
      case hyq =>
        intro w hw
        obtain ⟨bb, oo, ee, -, gg⟩ := (HR2.out.below hw).2 (by decide)
        cases ee
        have k0 := gg 0 _ HPB.out.k0
        clear gg
        go_simp
        try (with_reducible rfl)
      try go_simp
      refine wpAnyH_take (i := 6) (v := ?_) rfl (by kernel_rfl) (by kernel_rfl) (by kernel_rfl) (fun _ _ _ h => h) (Or.inl ⟨by rfl, ?hyq⟩) hS ?_
      case hyq =>
        intro w hw
        go_simp
        try (with_reducible rfl)
      try go_simp
      refine wpAnyH_take (i := 7) (v := ?_) rfl (by kernel_rfl) (by kernel_rfl) (by kernel_rfl) (fun _ _ _ h => h) (Or.inl ⟨by rfl, ?hyq⟩) hS ?_
      case hyq =>
        intro w hw
        go_simp
        try (with_reducible rfl)
      try go_simp
      refine wpAnyH_take (i := 8) (v := ?_) rfl (by kernel_rfl) (by kernel_rfl) (by kernel_rfl) (fun _ _ _ h => h) (Or.inl ⟨by rfl, ?hyq⟩) hS ?_
      case hyq =>
        intro w hw
        obtain ⟨k0, k1, k2, k3⟩ := (HX6.out.below hw HX6.out.lt).cells
        go_simp
        try (with_reducible rfl)
      try go_simp
      refine wpAnyH_take (i := 9) (v := ?_) rfl (by kernel_rfl) (by kernel_rfl) (by kernel_rfl) (fun _ _ _ h => h) (Or.inl ⟨by rfl, ?hyq⟩) hS ?_
      case hyq =>
        intro w hw
        go_simp
        try (with_reducible rfl)
      try go_simp
      refine wpAnyH_take (i := 10) (v := ?_) rfl (by kernel_rfl) (by kernel_rfl) (by kernel_rfl) (fun _ _ _ h => h) (Or.inl ⟨by rfl, ?hyq⟩) hS ?_
      case hyq =>
        intro w hw
        obtain ⟨k0, k1, k2, k3⟩ := (HY6.out.below hw HY6.out.lt).cells
        go_simp
        try (with_reducible rfl)
      try go_simp
      refine wpAnyH_take (i := 11) (v := ?_) rfl (by kernel_rfl) (by kernel_rfl) (by kernel_rfl) (fun _ _ _ h => h) (Or.inl ⟨by rfl, ?hyq⟩) hS ?_
      case hyq =>
        intro w hw
        go_simp
        try (with_reducible rfl)
      try go_simp
      refine wpAnyH_take (i := 12) (v := ?_) rfl (by kernel_rfl) (by kernel_rfl) (by kernel_rfl) (fun _ _ _ h => h) (Or.inl ⟨by rfl, ?hyq⟩) hS ?_
      case hyq =>
        intro w hw
        go_simp
        try (with_reducible rfl)
      try go_simp
      refine wpAnyH_take (i := 13) (v := ?_) rfl (by kernel_rfl) (by kernel_rfl) (by kernel_rfl) (fun _ _ _ h => h) (Or.inl ⟨by rfl, ?hyq⟩) hS ?_
      case hyq =>
        intro w hw
        go_simp
        try (with_reducible rfl)
      try go_simp
      refine wpAnyH_take (i := 14) (v := ?_) rfl (by kernel_rfl) (by kernel_rfl) (by kernel_rfl) (fun _ _ _ h => h) (Or.inl ⟨by rfl, ?hyq⟩) hS ?_
      case hyq =>
        intro w hw
        go_simp
        try (with_reducible rfl)
      try go_simp
      refine wpAnyH_take (i := 15) (v := ?_) rfl (by kernel_rfl) (by kernel_rfl) (by kernel_rfl) (fun _ _ _ h => h) (Or.inl ⟨by rfl, ?hyq⟩) hS ?_
      case hyq =>
        intro w hw
        go_simp
        try (with_reducible rfl)
      try go_simp
      refine wpAnyH_take (i := 16) (v := ?_) rfl (by kernel_rfl) (by kernel_rfl) (by kernel_rfl) (fun _ _ _ h => h) (Or.inl ⟨by rfl, ?hyq⟩) hS ?_
      case hyq =>
        intro w hw
        obtain ⟨bb, oo, ee, -, gg⟩ := (HR1.out.below hw).2 (by decide)
        cases ee
        have k0 := gg 1 _ HPA.out.k1
        clear gg
        go_simp
        try (with_reducible rfl)
      try go_simp
      refine wpAnyH_take (i := 17) (v := ?_) rfl (by kernel_rfl) (by kernel_rfl) (by kernel_rfl) (fun _ _ _ h => h) (Or.inl ⟨by rfl, ?hyq⟩) hS ?_
      case hyq =>
        intro w hw
        go_simp
        try (with_reducible rfl)
      try go_simp
      refine wpAnyH_take (i := 18) (v := ?_) rfl (by kernel_rfl) (by kernel_rfl) (by kernel_rfl) (fun _ _ _ h => h) (Or.inl ⟨by rfl, ?hyq⟩) hS ?_
      case hyq =>
        intro w hw
        go_simp
        try (with_reducible rfl)
      try go_simp
      refine wpAnyH_take (i := 19) (v := ?_) rfl (by kernel_rfl) (by kernel_rfl) (by kernel_rfl) (fun _ _ _ h => h) (Or.inl ⟨by rfl, ?hyq⟩) hS ?_
      case hyq =>
        intro w hw
        obtain ⟨bb, oo, ee, -, gg⟩ := (HR2.out.below hw).2 (by decide)
        cases ee
        have k0 := gg 1 _ HPB.out.k1
        clear gg
        go_simp
        try (with_reducible rfl)
      try go_simp
      refine wpAnyH_take (i := 20) (v := ?_) rfl (by kernel_rfl) (by kernel_rfl) (by kernel_rfl) (fun _ _ _ h => h) (Or.inl ⟨by rfl, ?hyq⟩) hS ?_
      case hyq =>
        intro w hw
        go_simp
        try (with_reducible rfl)
      try go_simp
      refine wpAnyH_take (i := 21) (v := ?_) rfl (by kernel_rfl) (by kernel_rfl) (by kernel_rfl) (fun _ _ _ h => h) (Or.inl ⟨by rfl, ?hyq⟩) hS ?_
      case hyq =>
        intro w hw
        go_simp
        try (with_reducible rfl)
      try go_simp
      refine wpAnyH_take (i := 22) (v := ?_) rfl (by kernel_rfl) (by kernel_rfl) (by kernel_rfl) (fun _ _ _ h => h) (Or.inl ⟨by rfl, ?hyq⟩) hS ?_
      case hyq =>
        intro w hw
        obtain ⟨k0, k1, k2, k3⟩ := (HX6.out.below hw HX6.out.lt).cells
        go_simp
        try (with_reducible rfl)
      try go_simp
      refine wpAnyH_take (i := 23) (v := ?_) rfl (by kernel_rfl) (by kernel_rfl) (by kernel_rfl) (fun _ _ _ h => h) (Or.inl ⟨by rfl, ?hyq⟩) hS ?_
      case hyq =>
        intro w hw
        go_simp
        try (with_reducible rfl)
      try go_simp
      refine wpAnyH_take (i := 24) (v := ?_) rfl (by kernel_rfl) (by kernel_rfl) (by kernel_rfl) (fun _ _ _ h => h) (Or.inl ⟨by rfl, ?hyq⟩) hS ?_
      case hyq =>
        intro w hw
        obtain ⟨k0, k1, k2, k3⟩ := (HY6.out.below hw HY6.out.lt).cells
        go_simp
        try (with_reducible rfl)
      try go_simp
      refine wpAnyH_take (i := 25) (v := ?_) rfl (by kernel_rfl) (by kernel_rfl) (by kernel_rfl) (fun _ _ _ h => h) (Or.inl ⟨by rfl, ?hyq⟩) hS ?_
      case hyq =>
        intro w hw
        go_simp
        try (with_reducible rfl)
      try go_simp
      refine wpAnyH_take (i := 26) (v := ?_) rfl (by kernel_rfl) (by kernel_rfl) (by kernel_rfl) (fun _ _ _ h => h) (Or.inl ⟨by rfl, ?hyq⟩) hS ?_
      case hyq =>
        intro w hw
        go_simp
        try (with_reducible rfl)
      try go_simp
      refine wpAnyH_take (i := 27) (v := ?_) rfl (by kernel_rfl) (by kernel_rfl) (by kernel_rfl) (fun _ _ _ h => h) (Or.inl ⟨by rfl, ?hyq⟩) hS ?_
      case hyq =>
        intro w hw
        go_simp
        try (with_reducible rfl)
      try go_simp
      refine wpAnyH_take (i := 28) (v := ?_) rfl (by kernel_rfl) (by kernel_rfl) (by kernel_rfl) (fun _ _ _ h => h) (Or.inl ⟨by rfl, ?hyq⟩) hS ?_
      case hyq =>
        intro w hw
        go_simp
        try (with_reducible rfl)
      try go_simp
      refine wpAnyH_take (i := 29) (v := ?_) rfl (by kernel_rfl) (by kernel_rfl) (by kernel_rfl) (fun _ _ _ h => h) (Or.inl ⟨by rfl, ?hyq⟩) hS ?_
      case hyq =>
        intro w hw
        go_simp
        try (with_reducible rfl)
      try go_simp
      refine wpAnyH_take (i := 30) (v := ?_) rfl (by kernel_rfl) (by kernel_rfl) (by kernel_rfl) (fun _ _ _ h => h) (Or.inl ⟨by rfl, ?hyq⟩) hS ?_
      case hyq =>
        intro w hw
        go_simp
        try (with_reducible rfl)
      try go_simp
      refine wpAnyH_take (i := 31) (v := ?_) rfl (by kernel_rfl) (by kernel_rfl) (by kernel_rfl) (fun _ _ _ h => h) (Or.inl ⟨by rfl, ?hyq⟩) hS ?_
      case hyq =>
        intro w hw
        have hs := (HR1.out.below hw).sub 2 2 (by omega)
        rw [← bvs_drop, ← bvs_take] at hs
        have hcv := conv hs (c1 - 2)
        simp only [Nat.zero_add] at hcv
        clear hs
        go_simp
        try (with_reducible rfl)
      try go_simp
      refine wpAnyH_take (i := 32) (v := ?_) rfl (by kernel_rfl) (by kernel_rfl) (by kernel_rfl) (fun _ _ _ h => h) (Or.inl ⟨by rfl, ?hyq⟩) hS ?_
      case hyq =>
        intro w hw
        go_simp
        try (with_reducible rfl)
      try go_simp
      refine wpAnyH_take (i := 33) (v := ?_) rfl (by kernel_rfl) (by kernel_rfl) (by kernel_rfl) (fun _ _ _ h => h) (Or.inl ⟨by rfl, ?hyq⟩) hS ?_
      case hyq =>
        intro w hw
        go_simp
        try (with_reducible rfl)
      try go_simp
      refine wpAnyH_take (i := 34) (v := ?_) rfl (by kernel_rfl) (by kernel_rfl) (by kernel_rfl) (fun _ _ _ h => h) (Or.inl ⟨by rfl, ?hyq⟩) hS ?_
      case hyq =>
        intro w hw
        have hs := (HR2.out.below hw).sub 2 2 (by omega)
        rw [← bvs_drop, ← bvs_take] at hs
        have hcv := conv hs (c2 - 2)
        simp only [Nat.zero_add] at hcv
        clear hs
        go_simp
        try (with_reducible rfl)
      try go_simp
      refine wpAnyH_take (i := 35) (v := ?_) rfl (by kernel_rfl) (by kernel_rfl) (by kernel_rfl) (fun _ _ _ h => h) (Or.inl ⟨by rfl, ?hyq⟩) hS ?_
      case hyq =>
        intro w hw
        go_simp
        try (with_reducible rfl)
      try go_simp
      refine wpAnyH_take (i := 36) (v := ?_) rfl (by kernel_rfl) (by kernel_rfl) (by kernel_rfl) (fun _ _ _ h => h) (Or.inl ⟨by rfl, ?hyq⟩) hS ?_
      case hyq =>
        intro w hw
        go_simp
        try (with_reducible rfl)
      try go_simp
      refine wpAnyH_take (i := 37) (v := ?_) rfl (by kernel_rfl) (by kernel_rfl) (by kernel_rfl) (fun _ _ _ h => h) (Or.inl ⟨by rfl, ?hyq⟩) hS ?_
      case hyq =>
        intro w hw
        obtain ⟨k0, k1, k2, k3⟩ := (HX6.out.below hw HX6.out.lt).cells
        go_simp
        try (with_reducible rfl)
      try go_simp
      refine wpAnyH_take (i := 38) (v := ?_) rfl (by kernel_rfl) (by kernel_rfl) (by kernel_rfl) (fun _ _ _ h => h) (Or.inl ⟨by rfl, ?hyq⟩) hS ?_
      case hyq =>
        intro w hw
        go_simp
        try (with_reducible rfl)
      try go_simp
      refine wpAnyH_take (i := 39) (v := ?_) rfl (by kernel_rfl) (by kernel_rfl) (by kernel_rfl) (fun _ _ _ h => h) (Or.inl ⟨by rfl, ?hyq⟩) hS ?_
      case hyq =>
        intro w hw
        obtain ⟨k0, k1, k2, k3⟩ := (HY6.out.below hw HY6.out.lt).cells
        go_simp
        try (with_reducible rfl)
      try go_simp
      refine wpAnyH_take (i := 40) (v := ?_) rfl (by kernel_rfl) (by kernel_rfl) (by kernel_rfl) (fun _ _ _ h => h) (Or.inl ⟨by rfl, ?hyq⟩) hS ?_
      case hyq =>
        intro w hw
        go_simp
        try (with_reducible rfl)
      try go_simp
      refine wpAnyH_take (i := 41) (v := ?_) rfl (by kernel_rfl) (by kernel_rfl) (by kernel_rfl) (fun _ _ _ h => h) (Or.inl ⟨by rfl, ?hyq⟩) hS ?_
      case hyq =>
        intro w hw
        go_simp
        try (with_reducible rfl)
      try go_simp
      refine wpAnyH_take (i := 42) (v := ?_) rfl (by kernel_rfl) (by kernel_rfl) (by kernel_rfl) (fun _ _ _ h => h) (Or.inl ⟨by rfl, ?hyq⟩) hS ?_
      case hyq =>
        intro w hw
        go_simp
        try (with_reducible rfl)
      try go_simp
      refine wpAnyH_take (i := 43) (v := ?_) rfl (by kernel_rfl) (by kernel_rfl) (by kernel_rfl) (fun _ _ _ h => h) (Or.inl ⟨by rfl, ?hyq⟩) hS ?_
      case hyq =>
        intro w hw
        go_simp
        try (with_reducible rfl)
      try go_simp
      refine wpAnyH_take (i := 44) (v := ?_) rfl (by kernel_rfl) (by kernel_rfl) (by kernel_rfl) (fun _ _ _ h => h) (Or.inl ⟨by rfl, ?hyq⟩) hS ?_
      case hyq =>
        intro w hw
        go_simp
        try (with_reducible rfl)
      try go_simp
      refine wpAnyH_take (i := 45) (v := ?_) rfl (by kernel_rfl) (by kernel_rfl) (by kernel_rfl) (fun _ _ _ h => h) (Or.inl ⟨by rfl, ?hyq⟩) hS ?_
      case hyq =>
        intro w hw
        go_simp
        try (with_reducible rfl)
      try go_simp
      refine wpAnyH_take (i := 46) (v := ?_) rfl (by kernel_rfl) (by kernel_rfl) (by kernel_rfl) (fun _ _ _ h => h) (Or.inl ⟨by rfl, ?hyq⟩) hS ?_
      case hyq =>
        intro w hw
        have hs := (HR1.out.below hw).sub 4 12 (by omega)
        rw [← bvs_drop, ← bvs_take, HPA.out.mid] at hs
        have hcv := conv hs (c1 - 4)
        simp only [Nat.zero_add] at hcv
        clear hs
        go_simp
        try (with_reducible rfl)
      try go_simp
      try go_simp
      refine wpAnyH_ready (rs := [47]) (by kernel_rfl) (by simp) ?_
      refine all_consH rfl (fun K hK => ?_) ?_
      · skip
        refine stp_mko (fun g => .slice (some ⟨g, 0, none⟩) 12 12) (.cells (bvs (noughts 12)).toArray 5) (by go_simp) (by go_simp) ?_
        intro gz w9 hn b9
        have hSn := below_to hS b9.out hS.size
        have hcz := conv (Rd.block hn.out.2.2 (by rw [bvs_len]; rfl) : Rd w9 w9.heap.size 1 (some ⟨gz, 0, none⟩) 12 (bvs (noughts 12))) 12
        clear hn b9
        refine hK.out _ _ hSn (fun hS => ?_)
        clear hK K hSn
        try go_simp
        refine wpAnyH_ready (rs := [48]) (by kernel_rfl) (by simp) ?_
        refine all_consH rfl (fun K hK => ?_) ?_
        · skip
          refine Stp.mk ?_
          go_simp
          have hSn := hS
          clear hcz
          refine hK.out _ _ hSn (fun hS => ?_)
          clear hK K hSn
          refine wpAnyH_take (i := 49) (v := ?_) rfl (by kernel_rfl) (by kernel_rfl) (by kernel_rfl) (fun _ _ _ h => h) (Or.inl ⟨by rfl, ?hyq⟩) hS ?_
          case hyq =>
            intro w hw
            go_simp
            try (with_reducible rfl)
          try go_simp
          try go_simp
          refine wpAnyH_ready (rs := [50]) (by kernel_rfl) (by simp) ?_
          refine all_consH rfl (fun K hK => ?_) ?_
          · skip
            refine Stp.mk ?_
            go_simp
            have hSn := hS
            refine hK.out _ _ hSn (fun hS => ?_)
            clear hK K hSn
            refine wpAnyH_done (by kernel_rfl) ?_ _
            have HSZ := Lib.hid hS
            clear hS hs2 hmk hc1a hc2a hc1b hc2b hc1c hc2c hc1d HS7 HQ1 HQ2 HMK HV
            go_wp2
            go_loopw [10] (fun x wr => PaR w6 x wr) (fun x _ => 15 - (intOf x).toNat)
            case atStart => exact ⟨0, Nat.zero_le _, rfl, HSZ.out⟩
            case round =>
              clear HSZ
              obtain ⟨k, hk, rfl, hbr⟩ := hrel
              by_cases hlt : k < 15
              · have h0 : ¬ ((k : Int) < 0) := by omega
                have h1 : (k : Int) < 15 := by omega
                have hkl : k < l.length := by have := HL.out; omega
                have hkl' : k < l'.length := by have := HL'.out; omega
                obtain ⟨r, hrk⟩ : ∃ r, r = 16 * k := ⟨_, rfl⟩
                have hpa := HPA.out.pce k hkl
                have hpb := HPB.out.pce k hkl'
                rw [← hrk] at hpa hpb
                obtain ⟨p, hp⟩ : ∃ p, p = l[k] := ⟨_, rfl⟩
                obtain ⟨q, hq⟩ : ∃ q, q = l'[k] := ⟨_, rfl⟩
                rw [← hp] at hpa
                rw [← hq] at hpb
                have hpm : p.May := by rw [hp]; exact HM.out _ (List.getElem_mem hkl)
                have hqm : q.May := by rw [hq]; exact HM'.out _ (List.getElem_mem hkl')
                have hpu : p.U := by rw [hp]; exact HU.out _ (List.getElem_mem hkl)
                have hqu : q.U := by rw [hq]; exact HU'.out _ (List.getElem_mem hkl')
                have hbe := bytes_beq hpm hpu hqm hqu
                obtain ⟨vv, hvv⟩ : ∃ v, v = decide (p = q) := ⟨_, rfl⟩
                rw [← hvv] at hbe
                have hpe := run_pt_eq p q vv ((Pt.eq_beq p q).trans hvv.symm)
                have hne := run_pt_neq p p
                rw [decide_eq_true rfl] at hne
                have hrd := fun V A c hc hr => ptr_readX A 16 c p.bytes V (Pt.bytes_len p) hc hr p 0 (read_bytes hpm hpu).2 (read_bytes hpm hpu).1
                obtain ⟨bA, oA, hA, hAb, -⟩ := HRO.out.at5 (k := k) (by omega) HL.out
                obtain ⟨bB, oB, hB, hBb, -⟩ := HRO'.out.at5 (k := k) (by omega) HL'.out
                have hcA : ∀ V, Below w6.heap.size w6 V → V.cell? ⟨bA, oA + k * 5, none⟩ = some (.int .i64 p.a) ∧ V.cell? ⟨bA, oA + k * 5 + 1, none⟩ = some (.int .u32 p.b) ∧ V.cell? ⟨bA, oA + k * 5 + 2, none⟩ = some (.int .u32 p.i) ∧ V.cell? ⟨bA, oA + k * 5 + 3, none⟩ = some (.int .u32 p.t) ∧ V.cell? ⟨bA, oA + k * 5 + 4, none⟩ = some (.int .u32 p.s) := fun V hV => by
                  obtain ⟨b', o', e, -, hc⟩ := (HRO.out.below hV).at5 (k := k) (by omega) HL.out
                  rw [hA] at e
                  cases e
                  rw [hp]
                  exact hc
                have hcB : ∀ V, Below w6.heap.size w6 V → V.cell? ⟨bB, oB + k * 5, none⟩ = some (.int .i64 q.a) ∧ V.cell? ⟨bB, oB + k * 5 + 1, none⟩ = some (.int .u32 q.b) ∧ V.cell? ⟨bB, oB + k * 5 + 2, none⟩ = some (.int .u32 q.i) ∧ V.cell? ⟨bB, oB + k * 5 + 3, none⟩ = some (.int .u32 q.t) ∧ V.cell? ⟨bB, oB + k * 5 + 4, none⟩ = some (.int .u32 q.s) := fun V hV => by
                  obtain ⟨b', o', e, -, hc⟩ := (HRO'.out.below hV).at5 (k := k) (by omega) HL'.out
                  rw [hB] at e
                  cases e
                  rw [hq]
                  exact hc
                have hRA : ∀ V, Below w6.heap.size w6 V → Rd V w6.heap.size 1 (some ⟨g1, 16 + r, none⟩) 16 (bvs p.bytes) := fun V hV => by
                  have h := (HR1.out.below hV).sub (16 + r) 16 (by omega)
                  rw [← bvs_drop, ← bvs_take, hpa] at h
                  rwa [Nat.zero_add] at h
                have hRB : ∀ V, Below w6.heap.size w6 V → Rd V w6.heap.size 1 (some ⟨g2, 16 + r, none⟩) 16 (bvs q.bytes) := fun V hV => by
                  have h := (HR2.out.below hV).sub (16 + r) 16 (by omega)
                  rw [← bvs_drop, ← bvs_take, hpb] at h
                  rwa [Nat.zero_add] at h
                have hw1 : IntKind.i64.wrap (16 * (k : Int)) = (r : Int) := by rw [IntWalk.i64_in _ (by omega)]; omega
                obtain ⟨ra, hra⟩ : ∃ x, x = 16 + r := ⟨_, rfl⟩
                obtain ⟨rb, hrb⟩ : ∃ x, x = 32 + r := ⟨_, rfl⟩
                have hw2 : IntKind.i64.wrap (16 + (r : Int)) = (ra : Int) := by rw [IntWalk.i64_in _ (by omega)]; omega
                have hw3 : IntKind.i64.wrap (32 + (r : Int)) = (rb : Int) := by rw [IntWalk.i64_in _ (by omega)]; omega
                have hmx : max (rb : Int) 0 = (rb : Int) := by omega
                have hd1 : rb - ra = 16 := by omega
                have hd2 : (ra : Int) ≤ (rb : Int) := by omega
                have hd3 : ra ≤ rb := by omega
                have hd4 : (rb : Int) ≤ (c1 : Int) := by have := HC1.out; omega
                have hd5 : (rb : Int) ≤ (c2 : Int) := by have := HC2.out; omega
                have hd6 : rb ≤ c1 := by omega
                have hd7 : rb ≤ c2 := by omega
                have hd8 : ¬ c1 = ra := by omega
                have hd9 : ¬ c2 = ra := by omega
                have HCC := Lib.hid (show 16 ≤ c1 - ra by omega)
                rw [← hra] at hRA hRB
                have HBE := Lib.hid hbe
                have HPE := Lib.hid hpe
                have HNE := Lib.hid hne
                have HRD := Lib.hid hrd
                have HCA := Lib.hid hcA
                have HCB := Lib.hid hcB
                have HRA := Lib.hid hRA
                have HRB := Lib.hid hRB
                have HA := Lib.hid hA
                have HBq := Lib.hid hB
                have HBR := Lib.hid hbr
                have HBRd := Lib.hid hbr.drew
                clear hpa hpb hpm hqm hpu hqu hbe hvv hpe hne hrd hcA hcB hRA hRB hA hB hAb hBb hbr hkl hkl' hrk hp hq hra hrb
                go_wp2
                refine wp_region_held_drew (S := fun V => Below w6.heap.size w6 V) (by kernel_rfl) HBRd.out (fun hS => ?_)
                refine wpAnyH_take (i := 0) (v := ?_) rfl (by kernel_rfl) (by kernel_rfl) (by kernel_rfl) (fun _ _ _ h => h) (Or.inl ⟨by rfl, ?hyq⟩) hS ?_
                case hyq =>
                  intro w hw
                  go_simp
                  try (with_reducible rfl)
                try go_simp
                refine wpAnyH_take (i := 1) (v := ?_) rfl (by kernel_rfl) (by kernel_rfl) (by kernel_rfl) (fun _ _ _ h => h) (Or.inl ⟨by rfl, ?hyq⟩) hS ?_
                case hyq =>
                  intro w hw
                  go_simp
                  try (with_reducible rfl)
                try go_simp
                refine wpAnyH_take (i := 2) (v := ?_) rfl (by kernel_rfl) (by kernel_rfl) (by kernel_rfl) (fun _ _ _ h => h) (Or.inl ⟨by rfl, ?hyq⟩) hS ?_
                case hyq =>
                  intro w hw
                  go_simp
                  try (with_reducible rfl)
                try go_simp
                refine wpAnyH_take (i := 3) (v := ?_) rfl (by kernel_rfl) (by kernel_rfl) (by kernel_rfl) (fun _ _ _ h => h) (Or.inl ⟨by rfl, ?hyq⟩) hS ?_
                case hyq =>
                  intro w hw
                  go_simp
                  try (with_reducible rfl)
                try go_simp
                refine wpAnyH_take (i := 4) (v := ?_) rfl (by kernel_rfl) (by kernel_rfl) (by kernel_rfl) (fun _ _ _ h => h) (Or.inl ⟨by rfl, ?hyq⟩) hS ?_
                case hyq =>
                  intro w hw
                  go_simp
                  try (with_reducible rfl)
                try go_simp
                refine wpAnyH_take (i := 5) (v := ?_) rfl (by kernel_rfl) (by kernel_rfl) (by kernel_rfl) (fun _ _ _ h => h) (Or.inl ⟨by rfl, ?hyq⟩) hS ?_
                case hyq =>
                  intro w hw
                  go_simp
                  try (with_reducible rfl)
                try go_simp
                refine wpAnyH_take (i := 6) (v := ?_) rfl (by kernel_rfl) (by kernel_rfl) (by kernel_rfl) (fun _ _ _ h => h) (Or.inl ⟨by rfl, ?hyq⟩) hS ?_
                case hyq =>
                  intro w hw
                  go_simp
                  try (with_reducible rfl)
                try go_simp
                refine wpAnyH_take (i := 7) (v := ?_) rfl (by kernel_rfl) (by kernel_rfl) (by kernel_rfl) (fun _ _ _ h => h) (Or.inl ⟨by rfl, ?hyq⟩) hS ?_
                case hyq =>
                  intro w hw
                  go_simp
                  try (with_reducible rfl)
                try go_simp
                refine wpAnyH_take (i := 8) (v := ?_) rfl (by kernel_rfl) (by kernel_rfl) (by kernel_rfl) (fun _ _ _ h => h) (Or.inl ⟨by rfl, ?hyq⟩) hS ?_
                case hyq =>
                  intro w hw
                  go_simp
                  try (with_reducible rfl)
                try go_simp
                refine wpAnyH_take (i := 9) (v := ?_) rfl (by kernel_rfl) (by kernel_rfl) (by kernel_rfl) (fun _ _ _ h => h) (Or.inl ⟨by rfl, ?hyq⟩) hS ?_
                case hyq =>
                  intro w hw
                  go_simp
                  try (with_reducible rfl)
                try go_simp
                refine wpAnyH_take (i := 10) (v := ?_) rfl (by kernel_rfl) (by kernel_rfl) (by kernel_rfl) (fun _ _ _ h => h) (Or.inl ⟨by rfl, ?hyq⟩) hS ?_
                case hyq =>
                  intro w hw
                  go_simp
                  try (with_reducible rfl)
                try go_simp
                refine wpAnyH_take (i := 11) (v := ?_) rfl (by kernel_rfl) (by kernel_rfl) (by kernel_rfl) (fun _ _ _ h => h) (Or.inl ⟨by rfl, ?hyq⟩) hS ?_
                case hyq =>
                  intro w hw
                  go_simp
                  try (with_reducible rfl)
                try go_simp
                refine wpAnyH_take (i := 12) (v := ?_) rfl (by kernel_rfl) (by kernel_rfl) (by kernel_rfl) (fun _ _ _ h => h) (Or.inl ⟨by rfl, ?hyq⟩) hS ?_
                case hyq =>
                  intro w hw
                  go_simp
                  try (with_reducible rfl)
                try go_simp
                refine wpAnyH_take (i := 13) (v := ?_) rfl (by kernel_rfl) (by kernel_rfl) (by kernel_rfl) (fun _ _ _ h => h) (Or.inl ⟨by rfl, ?hyq⟩) hS ?_
                case hyq =>
                  intro w hw
                  go_simp
                  try (with_reducible rfl)
                try go_simp
                refine wpAnyH_take (i := 14) (v := ?_) rfl (by kernel_rfl) (by kernel_rfl) (by kernel_rfl) (fun _ _ _ h => h) (Or.inl ⟨by rfl, ?hyq⟩) hS ?_
                case hyq =>
                  intro w hw
                  go_simp
                  try (with_reducible rfl)
                try go_simp
                refine wpAnyH_take (i := 15) (v := ?_) rfl (by kernel_rfl) (by kernel_rfl) (by kernel_rfl) (fun _ _ _ h => h) (Or.inl ⟨by rfl, ?hyq⟩) hS ?_
                case hyq =>
                  intro w hw
                  go_simp
                  try (with_reducible rfl)
                try go_simp
                try go_simp
                refine wpAnyH_ready (rs := [16]) (by kernel_rfl) (by simp) ?_
                refine all_consH rfl (fun K hK => ?_) ?_
                · skip
                  refine Stp.mk ?_
                  go_simp
                  have hSn := hS
                  refine hK.out _ _ hSn (fun hS => ?_)
                  clear hK K hSn
                  try go_simp
                  refine wpAnyH_ready (rs := [17]) (by kernel_rfl) (by simp) ?_
                  refine all_consH rfl (fun K hK => ?_) ?_
                  · skip
                    refine Stp.mk ?_
                    go_simp
                    have hSn := hS
                    refine hK.out _ _ hSn (fun hS => ?_)
                    clear hK K hSn
                    refine wpAnyH_done (by kernel_rfl) ?_ _
                    clear hw1 hw2 hw3 hmx hd1 hd2 hd3 hd6 hd7 hd8 hd9
                    have HSa := Lib.hid hS.drew
                    clear hS
                    have hbe := HBE.out
                    have hpe := HPE.out
                    go_wp2
                    refine wp_region_held_drew (S := fun V => Below w6.heap.size w6 V) (by kernel_rfl) HSa.out (fun hS => ?_)
                    obtain ⟨Wa, hWa⟩ : ∃ V, V = wr.drew.drew := ⟨_, rfl⟩
                    rw [← hWa] at hS ⊢
                    clear hWa
                    refine wpAnyH_take (i := 0) (v := ?_) rfl (by kernel_rfl) (by kernel_rfl) (by kernel_rfl) (fun _ _ _ h => h) (Or.inl ⟨by rfl, ?hyq⟩) hS ?_
                    case hyq =>
                      intro w hw
                      go_simp
                      try (with_reducible rfl)
                    try go_simp
                    refine wpAnyH_take (i := 1) (v := ?_) rfl (by kernel_rfl) (by kernel_rfl) (by kernel_rfl) (fun _ _ _ h => h) (Or.inl ⟨by rfl, ?hyq⟩) hS ?_
                    case hyq =>
                      intro w hw
                      have hcv := conv (HRA.out w hw) (c1 - ra)
                      go_simp
                      try (with_reducible rfl)
                    try go_simp
                    refine wpAnyH_take (i := 2) (v := ?_) rfl (by kernel_rfl) (by kernel_rfl) (by kernel_rfl) (fun _ _ _ h => h) (Or.inl ⟨by rfl, ?hyq⟩) hS ?_
                    case hyq =>
                      intro w hw
                      go_simp
                      try (with_reducible rfl)
                    try go_simp
                    refine wpAnyH_take (i := 3) (v := ?_) rfl (by kernel_rfl) (by kernel_rfl) (by kernel_rfl) (fun _ _ _ h => h) (Or.inl ⟨by rfl, ?hyq⟩) hS ?_
                    case hyq =>
                      intro w hw
                      have hcv := conv (HRB.out w hw) (c2 - ra)
                      go_simp
                      try (with_reducible rfl)
                    try go_simp
                    refine wpAnyH_take (i := 4) (v := ?_) rfl (by kernel_rfl) (by kernel_rfl) (by kernel_rfl) (fun _ _ _ h => h) (Or.inl ⟨by rfl, ?hyq⟩) hS ?_
                    case hyq =>
                      intro w hw
                      go_simp
                      try (with_reducible rfl)
                    try go_simp
                    refine wpAnyH_take (i := 5) (v := ?_) rfl (by kernel_rfl) (by kernel_rfl) (by kernel_rfl) (fun _ _ _ h => h) (Or.inl ⟨by rfl, ?hyq⟩) hS ?_
                    case hyq =>
                      intro w hw
                      go_simp
                      try (with_reducible rfl)
                    try go_simp
                    refine wpAnyH_take (i := 6) (v := ?_) rfl (by kernel_rfl) (by kernel_rfl) (by kernel_rfl) (fun _ _ _ h => h) (Or.inl ⟨by rfl, ?hyq⟩) hS ?_
                    case hyq =>
                      intro w hw
                      obtain ⟨k0, k1, k2, k3⟩ := (HX6.out.below hw HX6.out.lt).cells
                      rw [HA.out] at k3
                      go_simp
                      try (with_reducible rfl)
                    try go_simp
                    refine wpAnyH_take (i := 7) (v := ?_) rfl (by kernel_rfl) (by kernel_rfl) (by kernel_rfl) (fun _ _ _ h => h) (Or.inl ⟨by rfl, ?hyq⟩) hS ?_
                    case hyq =>
                      intro w hw
                      go_simp
                      try (with_reducible rfl)
                    try go_simp
                    refine wpAnyH_take (i := 8) (v := ?_) rfl (by kernel_rfl) (by kernel_rfl) (by kernel_rfl) (fun _ _ _ h => h) (Or.inl ⟨by rfl, ?hyq⟩) hS ?_
                    case hyq =>
                      intro w hw
                      go_simp
                      try (with_reducible rfl)
                    try go_simp
                    refine wpAnyH_take (i := 9) (v := ?_) rfl (by kernel_rfl) (by kernel_rfl) (by kernel_rfl) (fun _ _ _ h => h) (Or.inl ⟨by rfl, ?hyq⟩) hS ?_
                    case hyq =>
                      intro w hw
                      obtain ⟨k0, k1, k2, k3, k4⟩ := HCA.out w hw
                      go_simp
                      try (with_reducible rfl)
                    try go_simp
                    refine wpAnyH_take (i := 10) (v := ?_) rfl (by kernel_rfl) (by kernel_rfl) (by kernel_rfl) (fun _ _ _ h => h) (Or.inl ⟨by rfl, ?hyq⟩) hS ?_
                    case hyq =>
                      intro w hw
                      go_simp
                      try (with_reducible rfl)
                    try go_simp
                    refine wpAnyH_take (i := 11) (v := ?_) rfl (by kernel_rfl) (by kernel_rfl) (by kernel_rfl) (fun _ _ _ h => h) (Or.inl ⟨by rfl, ?hyq⟩) hS ?_
                    case hyq =>
                      intro w hw
                      obtain ⟨k0, k1, k2, k3⟩ := (HY6.out.below hw HY6.out.lt).cells
                      rw [HBq.out] at k3
                      go_simp
                      try (with_reducible rfl)
                    try go_simp
                    refine wpAnyH_take (i := 12) (v := ?_) rfl (by kernel_rfl) (by kernel_rfl) (by kernel_rfl) (fun _ _ _ h => h) (Or.inl ⟨by rfl, ?hyq⟩) hS ?_
                    case hyq =>
                      intro w hw
                      go_simp
                      try (with_reducible rfl)
                    try go_simp
                    refine wpAnyH_take (i := 13) (v := ?_) rfl (by kernel_rfl) (by kernel_rfl) (by kernel_rfl) (fun _ _ _ h => h) (Or.inl ⟨by rfl, ?hyq⟩) hS ?_
                    case hyq =>
                      intro w hw
                      go_simp
                      try (with_reducible rfl)
                    try go_simp
                    refine wpAnyH_take (i := 14) (v := ?_) rfl (by kernel_rfl) (by kernel_rfl) (by kernel_rfl) (fun _ _ _ h => h) (Or.inl ⟨by rfl, ?hyq⟩) hS ?_
                    case hyq =>
                      intro w hw
                      obtain ⟨k0, k1, k2, k3, k4⟩ := HCB.out w hw
                      go_simp
                      try (with_reducible rfl)
                    try go_simp
                    refine wpAnyH_take (i := 15) (v := ?_) rfl (by kernel_rfl) (by kernel_rfl) (by kernel_rfl) (fun _ _ _ h => h) (Or.inl ⟨by rfl, ?hyq⟩) hS ?_
                    case hyq =>
                      intro w hw
                      go_simp
                      try (with_reducible rfl)
                    try go_simp
                    try go_simp
                    refine wpAnyH_ready (rs := [16]) (by kernel_rfl) (by simp) ?_
                    refine all_consH rfl (fun K hK => ?_) ?_
                    · skip
                      refine Stp.mk ?_
                      go_simp
                      have hSn := hS
                      refine hK.out _ _ hSn (fun hS => ?_)
                      clear hK K hSn
                      refine wpAnyH_done (by kernel_rfl) ?_ _
                      clear hbe hpe
                      have HSb := Lib.hid hS
                      clear hS
                      go_wp2_with fail
                      refine (HRD.out _ (some ⟨g1, ra, none⟩) (c1 - ra) HCC.out ((HRA.out _ HSb.out).more HSb.out.size)).mono ?_
                      rintro e w11 ⟨rfl, b11⟩
                      obtain ⟨V12, hV⟩ : ∃ V, V = w11.alloc (.cells #[.int .i64 p.a, .int .u32 p.b, .int .u32 p.i, .int .u32 p.t, .int .u32 p.s] 31) := ⟨_, rfl⟩
                      have hb2 : Below w11.heap.size w11 V12 := by rw [hV]; exact below_new _ _
                      have HP12 := Lib.hid (show PtBox V12 w11.heap.size p from by rw [hV]; exact PtBox.new _ _)
                      have HSc := Lib.hid (below_to (below_to HSb.out b11 HSb.out.size) hb2 (below_to HSb.out b11 HSb.out.size).size)
                      have HVV := Lib.hid hV
                      clear b11 hb2 hV HSb hd4 hd5
                      go_wp2
                      rw [← HVV.out]
                      clear HVV
                      have hne := HNE.out
                      refine wp_region_held_drew (S := fun V => Below V12.heap.size V12 V) (by kernel_rfl) (show Below V12.heap.size V12 V12.drew from (Below.refl _ _).drew) (fun hS => ?_)
                      refine wpAnyH_take (i := 0) (v := ?_) rfl (by kernel_rfl) (by kernel_rfl) (by kernel_rfl) (fun _ _ _ h => h) (Or.inl ⟨by rfl, ?hyq⟩) hS ?_
                      case hyq =>
                        intro w hw
                        go_simp
                        try (with_reducible rfl)
                      try go_simp
                      refine wpAnyH_take (i := 1) (v := ?_) rfl (by kernel_rfl) (by kernel_rfl) (by kernel_rfl) (fun _ _ _ h => h) (Or.inl ⟨by rfl, ?hyq⟩) hS ?_
                      case hyq =>
                        intro w hw
                        go_simp
                        try (with_reducible rfl)
                      try go_simp
                      refine wpAnyH_take (i := 2) (v := ?_) rfl (by kernel_rfl) (by kernel_rfl) (by kernel_rfl) (fun _ _ _ h => h) (Or.inl ⟨by rfl, ?hyq⟩) hS ?_
                      case hyq =>
                        intro w hw
                        go_simp
                        try (with_reducible rfl)
                      try go_simp
                      refine wpAnyH_take (i := 3) (v := ?_) rfl (by kernel_rfl) (by kernel_rfl) (by kernel_rfl) (fun _ _ _ h => h) (Or.inl ⟨by rfl, ?hyq⟩) hS ?_
                      case hyq =>
                        intro w hw
                        obtain ⟨k0, k1, k2, k3, k4⟩ := (HP12.out.below hw HP12.out.lt).cells
                        go_simp
                        try (with_reducible rfl)
                      try go_simp
                      refine wpAnyH_take (i := 4) (v := ?_) rfl (by kernel_rfl) (by kernel_rfl) (by kernel_rfl) (fun _ _ _ h => h) (Or.inl ⟨by rfl, ?hyq⟩) hS ?_
                      case hyq =>
                        intro w hw
                        go_simp
                        try (with_reducible rfl)
                      try go_simp
                      refine wpAnyH_take (i := 5) (v := ?_) rfl (by kernel_rfl) (by kernel_rfl) (by kernel_rfl) (fun _ _ _ h => h) (Or.inl ⟨by rfl, ?hyq⟩) hS ?_
                      case hyq =>
                        intro w hw
                        obtain ⟨k0, k1, k2, k3⟩ := ((HX6.out.below HSc.out HX6.out.lt).below hw (HX6.out.below HSc.out HX6.out.lt).lt).cells
                        rw [HA.out] at k3
                        go_simp
                        try (with_reducible rfl)
                      try go_simp
                      refine wpAnyH_take (i := 6) (v := ?_) rfl (by kernel_rfl) (by kernel_rfl) (by kernel_rfl) (fun _ _ _ h => h) (Or.inl ⟨by rfl, ?hyq⟩) hS ?_
                      case hyq =>
                        intro w hw
                        go_simp
                        try (with_reducible rfl)
                      try go_simp
                      refine wpAnyH_take (i := 7) (v := ?_) rfl (by kernel_rfl) (by kernel_rfl) (by kernel_rfl) (fun _ _ _ h => h) (Or.inl ⟨by rfl, ?hyq⟩) hS ?_
                      case hyq =>
                        intro w hw
                        go_simp
                        try (with_reducible rfl)
                      try go_simp
                      refine wpAnyH_take (i := 8) (v := ?_) rfl (by kernel_rfl) (by kernel_rfl) (by kernel_rfl) (fun _ _ _ h => h) (Or.inl ⟨by rfl, ?hyq⟩) hS ?_
                      case hyq =>
                        intro w hw
                        obtain ⟨k0, k1, k2, k3, k4⟩ := HCA.out w (below_to HSc.out hw HSc.out.size)
                        go_simp
                        try (with_reducible rfl)
                      try go_simp
                      refine wpAnyH_take (i := 9) (v := ?_) rfl (by kernel_rfl) (by kernel_rfl) (by kernel_rfl) (fun _ _ _ h => h) (Or.inl ⟨by rfl, ?hyq⟩) hS ?_
                      case hyq =>
                        intro w hw
                        go_simp
                        try (with_reducible rfl)
                      try go_simp
                      try go_simp
                      refine wpAnyH_ready (rs := [10]) (by kernel_rfl) (by simp) ?_
                      refine all_consH rfl (fun K hK => ?_) ?_
                      · skip
                        refine Stp.mk ?_
                        go_simp
                        have hSn := hS
                        refine hK.out _ _ hSn (fun hS => ?_)
                        clear hK K hSn
                        refine wpAnyH_done (by kernel_rfl) ?_ _
                        clear hne
                        have HSd := Lib.hid (below_to HSc.out hS HSc.out.size)
                        clear hS
                        go_wp2
                        go_roundw
                        case rel => exact ⟨k + 1, by omega, by simp, HSd.out⟩
                        case measure => simp [intOf]; omega
                      exact AllReadyH.nil
                    exact AllReadyH.nil
                  exact AllReadyH.nil
                exact AllReadyH.nil
              · obtain rfl : k = 15 := by omega
                have HBE := Lib.hid (below_to HB6.out hbr HB6.out.size)
                clear hbr
                go_wp2
                go_ret
                exact ⟨rfl, HBE.out⟩
          exact AllReadyH.nil
        exact AllReadyH.nil
      exact AllReadyH.nil
    exact AllReadyH.nil
  exact AllReadyH.nil
theorem objParts_walk (Kd L S : Int) (A : Option Addr) (n c : Nat) (l : List Pt) (Kd' L' S' : Int) (A' : Option Addr) (n' c' : Nat) (l' : List Pt) (w : World) (hl : l.length = n) (hU : AllU l) (hr : Rd w w.heap.size 5 A n (pcs l)) (hK8 : 0 ≤ Kd ∧ Kd ≤ 255) (hl' : l'.length = n') (hU' : AllU l') (hr' : Rd w w.heap.size 5 A' n' (pcs l')) (hK8' : 0 ≤ Kd' ∧ Kd' ≤ 255) :
    Calls Try.prog 15 #[.agg #[.int .u8 Kd, .int .i64 L, .int .i64 S, .slice A n c], .agg #[.int .u8 Kd', .int .i64 L', .int .i64 S', .slice A' n' c']] w fun e w' => e = .returned (.bool true) ∧ Below w.heap.size w w' := by
  by_cases hm : ObMay Kd L S l
  · by_cases hm' : ObMay Kd' L' S' l'
    · exact objParts_both Kd L S A n c l Kd' L' S' A' n' c' l' w hl hU hr hK8 hl' hU' hr' hK8' hm hm'
    · exact objParts_not2 Kd L S A n c l Kd' L' S' A' n' c' l' w hl hU hr hK8 hl' hU' hr' hK8' hm hm'
  · exact objParts_not1 Kd L S A n c l Kd' L' S' A' n' c' l' w hl hU hr hK8 hl' hU' hr' hK8' hm
end Go.Proofs.Ytgcagenhfddpgaa
