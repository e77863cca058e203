/-
  charterhouseref14: contracts of May, Check, Same.
-/
import Derived.Test.YtgcagenhfddpgaaRef10e
import Derived.Test.YtgcagenhfddpgaaObjC
namespace Go.Proofs.Ytgcagenhfddpgaa
open Go.RowKit
set_option linter.unusedVariables false
set_option linter.unusedSimpArgs false
set_option maxRecDepth 100000

def OmR (l : List Pt) (W : World) (x : Value) (wr : World) : Prop :=
  ∃ k : Nat, k ≤ 15 ∧ x = .int .i64 (k : Int) ∧ (∀ i, i < k → (ptAt l i).May) ∧ Below W.heap.size W wr
set_option maxHeartbeats 4000000 in
theorem q_omay (Kd Ld Sd : Int) (A : Option Addr) (n c : Nat) (l : List Pt) (w : World) (hl : l.length = n) (hr : Rd w w.heap.size 5 A n (pcs l)) (hK8 : 0 ≤ Kd ∧ Kd ≤ 255) (v : Bool) (hv : v = decide (ObMay Kd Ld Sd l)) :
    Calls Try.prog 61 #[.agg #[.int .u8 Kd, .int .i64 Ld, .int .i64 Sd, .slice A n c]] w fun e w' => e = .returned (.bool v) ∧ Below w.heap.size w w' := by
  have hx := ObBox.new w Kd Ld Sd (.slice A n c)
  have hb := below_new w (.cells #[.int .u8 Kd, .int .i64 Ld, .int .i64 Sd, .slice A n c] 50)
  obtain ⟨d0, d1, d2, d3⟩ := hx.cells
  have HB := Lib.hid hb
  have HX := Lib.hid hx
  have HR := Lib.hid hr
  have HV := Lib.hid hv
  have HL := Lib.hid hl
  clear hx hb hr hv hl
  by_cases h1 : Kd < 1
  · obtain rfl : v = false := by
      rw [HV.out]
      refine decide_eq_false fun h => ?_
      have := h.1.1
      omega
    clear hK8
    go_enter Try.func61, Try.ntmps61
    go_wp2
    go_ret
    exact ⟨rfl, HB.out⟩
  by_cases h2 : 7 < Kd
  · obtain rfl : v = false := by
      rw [HV.out]
      refine decide_eq_false fun h => ?_
      have := h.1.2
      omega
    clear hK8
    go_enter Try.func61, Try.ntmps61
    go_wp2
    go_ret
    exact ⟨rfl, HB.out⟩
  by_cases h3 : Ld < 0
  · obtain rfl : v = false := by
      rw [HV.out]
      refine decide_eq_false fun h => ?_
      have := h.2.1.1
      omega
    clear hK8
    go_enter Try.func61, Try.ntmps61
    go_wp2
    go_ret
    exact ⟨rfl, HB.out⟩
  by_cases h4 : 255 < Ld
  · obtain rfl : v = false := by
      rw [HV.out]
      refine decide_eq_false fun h => ?_
      have := h.2.1.2
      omega
    clear hK8
    go_enter Try.func61, Try.ntmps61
    go_wp2
    go_ret
    exact ⟨rfl, HB.out⟩
  by_cases h5 : Sd < 0
  · obtain rfl : v = false := by
      rw [HV.out]
      refine decide_eq_false fun h => ?_
      have := h.2.2.1.1
      omega
    clear hK8
    go_enter Try.func61, Try.ntmps61
    go_wp2
    go_ret
    exact ⟨rfl, HB.out⟩
  by_cases h6 : 3840 < Sd
  · obtain rfl : v = false := by
      rw [HV.out]
      refine decide_eq_false fun h => ?_
      have := h.2.2.1.2
      omega
    clear hK8
    go_enter Try.func61, Try.ntmps61
    go_wp2
    go_ret
    exact ⟨rfl, HB.out⟩
  by_cases h7 : (n : Int) = 15
  · obtain rfl : n = 15 := by omega
    clear hK8
    go_enter Try.func61, Try.ntmps61
    generalize hW : w.alloc (.cells #[.int .u8 Kd, .int .i64 Ld, .int .i64 Sd, .slice A 15 c] 50) = W at *
    have HW := Lib.hid hW
    clear hW
    go_wp2
    rw [HW.out]
    clear d0 d1 d2 d3
    go_loopw [3] (fun x wr => OmR l W x wr) (fun x _ => 15 - (intOf x).toNat)
    case atStart => exact ⟨0, Nat.zero_le _, rfl, fun i hi => absurd hi (Nat.not_lt_zero _), Below.refl _ _⟩
    case round =>
      obtain ⟨k, hk, rfl, hm, hb⟩ := hrel
      obtain ⟨d0, d1, d2, d3⟩ := (HX.out.below hb HX.out.lt).cells
      by_cases hlt : k < 15
      · have hpa := ptAt_lt (l := l) (k := k) (by have := HL.out; omega)
        obtain ⟨b, off, hA, hbb, c0, c1, c2, c3, c4⟩ := ((HR.out.below HB.out).below (hb.mono HB.out.size)).at5 (k := k) (by omega) HL.out
        rw [← hpa] at c0 c1 c2 c3 c4
        rw [hA] at d3
        have g0 : ¬ ((k : Int) < 0) := by omega
        have g1 : (k : Int) < 15 := by omega
        have HBR := Lib.hid hb
        by_cases hpm : (ptAt l k).May
        · have hms : ∀ i, i < k + 1 → (ptAt l i).May := fun i hi => by
            by_cases hik : i < k
            · exact hm i hik
            · obtain rfl : i = k := by omega
              exact hpm
          have HMS := Lib.hid hms
          have hY := fun V => q_may (ptAt l k) true (decide_eq_true hpm) V
          clear hpa hms hm hb hpm hA hbb
          generalize ptAt l k = p at *
          have HY := Lib.hid hY
          clear hY
          go_wp2_with fail
          refine (HY.out _).mono ?_
          rintro e w3 ⟨rfl, b3⟩
          have HB3 := Lib.hid (below_to HBR.out b3 HBR.out.size)
          clear b3 HY c0 c1 c2 c3 c4 d0 d1 d2 d3
          go_wp2
          go_roundw
          case rel => exact ⟨k + 1, by omega, by simp, HMS.out, HB3.out⟩
          case measure => simp [intOf]; omega
        · have hvf : v = false := by
            rw [HV.out]
            exact decide_eq_false fun h => hpm (ptAt_may h.2.2.2.2 k)
          have HVF := Lib.hid hvf
          have hY := fun V => q_may (ptAt l k) false (decide_eq_false hpm) V
          clear hpa hm hb hpm hA hbb hvf
          generalize ptAt l k = p at *
          have HY := Lib.hid hY
          clear hY
          go_wp2_with fail
          refine (HY.out _).mono ?_
          rintro e w3 ⟨rfl, b3⟩
          have HB3 := Lib.hid (below_to HBR.out b3 HBR.out.size)
          clear b3 HY c0 c1 c2 c3 c4 d0 d1 d2 d3
          go_wp2
          go_ret
          rw [HVF.out]
          exact ⟨rfl, below_to HB.out HB3.out HB.out.size⟩
      · obtain rfl : k = 15 := by omega
        have hvt : v = true := by
          rw [HV.out]
          refine decide_eq_true ⟨by omega, by omega, by omega, HL.out, fun p hp => ?_⟩
          obtain ⟨i, hi, rfl⟩ := List.mem_iff_getElem.1 hp
          rw [← ptAt_lt hi]
          exact hm i (by have := HL.out; omega)
        have HVT := Lib.hid hvt
        have HBR := Lib.hid hb
        clear hvt hm hb d0 d1 d2 d3
        go_wp2
        go_ret
        rw [HVT.out]
        exact ⟨rfl, below_to HB.out HBR.out HB.out.size⟩
  · obtain rfl : v = false := by
      rw [HV.out]
      refine decide_eq_false fun h => ?_
      have := h.2.2.2.1
      have := HL.out
      omega
    clear hK8
    go_enter Try.func61, Try.ntmps61
    go_wp2
    go_ret
    exact ⟨rfl, HB.out⟩
theorem q_ocheck (Kd Ld Sd : Int) (A : Option Addr) (n c : Nat) (l : List Pt) (w : World) (hl : l.length = n) (hr : Rd w w.heap.size 5 A n (pcs l)) (hK8 : 0 ≤ Kd ∧ Kd ≤ 255) :
    Calls Try.prog 45 #[.agg #[.int .u8 Kd, .int .i64 Ld, .int .i64 Sd, .slice A n c]] w fun e w' => e = .returned (.int .i64 (obE Kd Ld Sd l)) ∧ Below w.heap.size w w' := by
  have hb := below_new w (.cells #[.int .u8 Kd, .int .i64 Ld, .int .i64 Sd, .slice A n c] 50)
  obtain ⟨d0, d1, d2, d3⟩ := (ObBox.new w Kd Ld Sd (.slice A n c)).cells
  have HB := Lib.hid hb
  have hr1 := (hr.below hb).more hb.size
  by_cases hm : ObMay Kd Ld Sd l
  · have HM := Lib.hid (q_omay Kd Ld Sd A n c l _ hl hr1 hK8 true (decide_eq_true hm).symm)
    rw [obE_yes hm]
    clear hm hb hr hr1 hl hK8
    go_enter Try.func45, Try.ntmps45
    go_wp2_with fail
    refine HM.out.mono ?_
    rintro e w1 ⟨rfl, b1⟩
    have hb1 := below_to HB.out b1 HB.out.size
    go_wp2
    go_ret
    exact ⟨rfl, hb1⟩
  · have HM := Lib.hid (q_omay Kd Ld Sd A n c l _ hl hr1 hK8 false (decide_eq_false hm).symm)
    rw [obE_no hm]
    clear hm hb hr hr1 hl hK8
    go_enter Try.func45, Try.ntmps45
    go_wp2_with fail
    refine HM.out.mono ?_
    rintro e w1 ⟨rfl, b1⟩
    have hb1 := below_to HB.out b1 HB.out.size
    go_wp2
    go_ret
    exact ⟨rfl, hb1⟩
set_option maxHeartbeats 2000000 in
theorem q_osame (Kd Ld Sd : Int) (A : Option Addr) (n c : Nat) (l : List Pt) (K' L' S' : Int) (D : Option Addr) (m d : Nat) (l2 : List Pt) (w : World) (hl : l.length = n) (hn : (n : Int) ≤ 1000000) (hr : Rd w w.heap.size 5 A n (pcs l)) (hl2 : l2.length = m) (hr2 : Rd w w.heap.size 5 D m (pcs l2)) (v : Bool) (hv : v = decide (Kd = K' ∧ Ld = L' ∧ Sd = S' ∧ l = l2)) :
    Calls Try.prog 44 #[.agg #[.int .u8 Kd, .int .i64 Ld, .int .i64 Sd, .slice A n c], .agg #[.int .u8 K', .int .i64 L', .int .i64 S', .slice D m d]] w fun e w' => e = .returned (.bool v) ∧ Below w.heap.size w w' := by
  have hb1 := below_new w (.cells #[.int .u8 Kd, .int .i64 Ld, .int .i64 Sd, .slice A n c] 50)
  have hb2 := below_alloc hb1 (.cells #[.int .u8 K', .int .i64 L', .int .i64 S', .slice D m d] 50) (Nat.le_refl _)
  have hx := (ObBox.new w Kd Ld Sd (.slice A n c)).alloc (.cells #[.int .u8 K', .int .i64 L', .int .i64 S', .slice D m d] 50)
  have hy := ObBox.new (w.alloc (.cells #[.int .u8 Kd, .int .i64 Ld, .int .i64 Sd, .slice A n c] 50)) K' L' S' (.slice D m d)
  rw [World.size_alloc] at hy
  obtain ⟨d0, d1, d2, d3⟩ := hx.cells
  obtain ⟨e0, e1, e2, e3⟩ := hy.cells
  have HB := Lib.hid hb2
  by_cases h1 : Kd = K'
  rotate_left
  · obtain rfl : v = false := by
      rw [hv]
      exact decide_eq_false fun h => h1 h.1
    have hf : (Kd = K') = False := eq_false h1
    clear hr hr2 hl hl2 hv hx hy hb1 hb2
    go_enter Try.func44, Try.ntmps44
    go_wp2
    go_ret
    exact ⟨rfl, HB.out⟩
  subst h1
  by_cases h2 : Ld = L'
  rotate_left
  · obtain rfl : v = false := by
      rw [hv]
      exact decide_eq_false fun h => h2 h.2.1
    have hf : (Ld = L') = False := eq_false h2
    clear hr hr2 hl hl2 hv hx hy hb1 hb2
    go_enter Try.func44, Try.ntmps44
    go_wp2
    go_ret
    exact ⟨rfl, HB.out⟩
  subst h2
  by_cases h3 : Sd = S'
  rotate_left
  · obtain rfl : v = false := by
      rw [hv]
      exact decide_eq_false fun h => h3 h.2.2.1
    have hf : (Sd = S') = False := eq_false h3
    clear hr hr2 hl hl2 hv hx hy hb1 hb2
    go_enter Try.func44, Try.ntmps44
    go_wp2
    go_ret
    exact ⟨rfl, HB.out⟩
  subst h3
  have hs := q_same A n c l D m d l2 _ hl hn ((hr.below hb2).more hb2.size) hl2 ((hr2.below hb2).more hb2.size) v (by rw [hv]; simp)
  have HS := Lib.hid hs
  clear hr hr2 hl hl2 hv hx hy hb1 hb2 hs
  go_enter Try.func44, Try.ntmps44
  go_wp2_with fail
  refine HS.out.mono ?_
  rintro e w1 ⟨rfl, b1⟩
  have hbe := below_to HB.out b1 HB.out.size
  go_wp2
  go_ret
  exact ⟨rfl, hbe⟩
end Go.Proofs.Ytgcagenhfddpgaa
