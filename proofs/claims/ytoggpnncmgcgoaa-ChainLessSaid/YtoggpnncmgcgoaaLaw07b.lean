/-
  The walks of layer 7's statements: ChainSame.
-/
import Derived.Test.YtoggpnncmgcgoaaLaw07
namespace Go.Proofs.Ytoggpnncmgcgoaa
open Go.RowKit
set_option linter.unusedVariables false
set_option linter.unusedSimpArgs false
set_option maxRecDepth 100000
attribute [local go_sem] str_toList toList_mk

theorem wi_sum (l : List UInt8) : wi (fourOf l).a = (sumN l : Int) := rfl
theorem csame_sb (A : Option Addr) (n c : Nat) (leaf : Int) (T : Option Addr) (m t : Nat) (U : Option Addr) (p u : Nat) (w : World)
    (h : 1000 < (n : Int)) : Calls Try.prog 8 #[.slice A n c, .int .i64 leaf, .slice T m t, .slice U p u] w fun e w' => e = .returned (.bool true) ∧ Below w.heap.size w w' := by
  go_enter Try.func8, Try.ntmps8
  go_wp2_with fail
  refine (alive07 _).mono ?_
  rintro e w1 ⟨rfl, b1⟩
  go_wp2
  go_ret
  exact ⟨rfl, b1⟩
theorem csame_ab (A : Option Addr) (n c : Nat) (leaf : Int) (T : Option Addr) (m t : Nat) (U : Option Addr) (p u : Nat) (w : World)
    (h1 : decide (1000 < (n : Int)) = false)
    (h : 1000 < (m : Int)) : Calls Try.prog 8 #[.slice A n c, .int .i64 leaf, .slice T m t, .slice U p u] w fun e w' => e = .returned (.bool true) ∧ Below w.heap.size w w' := by
  go_enter Try.func8, Try.ntmps8
  go_wp2_with fail
  refine (alive07 _).mono ?_
  rintro e w1 ⟨rfl, b1⟩
  go_wp2
  go_ret
  exact ⟨rfl, b1⟩
theorem csame_bb (A : Option Addr) (n c : Nat) (leaf : Int) (T : Option Addr) (m t : Nat) (U : Option Addr) (p u : Nat) (w : World)
    (h1 : decide (1000 < (n : Int)) = false)
    (h2 : decide (1000 < (m : Int)) = false)
    (h : 1000 < (p : Int)) : Calls Try.prog 8 #[.slice A n c, .int .i64 leaf, .slice T m t, .slice U p u] w fun e w' => e = .returned (.bool true) ∧ Below w.heap.size w w' := by
  go_enter Try.func8, Try.ntmps8
  go_wp2_with fail
  refine (alive07 _).mono ?_
  rintro e w1 ⟨rfl, b1⟩
  go_wp2
  go_ret
  exact ⟨rfl, b1⟩
theorem csame_bad (A : Option Addr) (n c : Nat) (leaf : Int) (T : Option Addr) (m t : Nat) (a : List UInt8) (U : Option Addr) (p u : Nat) (b : List UInt8) (w : World) (h1 : decide (1000 < (n : Int)) = false) (h2 : decide (1000 < (m : Int)) = false) (h3 : decide (1000 < (p : Int)) = false) (h : badSeed n leaf)
    (hl : a.length = m) (hm : (m : Int) ≤ 1000000) (hnt : m ≤ t) (hrt : Rd w w.heap.size 1 T m (bvs a)) (hl2 : b.length = p) (hp : (p : Int) ≤ 1000000) (hnu : p ≤ u) (hru : Rd w w.heap.size 1 U p (bvs b)) : Calls Try.prog 8 #[.slice A n c, .int .i64 leaf, .slice T m t, .slice U p u] w fun e w' => e = .returned (.bool true) ∧ Below w.heap.size w w' := by
  have HRT := Lib.hid hrt
  have HRU := Lib.hid hru
  clear hrt hru
  go_enter Try.func8, Try.ntmps8
  go_wp2_with fail
  refine (alive07 _).mono ?_
  rintro e w1 ⟨rfl, b1⟩
  go_wp2_with fail
  refine (c_sign_bad A n c leaf T m t a w1 h hl hm hnt ((HRT.out.below b1).more b1.size)).mono ?_
  rintro e w2 ⟨rfl, b2⟩
  have B2 := below_to b1 b2 b1.size
  clear b1 b2
  go_wp2_with fail
  refine (c_sign_bad A n c leaf U p u b w2 h hl2 hp hnu ((HRU.out.below B2).more B2.size)).mono ?_
  rintro e w3 ⟨rfl, b3⟩
  have B3 := below_to B2 b3 B2.size
  clear B2 b3
  go_wp2
  go_ret
  exact ⟨rfl, B3⟩
theorem csame_same (A : Option Addr) (c : Nat) (seed : List UInt8) (leaf : Nat) (T : Option Addr) (m t : Nat) (a : List UInt8) (U : Option Addr) (p u : Nat) (b : List UInt8) (w : World) (h2 : decide (1000 < (m : Int)) = false) (h3 : decide (1000 < (p : Int)) = false)
    (hs : seed.length = 16) (hr : Rd w w.heap.size 1 A 16 (bvs seed)) (hlf : leaf < 8)
    (hl : a.length = m) (hm : (m : Int) ≤ 1000000) (hnt : m ≤ t) (hrt : Rd w w.heap.size 1 T m (bvs a)) (hl2 : b.length = p) (hp : (p : Int) ≤ 1000000) (hnu : p ≤ u) (hru : Rd w w.heap.size 1 U p (bvs b))
    (hE : sumN a = sumN b)
    : Calls Try.prog 8 #[.slice A 16 c, .int .i64 (leaf : Int), .slice T m t, .slice U p u] w fun e w' => e = .returned (.bool true) ∧ Below w.heap.size w w' := by
  have hS := fun (W : World) (h : Below w.heap.size w W) => c_sign A c seed leaf T m t a W hs ((hr.below h).more h.size) hlf hl hm hnt ((hrt.below h).more h.size)
  have hS2 := fun (W : World) (h : Below w.heap.size w W) => c_sign A c seed leaf U p u b W hs ((hr.below h).more h.size) hlf hl2 hp hnu ((hru.below h).more h.size)
  have hM := fun (W : World) (h : Below w.heap.size w W) => x_sum T m t a W hl hm hnt ((hrt.below h).more h.size)
  have hM2 := fun (W : World) (h : Below w.heap.size w W) => x_sum U p u b W hl2 hp hnu ((hru.below h).more h.size)
  simp only [wi_sum] at hM hM2
  have hV := fun (A : Option Addr) (c : Nat) (W : World) (h : Below w.heap.size w W) hc hr => c_recover leaf T m t a A c (sigL seed leaf b) W hlf hl hm hnt ((hrt.below h).more h.size) (sigL_len _ _ _) hc hr
  have hV2 := fun (A : Option Addr) (c : Nat) (W : World) (h : Below w.heap.size w W) hc hr => c_recover leaf U p u b A c (sigL seed leaf a) W hlf hl2 hp hnu ((hru.below h).more h.size) (sigL_len _ _ _) hc hr
  rw [← sigL_sum seed leaf hE] at hV hS2
  simp only [← recL_sum leaf hE] at hV2
  rw [← hE] at hM2
  generalize recL leaf a (sigL seed leaf a) = RL at *
  generalize sigL seed leaf a = SL at *
  generalize sumN a = Sa at hM hM2
  have HS := Lib.hid hS
  have HS2 := Lib.hid hS2
  have HM := Lib.hid hM
  have HM2 := Lib.hid hM2
  have HV := Lib.hid hV
  have HV2 := Lib.hid hV2
  clear hV hV2
  clear hS hS2 hM hM2 hr hrt hru
  go_enter Try.func8, Try.ntmps8
  go_wp2_with fail
  refine (alive07 _).mono ?_
  rintro e w1 ⟨rfl, b1⟩
  go_wp2_with fail
  refine (HS.out w1 b1).mono ?_
  rintro e w2 ⟨D2, d2, rfl, f2, b2⟩
  have B2 := below_to b1 b2 b1.size
  have HF2 := Lib.hid f2
  clear b1 b2 f2
  go_wp2_with fail
  refine (HS2.out w2 B2).mono ?_
  rintro e w3 ⟨D3, d3, rfl, f3, b3⟩
  have B3 := below_to B2 b3 B2.size
  have HF23 := Lib.hid (HF2.out.below b3 (Nat.le_refl _))
  have HF3 := Lib.hid f3
  clear B2 b3 f3 HF2
  go_wp2_with fail
  refine (HM.out w3 B3).mono ?_
  rintro e w4 ⟨rfl, b4⟩
  have B4 := below_to B3 b4 B3.size
  go_wp2_with fail
  refine (HM2.out w4 B4).mono ?_
  rintro e w5 ⟨rfl, b5⟩
  have B5 := below_to B4 b5 B4.size
  have b35 := below_to b4 b5 b4.size
  have HF25 := Lib.hid (HF23.out.below b35 (Nat.le_refl _))
  have HF35 := Lib.hid (HF3.out.below b35 (Nat.le_refl _))
  clear b4 b5 b35 B3 B4 HF23 HF3
  go_wp2_with fail
  refine (HV.out D3 d3 w5 B5 HF35.out.nc HF35.out.rd).mono ?_
  rintro e w6 ⟨D6, d6, rfl, f6, b6⟩
  have B6 := below_to B5 b6 B5.size
  have HF26 := Lib.hid (HF25.out.below b6 (Nat.le_refl _))
  have HF36 := Lib.hid (HF35.out.below b6 (Nat.le_refl _))
  have HF6 := Lib.hid f6
  clear b6 f6 B5 HF25 HF35
  go_wp2_with fail
  refine (HV2.out D2 d2 w6 B6 HF26.out.nc HF26.out.rd).mono ?_
  rintro e w7 ⟨D7, d7, rfl, f7, b7⟩
  have B7 := below_to B6 b7 B6.size
  have k1 := conv (HF26.out.rd.below b7) d2
  have k2 := conv (HF36.out.rd.below b7) d3
  have k3 := conv (HF6.out.rd.below b7) d6
  have k4 := conv f7.rd d7
  clear b7 f7 B6 HF26 HF36 HF6
  go_wp2
  go_ret
  exact ⟨rfl, B7⟩
theorem csame_not (A : Option Addr) (c : Nat) (seed : List UInt8) (leaf : Nat) (T : Option Addr) (m t : Nat) (a : List UInt8) (U : Option Addr) (p u : Nat) (b : List UInt8) (w : World) (h2 : decide (1000 < (m : Int)) = false) (h3 : decide (1000 < (p : Int)) = false)
    (hs : seed.length = 16) (hr : Rd w w.heap.size 1 A 16 (bvs seed)) (hlf : leaf < 8)
    (hl : a.length = m) (hm : (m : Int) ≤ 1000000) (hnt : m ≤ t) (hrt : Rd w w.heap.size 1 T m (bvs a)) (hl2 : b.length = p) (hp : (p : Int) ≤ 1000000) (hnu : p ≤ u) (hru : Rd w w.heap.size 1 U p (bvs b))
    (hE : sumN a ≠ sumN b)
    : Calls Try.prog 8 #[.slice A 16 c, .int .i64 (leaf : Int), .slice T m t, .slice U p u] w fun e w' => e = .returned (.bool true) ∧ Below w.heap.size w w' := by
  have hS := fun (W : World) (h : Below w.heap.size w W) => c_sign A c seed leaf T m t a W hs ((hr.below h).more h.size) hlf hl hm hnt ((hrt.below h).more h.size)
  have hS2 := fun (W : World) (h : Below w.heap.size w W) => c_sign A c seed leaf U p u b W hs ((hr.below h).more h.size) hlf hl2 hp hnu ((hru.below h).more h.size)
  have hM := fun (W : World) (h : Below w.heap.size w W) => x_sum T m t a W hl hm hnt ((hrt.below h).more h.size)
  have hM2 := fun (W : World) (h : Below w.heap.size w W) => x_sum U p u b W hl2 hp hnu ((hru.below h).more h.size)
  simp only [wi_sum] at hM hM2
  generalize sigL seed leaf a = SL at *
  generalize sigL seed leaf b = SL2 at *
  have hne : ((sumN a : Int) != (sumN b : Int)) = true := by simp; omega
  generalize sumN a = Sa at *
  generalize sumN b = Sb at *
  have HS := Lib.hid hS
  have HS2 := Lib.hid hS2
  have HM := Lib.hid hM
  have HM2 := Lib.hid hM2
  clear hS hS2 hM hM2 hr hrt hru
  go_enter Try.func8, Try.ntmps8
  go_wp2_with fail
  refine (alive07 _).mono ?_
  rintro e w1 ⟨rfl, b1⟩
  go_wp2_with fail
  refine (HS.out w1 b1).mono ?_
  rintro e w2 ⟨D2, d2, rfl, f2, b2⟩
  have B2 := below_to b1 b2 b1.size
  have HF2 := Lib.hid f2
  clear b1 b2 f2
  go_wp2_with fail
  refine (HS2.out w2 B2).mono ?_
  rintro e w3 ⟨D3, d3, rfl, f3, b3⟩
  have B3 := below_to B2 b3 B2.size
  have HF23 := Lib.hid (HF2.out.below b3 (Nat.le_refl _))
  have HF3 := Lib.hid f3
  clear B2 b3 f3 HF2
  go_wp2_with fail
  refine (HM.out w3 B3).mono ?_
  rintro e w4 ⟨rfl, b4⟩
  have B4 := below_to B3 b4 B3.size
  go_wp2_with fail
  refine (HM2.out w4 B4).mono ?_
  rintro e w5 ⟨rfl, b5⟩
  have B5 := below_to B4 b5 B4.size
  have b35 := below_to b4 b5 b4.size
  have HF25 := Lib.hid (HF23.out.below b35 (Nat.le_refl _))
  have HF35 := Lib.hid (HF3.out.below b35 (Nat.le_refl _))
  clear b4 b5 b35 B3 B4 HF23 HF3
  go_wp2
  go_ret
  exact ⟨rfl, B5⟩
theorem chainSame_walk (A : Option Addr) (n c : Nat) (seed : List UInt8) (leaf : Int) (T : Option Addr) (m t : Nat) (a : List UInt8) (U : Option Addr) (p u : Nat) (b : List UInt8) (w : World) (hs : seed.length = n) (hr : Rd w w.heap.size 1 A n (bvs seed))
    (hl : a.length = m) (hnt : m ≤ t) (hrt : Rd w w.heap.size 1 T m (bvs a)) (hl2 : b.length = p) (hnu : p ≤ u) (hru : Rd w w.heap.size 1 U p (bvs b)) : Calls Try.prog 8 #[.slice A n c, .int .i64 leaf, .slice T m t, .slice U p u] w fun e w' => e = .returned (.bool true) ∧ Below w.heap.size w w' := by
  by_cases h1 : 1000 < (n : Int)
  · exact csame_sb A n c leaf T m t U p u w h1
  by_cases h2 : 1000 < (m : Int)
  · exact csame_ab A n c leaf T m t U p u w (by simp; omega) h2
  by_cases h3 : 1000 < (p : Int)
  · exact csame_bb A n c leaf T m t U p u w (by simp; omega) (by simp; omega) h3
  rcases seed_cases n leaf with hb | ⟨rfl, k, hk, rfl⟩
  · exact csame_bad A n c leaf T m t a U p u b w (by simp; omega) (by simp; omega) (by simp; omega) hb hl (by omega) hnt hrt hl2 (by omega) hnu hru
  · by_cases hE : sumN a = sumN b
    · exact csame_same A c seed k T m t a U p u b w (by simp; omega) (by simp; omega) hs hr hk hl (by omega) hnt hrt hl2 (by omega) hnu hru hE
    · exact csame_not A c seed k T m t a U p u b w (by simp; omega) (by simp; omega) hs hr hk hl (by omega) hnt hrt hl2 (by omega) hnu hru hE
end Go.Proofs.Ytoggpnncmgcgoaa
