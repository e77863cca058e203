/-
  The walk of layer 7's statement ChainLess.
-/
import Derived.Test.YtoggpnncmgcgoaaLaw07b
namespace Go.Proofs.Ytoggpnncmgcgoaa
open Go.RowKit
set_option linter.unusedVariables false
set_option linter.unusedSimpArgs false
set_option maxRecDepth 100000

/-! ### plain: digits of unlike sums -/
def lessN (ds es : List Nat) (k : Nat) : Bool := (List.range k).any fun j => decide (ds.getD j 0 < es.getD j 0)
theorem lessN_succ (ds es : List Nat) (k : Nat) : lessN ds es (k + 1) = (lessN ds es k || decide (ds.getD k 0 < es.getD k 0)) := by
  rw [lessN, List.range_succ, List.any_append, lessN]
  simp
theorem lessN_self (ds : List Nat) (k : Nat) : lessN ds ds k = false := by
  simp [lessN]
theorem nib_next (s k : Nat) : nib s k + 16 * (s / 16 ^ (k + 1)) = s / 16 ^ k := by
  rw [Nat.pow_succ, ← Nat.div_div_eq_div_mul, nib]
  exact Nat.mod_add_div _ _
theorem nibs_sum (s : Nat) (h : s < 4294967296) : s = nib s 0 + 16 * (nib s 1 + 16 * (nib s 2 + 16 * (nib s 3 + 16 * (nib s 4 + 16 * (nib s 5 + 16 * (nib s 6 + 16 * nib s 7)))))) := by
  have h0 := nib_next s 0
  have h1 := nib_next s 1
  have h2 := nib_next s 2
  have h3 := nib_next s 3
  have h4 := nib_next s 4
  have h5 := nib_next s 5
  have h6 := nib_next s 6
  have h7 := nib_next s 7
  have h8 : s / 16 ^ 8 = 0 := Nat.div_eq_of_lt h
  rw [Nat.pow_zero, Nat.div_one] at h0
  simp only [Nat.zero_add] at h0 h1 h2 h3 h4 h5 h6 h7
  rw [show (7 : Nat) + 1 = 8 from rfl, h8] at h7
  rw [show (6 : Nat) + 1 = 7 from rfl, ← h7] at h6
  rw [show (5 : Nat) + 1 = 6 from rfl, ← h6] at h5
  rw [show (4 : Nat) + 1 = 5 from rfl, ← h5] at h4
  rw [show (3 : Nat) + 1 = 4 from rfl, ← h4] at h3
  rw [show (2 : Nat) + 1 = 3 from rfl, ← h3] at h2
  rw [show (1 : Nat) + 1 = 2 from rfl, ← h2] at h1
  rw [← h1] at h0
  omega
theorem digL_at (s : Nat) : (digL s).getD 0 0 = nib s 0 ∧ (digL s).getD 1 0 = nib s 1 ∧ (digL s).getD 2 0 = nib s 2 ∧ (digL s).getD 3 0 = nib s 3 ∧ (digL s).getD 4 0 = nib s 4 ∧ (digL s).getD 5 0 = nib s 5 ∧ (digL s).getD 6 0 = nib s 6 ∧ (digL s).getD 7 0 = nib s 7 ∧ (digL s).getD 8 0 = leftN s 8 % 16 ∧ (digL s).getD 9 0 = leftN s 8 / 16 :=
  ⟨rfl, rfl, rfl, rfl, rfl, rfl, rfl, rfl, rfl, rfl⟩
theorem leftN_at (s : Nat) : leftN s 8 = 0 + (15 - nib s 0) + (15 - nib s 1) + (15 - nib s 2) + (15 - nib s 3) + (15 - nib s 4) + (15 - nib s 5) + (15 - nib s 6) + (15 - nib s 7) := rfl
theorem le_of_parts {a b : Nat} (h1 : b % 16 ≤ a % 16) (h2 : b / 16 ≤ a / 16) : b ≤ a := by omega
theorem to_15 {x y : Nat} (h : y ≤ x) (hx : x ≤ 15) : 15 - x ≤ 15 - y ∧ (15 - x = 15 - y → x = y) := by omega
theorem digits_less {s t : Nat} (hs : s < 4294967296) (ht : t < 4294967296) (h : s ≠ t) : lessN (digL s) (digL t) 10 = true := by
  cases hb : lessN (digL s) (digL t) 10 with
  | true => rfl
  | false =>
    exfalso
    apply h
    have hk : ∀ j, j < 10 → (digL t).getD j 0 ≤ (digL s).getD j 0 := by
      intro j hj
      rw [lessN, List.any_eq_false] at hb
      have := hb j (List.mem_range.2 hj)
      rw [decide_eq_true_eq] at this
      omega
    obtain ⟨s0, s1, s2, s3, s4, s5, s6, s7, s8, s9⟩ := digL_at s
    obtain ⟨t0, t1, t2, t3, t4, t5, t6, t7, t8, t9⟩ := digL_at t
    have k0 := hk 0 (by omega)
    have k1 := hk 1 (by omega)
    have k2 := hk 2 (by omega)
    have k3 := hk 3 (by omega)
    have k4 := hk 4 (by omega)
    have k5 := hk 5 (by omega)
    have k6 := hk 6 (by omega)
    have k7 := hk 7 (by omega)
    have k8 := hk 8 (by omega)
    have k9 := hk 9 (by omega)
    rw [s0, t0] at k0
    rw [s1, t1] at k1
    rw [s2, t2] at k2
    rw [s3, t3] at k3
    rw [s4, t4] at k4
    rw [s5, t5] at k5
    rw [s6, t6] at k6
    rw [s7, t7] at k7
    rw [s8, t8] at k8
    rw [s9, t9] at k9
    have e1 := nibs_sum s hs
    have e2 := nibs_sum t ht
    have l1 := leftN_at s
    have l2 := leftN_at t
    have a0 := nib_le s 0
    have a1 := nib_le s 1
    have a2 := nib_le s 2
    have a3 := nib_le s 3
    have a4 := nib_le s 4
    have a5 := nib_le s 5
    have a6 := nib_le s 6
    have a7 := nib_le s 7
    clear s0 s1 s2 s3 s4 s5 s6 s7 s8 s9 t0 t1 t2 t3 t4 t5 t6 t7 t8 t9 hk hb
    have hle := le_of_parts k8 k9
    rw [l1, l2] at hle
    clear k8 k9 l1 l2 hs ht h
    generalize nib s 0 = x0 at *
    generalize nib s 1 = x1 at *
    generalize nib s 2 = x2 at *
    generalize nib s 3 = x3 at *
    generalize nib s 4 = x4 at *
    generalize nib s 5 = x5 at *
    generalize nib s 6 = x6 at *
    generalize nib s 7 = x7 at *
    generalize nib t 0 = y0 at *
    generalize nib t 1 = y1 at *
    generalize nib t 2 = y2 at *
    generalize nib t 3 = y3 at *
    generalize nib t 4 = y4 at *
    generalize nib t 5 = y5 at *
    generalize nib t 6 = y6 at *
    generalize nib t 7 = y7 at *
    obtain ⟨p0, q0⟩ := to_15 k0 a0
    obtain ⟨p1, q1⟩ := to_15 k1 a1
    obtain ⟨p2, q2⟩ := to_15 k2 a2
    obtain ⟨p3, q3⟩ := to_15 k3 a3
    obtain ⟨p4, q4⟩ := to_15 k4 a4
    obtain ⟨p5, q5⟩ := to_15 k5 a5
    obtain ⟨p6, q6⟩ := to_15 k6 a6
    obtain ⟨p7, q7⟩ := to_15 k7 a7
    generalize 15 - x0 = b0 at *
    generalize 15 - y0 = d0 at *
    generalize 15 - x1 = b1 at *
    generalize 15 - y1 = d1 at *
    generalize 15 - x2 = b2 at *
    generalize 15 - y2 = d2 at *
    generalize 15 - x3 = b3 at *
    generalize 15 - y3 = d3 at *
    generalize 15 - x4 = b4 at *
    generalize 15 - y4 = d4 at *
    generalize 15 - x5 = b5 at *
    generalize 15 - y5 = d5 at *
    generalize 15 - x6 = b6 at *
    generalize 15 - y6 = d6 at *
    generalize 15 - x7 = b7 at *
    generalize 15 - y7 = d7 at *
    clear a0 a1 a2 a3 a4 a5 a6 a7 k0 k1 k2 k3 k4 k5 k6 k7
    have z0 := q0 (show b0 = d0 by clear e1 e2 q0 q1 q2 q3 q4 q5 q6 q7; omega)
    have z1 := q1 (show b1 = d1 by clear e1 e2 q0 q1 q2 q3 q4 q5 q6 q7; omega)
    have z2 := q2 (show b2 = d2 by clear e1 e2 q0 q1 q2 q3 q4 q5 q6 q7; omega)
    have z3 := q3 (show b3 = d3 by clear e1 e2 q0 q1 q2 q3 q4 q5 q6 q7; omega)
    have z4 := q4 (show b4 = d4 by clear e1 e2 q0 q1 q2 q3 q4 q5 q6 q7; omega)
    have z5 := q5 (show b5 = d5 by clear e1 e2 q0 q1 q2 q3 q4 q5 q6 q7; omega)
    have z6 := q6 (show b6 = d6 by clear e1 e2 q0 q1 q2 q3 q4 q5 q6 q7; omega)
    have z7 := q7 (show b7 = d7 by clear e1 e2 q0 q1 q2 q3 q4 q5 q6 q7; omega)
    rw [e1, e2, z0, z1, z2, z3, z4, z5, z6, z7]
def LessRel (ds es : List Nat) (w3 : World) (less more i : Value) (wr : World) : Prop :=
  ∃ k N : Nat, k ≤ 10 ∧ i = .int .i64 (k : Nat) ∧ less = .bool (lessN ds es k) ∧ more = .bool (lessN es ds k) ∧ wr = w3.drewN N
theorem less_sums {s t : Nat} (hs : s < 4294967296) (ht : t < 4294967296) : lessN (digL s) (digL t) 10 = ((s : Int) != (t : Int)) ∧ lessN (digL t) (digL s) 10 = ((s : Int) != (t : Int)) := by
  by_cases h : s = t
  · subst h
    rw [lessN_self]
    simp
  · rw [digits_less hs ht h, digits_less ht hs (Ne.symm h)]
    have : ((s : Int) != (t : Int)) = true := by simp; omega
    rw [this]
    exact ⟨rfl, rfl⟩
theorem cless_ab (T : Option Addr) (m t : Nat) (U : Option Addr) (p u : Nat) (w : World)
    (h : 10000 < (m : Int)) : Calls Try.prog 7 #[.slice T m t, .slice U p u] w fun e w' => e = .returned (.bool true) ∧ Below w.heap.size w w' := by
  go_enter Try.func7, Try.ntmps7
  go_wp2_with fail
  refine (alive07 _).mono ?_
  rintro e w1 ⟨rfl, b1⟩
  go_wp2
  go_ret
  exact ⟨rfl, b1⟩
theorem cless_bb (T : Option Addr) (m t : Nat) (U : Option Addr) (p u : Nat) (w : World)
    (h2 : decide (10000 < (m : Int)) = false)
    (h : 10000 < (p : Int)) : Calls Try.prog 7 #[.slice T m t, .slice U p u] w fun e w' => e = .returned (.bool true) ∧ Below w.heap.size w w' := by
  go_enter Try.func7, Try.ntmps7
  go_wp2_with fail
  refine (alive07 _).mono ?_
  rintro e w1 ⟨rfl, b1⟩
  go_wp2
  go_ret
  exact ⟨rfl, b1⟩
set_option maxHeartbeats 4000000 in
theorem cless_ok (T : Option Addr) (m t : Nat) (a : List UInt8) (U : Option Addr) (p u : Nat) (b : List UInt8) (w : World) (h2 : decide (10000 < (m : Int)) = false) (h3 : decide (10000 < (p : Int)) = false)
    (hl : a.length = m) (hm : (m : Int) ≤ 1000000) (hnt : m ≤ t) (hrt : Rd w w.heap.size 1 T m (bvs a)) (hl2 : b.length = p) (hp : (p : Int) ≤ 1000000) (hnu : p ≤ u) (hru : Rd w w.heap.size 1 U p (bvs b)) :
    Calls Try.prog 7 #[.slice T m t, .slice U p u] w fun e w' => e = .returned (.bool true) ∧ Below w.heap.size w w' := by
  have hD := fun (W : World) (h : Below w.heap.size w W) => c_digits T m t a W hl hm hnt ((hrt.below h).more h.size)
  have hD2 := fun (W : World) (h : Below w.heap.size w W) => c_digits U p u b W hl2 hp hnu ((hru.below h).more h.size)
  have hM := fun (W : World) (h : Below w.heap.size w W) => x_sum T m t a W hl hm hnt ((hrt.below h).more h.size)
  have hM2 := fun (W : World) (h : Below w.heap.size w W) => x_sum U p u b W hl2 hp hnu ((hru.below h).more h.size)
  simp only [wi_sum] at hM hM2
  obtain ⟨hL1, hL2⟩ := less_sums (sumN_lt a) (sumN_lt b)
  have hd1 := getD_le (digL_len (sumN a)) (digL_le (sumN a))
  have HL1 := Lib.hid hL1
  have HL2 := Lib.hid hL2
  have HD := Lib.hid hD
  have HD2 := Lib.hid hD2
  have HM := Lib.hid hM
  have HM2 := Lib.hid hM2
  have H15 := Lib.hid hd1
  clear hD hD2 hM hM2 hrt hru hL1 hL2 hd1
  generalize digL (sumN a) = ds at *
  generalize digL (sumN b) = es at *
  generalize sumN a = S1 at *
  generalize sumN b = S2 at *
  go_enter Try.func7, Try.ntmps7
  go_wp2_with fail
  refine (alive07 _).mono ?_
  rintro e w1 ⟨rfl, b1⟩
  go_wp2_with fail
  refine (HD.out w1 b1).mono ?_
  rintro e w2 ⟨D2, d2, rfl, f2, b2⟩
  have B2 := below_to b1 b2 b1.size
  have HF2 := Lib.hid f2
  clear b1 b2 f2
  go_wp2_with fail
  refine (HD2.out w2 B2).mono ?_
  rintro e w3 ⟨D3, d3, rfl, f3, b3⟩
  have B3 := below_to B2 b3 B2.size
  have HB3 := Lib.hid B3
  have HR2 := Lib.hid ((HF2.out.rd.below b3).more b3.size)
  have HR3 := Lib.hid f3.rd
  clear b3 f3 B2 B3 HF2
  go_wp2
  go_loopw [8, 9, 10] (fun less more i wr => LessRel ds es w3 less more i wr) (fun _ _ i _ => 10 - (intOf i).toNat)
  case atStart => exact ⟨0, 0, by omega, rfl, rfl, rfl, rfl⟩
  case round =>
    obtain ⟨k, N, hk, rfl, rfl, rfl, rfl⟩ := hrel
    by_cases hlt : k < 10
    · have h1 : (k : Int) < 10 := by omega
      have h0 : ¬ ((k : Int) < 0) := by omega
      obtain ⟨g, o, rfl, hg, cx⟩ := HR2.out.num hlt
      obtain ⟨g', o', rfl, hg', cy⟩ := HR3.out.num hlt
      have hs1 := lessN_succ ds es k
      have hs2 := lessN_succ es ds k
      have hx15 := H15.out k hlt
      have HS1 := Lib.hid hs1
      have HS2 := Lib.hid hs2
      clear hs1 hs2 hg hg'
      generalize ds.getD k 0 = x at *
      generalize es.getD k 0 = y at *
      have hx0 : ¬ ((x : Int) < 0) := by omega
      have hx1 : ¬ (15 < (x : Int)) := by omega
      generalize lessN ds es k = p1 at *
      generalize lessN es ds k = p2 at *
      cases p1 <;> cases p2
      all_goals
        go_wp2
        go_quiet (fail)
        go_wp2
        go_quiet (fail)
        go_wp2
        go_roundw
        case rel => exact ⟨k + 1, _, by omega, by simp, by rw [HS1.out]; simp, by rw [HS2.out]; simp, rfl⟩
        case measure => simp [intOf]; omega
    · obtain rfl : k = 10 := by omega
      have b3 : Below w.heap.size w (w3.drewN N) := below_drewN HB3.out N
      have hl1 := HL1.out
      have hl2 := HL2.out
      generalize hV : ((S1 : Int) != (S2 : Int)) = V at *
      rw [hl1, hl2]
      have HB3' := Lib.hid b3
      clear b3 hl1 hl2 HL1 HL2
      go_wp2_with fail
      refine (HM.out _ HB3'.out).mono ?_
      rintro e w4 ⟨rfl, b4⟩
      have B4 := below_to HB3'.out b4 HB3'.out.size
      go_wp2_with fail
      refine (HM2.out w4 B4).mono ?_
      rintro e w5 ⟨rfl, b5⟩
      have B5 := below_to B4 b5 B4.size
      clear B4 b4 b5
      cases V
      all_goals
        go_wp2
        go_ret
        exact ⟨rfl, B5⟩
theorem chainLess_walk (T : Option Addr) (m t : Nat) (a : List UInt8) (U : Option Addr) (p u : Nat) (b : List UInt8) (w : World)
    (hl : a.length = m) (hnt : m ≤ t) (hrt : Rd w w.heap.size 1 T m (bvs a)) (hl2 : b.length = p) (hnu : p ≤ u) (hru : Rd w w.heap.size 1 U p (bvs b)) :
    Calls Try.prog 7 #[.slice T m t, .slice U p u] w fun e w' => e = .returned (.bool true) ∧ Below w.heap.size w w' := by
  by_cases h2 : 10000 < (m : Int)
  · exact cless_ab T m t U p u w h2
  by_cases h3 : 10000 < (p : Int)
  · exact cless_bb T m t U p u w (by simp; omega) h3
  exact cless_ok T m t a U p u b w (by simp; omega) (by simp; omega) hl (by omega) hnt hrt hl2 (by omega) hnu hru
end Go.Proofs.Ytoggpnncmgcgoaa
