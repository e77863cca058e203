/-
  charterhouseref07: refusals; what is answered, as one function; the walk of layer 7's statement ChainTells.
-/
import Derived.Test.YtoggpnncmgcgoaaRef07e
import Derived.Test.YtoggpnncmgcgoaaLaw07
namespace Go.Proofs.Ytoggpnncmgcgoaa
open Go.RowKit
set_option linter.unusedVariables false
set_option linter.unusedSimpArgs false
set_option maxRecDepth 100000
attribute [local go_sem] str_toList toList_mk

theorem q_public_bad (A : Option Addr) (n c : Nat) (leaf : Int)  (w : World) (h : badSeed n leaf) :
    Calls Try.prog 24 #[.slice A n c, .int .i64 leaf] w fun e w' => e = .returned (.tuple #[.slice none 0 0, .int .i64 2]) ∧ w = w' := by
  rcases h with h | ⟨rfl, h⟩
  · go_enter Try.func24, Try.ntmps24
    go_wp2
    go_ret2
    exact ⟨rfl, rfl⟩
  · by_cases h0 : leaf < 0
    · go_enter Try.func24, Try.ntmps24
      go_wp2
      go_ret2
      exact ⟨rfl, rfl⟩
    · have h7 : 7 < leaf := by
        rw [isB, Bool.and_eq_false_iff, decide_eq_false_iff_not, decide_eq_false_iff_not] at h
        omega
      clear h
      go_enter Try.func24, Try.ntmps24
      go_wp2
      go_ret2
      exact ⟨rfl, rfl⟩
theorem q_sign_bad (A : Option Addr) (n c : Nat) (leaf : Int) (T : Option Addr) (m t : Nat) (w : World) (h : badSeed n leaf) :
    Calls Try.prog 25 #[.slice A n c, .int .i64 leaf, .slice T m t] w fun e w' => e = .returned (.tuple #[.slice none 0 0, .int .i64 2]) ∧ w = w' := by
  rcases h with h | ⟨rfl, h⟩
  · go_enter Try.func25, Try.ntmps25
    go_wp2
    go_ret2
    exact ⟨rfl, rfl⟩
  · by_cases h0 : leaf < 0
    · go_enter Try.func25, Try.ntmps25
      go_wp2
      go_ret2
      exact ⟨rfl, rfl⟩
    · have h7 : 7 < leaf := by
        rw [isB, Bool.and_eq_false_iff, decide_eq_false_iff_not, decide_eq_false_iff_not] at h
        omega
      clear h
      go_enter Try.func25, Try.ntmps25
      go_wp2
      go_ret2
      exact ⟨rfl, rfl⟩
theorem q_recover_leaf (leaf : Int) (T : Option Addr) (n t : Nat) (A : Option Addr) (m c : Nat) (w : World) (h : isB leaf = false) :
    Calls Try.prog 26 #[.int .i64 leaf, .slice T n t, .slice A m c] w fun e w' => e = .returned (.tuple #[.slice none 0 0, .int .i64 2]) ∧ w = w' := by
  by_cases h0 : leaf < 0
  · go_enter Try.func26, Try.ntmps26
    go_wp2
    go_ret2
    exact ⟨rfl, rfl⟩
  · have h7 : 7 < leaf := by
      rw [isB, Bool.and_eq_false_iff, decide_eq_false_iff_not, decide_eq_false_iff_not] at h
      omega
    clear h
    go_enter Try.func26, Try.ntmps26
    go_wp2
    go_ret2
    exact ⟨rfl, rfl⟩
theorem q_recover_len (leaf : Int) (T : Option Addr) (n t : Nat) (A : Option Addr) (m c : Nat) (w : World) (h : isB leaf = true) (hm : ((m : Int) != 160) = true) :
    Calls Try.prog 26 #[.int .i64 leaf, .slice T n t, .slice A m c] w fun e w' => e = .returned (.tuple #[.slice none 0 0, .int .i64 8]) ∧ w = w' := by
  have h0 : 0 ≤ leaf ∧ leaf < 8 := by simpa [isB] using h
  obtain ⟨h0, h8⟩ := h0
  clear h
  go_enter Try.func26, Try.ntmps26
  go_wp2
  go_ret2
  exact ⟨rfl, rfl⟩

/-! ### what is answered: bytes, and an error's number -/
def outP (seed : List UInt8) (leaf : Int) : List UInt8 × Int := if seed.length = 16 ∧ isB leaf = true then (pubL seed leaf.toNat, 0) else ([], 2)
def outG (seed : List UInt8) (leaf : Int) (text : List UInt8) : List UInt8 × Int := if seed.length = 16 ∧ isB leaf = true then (sigL seed leaf.toNat text, 0) else ([], 2)
def outV (leaf : Int) (text sig : List UInt8) : List UInt8 × Int := if isB leaf = true then (if sig.length = 160 then (recL leaf.toNat text sig, 0) else ([], 8)) else ([], 2)
def ToldF (w : World) (o : List UInt8 × Int) (e : Ending) (w' : World) : Prop :=
  ∃ A n c, e = .returned (.tuple #[.slice A n c, .int .i64 o.2]) ∧ o.1.length = n ∧ Fr w' w.heap.size 5 1 A n c (bvs o.1) ∧ Below w.heap.size w w'
theorem toldF_nil (w w' : World) (x : Int) (e : Ending) (h : e = .returned (.tuple #[.slice none 0 0, .int .i64 x]) ∧ Below w.heap.size w w') : ToldF w ([], x) e w' := ⟨none, 0, 0, h.1, rfl, Fr.none_, h.2⟩
theorem seed_ok {seed : List UInt8} {n : Nat} (hs : seed.length = n) (leaf : Int) : (seed.length = 16 ∧ isB leaf = true) ∧ n = 16 ∧ (∃ k : Nat, k < 8 ∧ leaf = (k : Int)) ∨ ¬(seed.length = 16 ∧ isB leaf = true) ∧ badSeed n leaf := by
  by_cases h : seed.length = 16 ∧ isB leaf = true
  · have hi : 0 ≤ leaf ∧ leaf < 8 := by simpa [isB] using h.2
    exact .inl ⟨h, by omega, leaf.toNat, by omega, by omega⟩
  · refine .inr ⟨h, ?_⟩
    by_cases hn : n = 16
    · exact .inr ⟨hn, by
        by_cases hi : isB leaf = true
        · exact absurd ⟨by omega, hi⟩ h
        · simpa using hi⟩
    · exact .inl (by simp; omega)
theorem t_c_public (A : Option Addr) (n c : Nat) (seed : List UInt8) (leaf : Int) (w : World) (hs : seed.length = n) (hr : Rd w w.heap.size 1 A n (bvs seed)) :
    Calls Try.prog 23 #[.slice A n c, .int .i64 leaf] w (ToldF w (outP seed leaf)) := by
  rcases seed_ok hs leaf with ⟨h, rfl, k, hk, rfl⟩ | ⟨h, hb⟩
  · rw [outP, if_pos h, Int.toNat_natCast]
    refine (c_public A c seed k w hs hr hk).mono ?_
    rintro e w' ⟨D, d, rfl, f, b⟩
    exact ⟨D, 16, d, rfl, pubL_len _ _, f, b⟩
  · rw [outP, if_neg h]
    refine (c_public_bad A n c leaf w hb).mono ?_
    rintro e w' ⟨rfl, b⟩
    exact toldF_nil w w' 2 _ ⟨rfl, b⟩
theorem t_c_sign (A : Option Addr) (n c : Nat) (seed : List UInt8) (leaf : Int) (T : Option Addr) (m t : Nat) (text : List UInt8) (w : World) (hs : seed.length = n) (hr : Rd w w.heap.size 1 A n (bvs seed))
    (hl : text.length = m) (hm : m ≤ 1000000) (hnt : m ≤ t) (hrt : Rd w w.heap.size 1 T m (bvs text)) :
    Calls Try.prog 20 #[.slice A n c, .int .i64 leaf, .slice T m t] w (ToldF w (outG seed leaf text)) := by
  rcases seed_ok hs leaf with ⟨h, rfl, k, hk, rfl⟩ | ⟨h, hb⟩
  · rw [outG, if_pos h, Int.toNat_natCast]
    refine (c_sign A c seed k T m t text w hs hr hk hl (by omega) hnt hrt).mono ?_
    rintro e w' ⟨D, d, rfl, f, b⟩
    exact ⟨D, 160, d, rfl, sigL_len _ _ _, f, b⟩
  · rw [outG, if_neg h]
    refine (c_sign_bad A n c leaf T m t text w hb hl (by omega) hnt hrt).mono ?_
    rintro e w' ⟨rfl, b⟩
    exact toldF_nil w w' 2 _ ⟨rfl, b⟩
theorem t_c_recover (leaf : Int) (T : Option Addr) (n t : Nat) (text : List UInt8) (A : Option Addr) (m c : Nat) (sig : List UInt8) (w : World)
    (hl : text.length = n) (hn : n ≤ 1000000) (hnt : n ≤ t) (hrt : Rd w w.heap.size 1 T n (bvs text)) (hsl : sig.length = m) (hmc : m ≤ c) (hr : Rd w w.heap.size 1 A m (bvs sig)) :
    Calls Try.prog 21 #[.int .i64 leaf, .slice T n t, .slice A m c] w (ToldF w (outV leaf text sig)) := by
  by_cases hi : isB leaf = true
  · rw [outV, if_pos hi]
    by_cases hm : m = 160
    · subst hm
      rw [if_pos hsl]
      have h8 : 0 ≤ leaf ∧ leaf < 8 := by simpa [isB] using hi
      obtain ⟨k, rfl⟩ := Int.eq_ofNat_of_zero_le h8.1
      rw [Int.toNat_natCast]
      refine (c_recover k T n t text A c sig w (by omega) hl (by omega) hnt hrt hsl hmc hr).mono ?_
      rintro e w' ⟨D, d, rfl, f, b⟩
      exact ⟨D, 16, d, rfl, recL_len _ _ _, f, b⟩
    · rw [if_neg (by omega)]
      refine (c_recover_len leaf T n t A m c w hi (by simp; omega)).mono ?_
      rintro e w' ⟨rfl, rfl⟩
      exact toldF_nil w w 8 _ ⟨rfl, Below.refl _ _⟩
  · rw [outV, if_neg hi]
    refine (c_recover_leaf leaf T n t A m c w (by simpa using hi)).mono ?_
    rintro e w' ⟨rfl, rfl⟩
    exact toldF_nil w w 2 _ ⟨rfl, Below.refl _ _⟩
theorem t_q_public (A : Option Addr) (n c : Nat) (seed : List UInt8) (leaf : Int) (w : World) (hs : seed.length = n) (hr : Rd w w.heap.size 1 A n (bvs seed)) :
    Calls Try.prog 24 #[.slice A n c, .int .i64 leaf] w (ToldF w (outP seed leaf)) := by
  rcases seed_ok hs leaf with ⟨h, rfl, k, hk, rfl⟩ | ⟨h, hb⟩
  · rw [outP, if_pos h, Int.toNat_natCast]
    refine (q_public A c seed k w hs hr hk).mono ?_
    rintro e w' ⟨D, d, rfl, f, b⟩
    exact ⟨D, 16, d, rfl, pubL_len _ _, f, b⟩
  · rw [outP, if_neg h]
    refine (q_public_bad A n c leaf w hb).mono ?_
    rintro e w' ⟨rfl, rfl⟩
    exact toldF_nil w w 2 _ ⟨rfl, Below.refl _ _⟩
theorem t_q_sign (A : Option Addr) (n c : Nat) (seed : List UInt8) (leaf : Int) (T : Option Addr) (m t : Nat) (text : List UInt8) (w : World) (hs : seed.length = n) (hr : Rd w w.heap.size 1 A n (bvs seed))
    (hl : text.length = m) (hm : m ≤ 1000000) (hnt : m ≤ t) (hrt : Rd w w.heap.size 1 T m (bvs text)) :
    Calls Try.prog 25 #[.slice A n c, .int .i64 leaf, .slice T m t] w (ToldF w (outG seed leaf text)) := by
  rcases seed_ok hs leaf with ⟨h, rfl, k, hk, rfl⟩ | ⟨h, hb⟩
  · rw [outG, if_pos h, Int.toNat_natCast]
    refine (q_sign A c seed k T m t text w hs hr hk hl hm hrt).mono ?_
    rintro e w' ⟨D, d, rfl, f, b⟩
    exact ⟨D, 160, d, rfl, sigL_len _ _ _, f, b⟩
  · rw [outG, if_neg h]
    refine (q_sign_bad A n c leaf T m t w hb).mono ?_
    rintro e w' ⟨rfl, rfl⟩
    exact toldF_nil w w 2 _ ⟨rfl, Below.refl _ _⟩
theorem t_q_recover (leaf : Int) (T : Option Addr) (n t : Nat) (text : List UInt8) (A : Option Addr) (m c : Nat) (sig : List UInt8) (w : World)
    (hl : text.length = n) (hn : n ≤ 1000000) (hnt : n ≤ t) (hrt : Rd w w.heap.size 1 T n (bvs text)) (hsl : sig.length = m) (hmc : m ≤ c) (hr : Rd w w.heap.size 1 A m (bvs sig)) :
    Calls Try.prog 26 #[.int .i64 leaf, .slice T n t, .slice A m c] w (ToldF w (outV leaf text sig)) := by
  by_cases hi : isB leaf = true
  · rw [outV, if_pos hi]
    by_cases hm : m = 160
    · subst hm
      rw [if_pos hsl]
      have h8 : 0 ≤ leaf ∧ leaf < 8 := by simpa [isB] using hi
      obtain ⟨k, rfl⟩ := Int.eq_ofNat_of_zero_le h8.1
      rw [Int.toNat_natCast]
      refine (q_recover k T n t text A c sig w (by omega) hl hn hrt hsl hmc hr).mono ?_
      rintro e w' ⟨D, d, rfl, f, b⟩
      exact ⟨D, 16, d, rfl, recL_len _ _ _, f, b⟩
    · rw [if_neg (by omega)]
      refine (q_recover_len leaf T n t A m c w hi (by simp; omega)).mono ?_
      rintro e w' ⟨rfl, rfl⟩
      exact toldF_nil w w 8 _ ⟨rfl, Below.refl _ _⟩
  · rw [outV, if_neg hi]
    refine (q_recover_leaf leaf T n t A m c w (by simpa using hi)).mono ?_
    rintro e w' ⟨rfl, rfl⟩
    exact toldF_nil w w 2 _ ⟨rfl, Below.refl _ _⟩

/-! ### bytes that are counted up at the end -/
def IncRel (base n c : Nat) (A : Option Addr) (w0 : World) (i : Value) (wr : World) : Prop :=
  ∃ (k : Nat) (l : List UInt8), k ≤ n ∧ i = .int .i64 (k : Int) ∧ l.length = n ∧ Fr wr base 5 1 A n c (bvs l) ∧ Below base w0 wr
theorem bvs_set (l : List UInt8) (k : Nat) (x : UInt8) : (bvs l).set k (bv x) = bvs (l.set k x) := by simp [bvs, List.map_set]
theorem wrap8_one (x : UInt8) : IntKind.u8.wrap ((x.toNat : Int) + 1) = ((x + 1).toNat : Int) := by
  rw [IntKind.wrap_u8, UInt8.toNat_add]
  have : (1 : UInt8).toNat = 1 := rfl
  omega
theorem mod8_one (x : UInt8) : ((x.toNat : Int) + 1) % 256 = ((x + 1).toNat : Int) := by
  rw [UInt8.toNat_add]
  have : (1 : UInt8).toNat = 1 := rfl
  omega
theorem ctells_sb (A : Option Addr) (n c : Nat) (leaf : Int) (T : Option Addr) (m t : Nat) (V : Option Addr) (q v : Nat) (w : World)
    (h : 10000 < (n : Int)) : Calls Try.prog 5 #[.slice A n c, .int .i64 leaf, .slice T m t, .slice V q v] w fun e w' => e = .returned (.bool true) ∧ Below w.heap.size w w' := by
  go_enter Try.func5, Try.ntmps5
  go_wp2
  go_ret
  exact ⟨rfl, Below.refl _ _⟩
theorem ctells_tb (A : Option Addr) (n c : Nat) (leaf : Int) (T : Option Addr) (m t : Nat) (V : Option Addr) (q v : Nat) (w : World)
    (h1 : decide (10000 < (n : Int)) = false)
    (h : 10000 < (m : Int)) : Calls Try.prog 5 #[.slice A n c, .int .i64 leaf, .slice T m t, .slice V q v] w fun e w' => e = .returned (.bool true) ∧ Below w.heap.size w w' := by
  go_enter Try.func5, Try.ntmps5
  go_wp2
  go_ret
  exact ⟨rfl, Below.refl _ _⟩
theorem ctells_vb (A : Option Addr) (n c : Nat) (leaf : Int) (T : Option Addr) (m t : Nat) (V : Option Addr) (q v : Nat) (w : World)
    (h1 : decide (10000 < (n : Int)) = false)
    (h2 : decide (10000 < (m : Int)) = false)
    (h : 10000 < (q : Int)) : Calls Try.prog 5 #[.slice A n c, .int .i64 leaf, .slice T m t, .slice V q v] w fun e w' => e = .returned (.bool true) ∧ Below w.heap.size w w' := by
  go_enter Try.func5, Try.ntmps5
  go_wp2
  go_ret
  exact ⟨rfl, Below.refl _ _⟩
set_option maxHeartbeats 4000000 in
theorem ctells_ok (A : Option Addr) (n c : Nat) (seed : List UInt8) (leaf : Int) (T : Option Addr) (m t : Nat) (text : List UInt8) (V : Option Addr) (q v : Nat) (sig : List UInt8) (w : World)
    (h1 : decide (10000 < (n : Int)) = false) (h2 : decide (10000 < (m : Int)) = false) (h3 : decide (10000 < (q : Int)) = false)
    (hs : seed.length = n) (hr : Rd w w.heap.size 1 A n (bvs seed)) (hl : text.length = m) (hmt : m ≤ t) (hrt : Rd w w.heap.size 1 T m (bvs text)) (hsl : sig.length = q) (hqv : q ≤ v) (hrv : Rd w w.heap.size 1 V q (bvs sig)) :
    Calls Try.prog 5 #[.slice A n c, .int .i64 leaf, .slice T m t, .slice V q v] w fun e w' => e = .returned (.bool true) ∧ Below w.heap.size w w' := by
  have hm : m ≤ 1000000 := by simp at h2; omega
  have c1 := fun W (h : Below w.heap.size w W) => t_c_public A n c seed leaf W hs ((hr.below h).more h.size)
  have c2 := fun W (h : Below w.heap.size w W) => t_q_public A n c seed leaf W hs ((hr.below h).more h.size)
  have c3 := fun W (h : Below w.heap.size w W) => t_c_sign A n c seed leaf T m t text W hs ((hr.below h).more h.size) hl hm hmt ((hrt.below h).more h.size)
  have c4 := fun W (h : Below w.heap.size w W) => t_q_sign A n c seed leaf T m t text W hs ((hr.below h).more h.size) hl hm hmt ((hrt.below h).more h.size)
  have c5 := fun W (h : Below w.heap.size w W) => t_c_recover leaf T m t text V q v sig W hl hm hmt ((hrt.below h).more h.size) hsl hqv ((hrv.below h).more h.size)
  have c6 := fun W (h : Below w.heap.size w W) => t_q_recover leaf T m t text V q v sig W hl hm hmt ((hrt.below h).more h.size) hsl hqv ((hrv.below h).more h.size)
  have c7 := fun W (h : Below w.heap.size w W) => c_digits T m t text W hl (by omega) hmt ((hrt.below h).more h.size)
  have c8 := fun W (h : Below w.heap.size w W) => q_digits T m t text W hl hm ((hrt.below h).more h.size)
  have hdl := digL_len (sumN text)
  obtain ⟨o1, ho1⟩ : ∃ o, o = outP seed leaf := ⟨_, rfl⟩
  obtain ⟨o2, ho2⟩ : ∃ o, o = outG seed leaf text := ⟨_, rfl⟩
  obtain ⟨o3, ho3⟩ : ∃ o, o = outV leaf text sig := ⟨_, rfl⟩
  simp only [← ho1] at c1 c2
  simp only [← ho2] at c3 c4
  simp only [← ho3] at c5 c6
  obtain ⟨l1, e1⟩ := o1
  obtain ⟨l2, e2⟩ := o2
  obtain ⟨l3, e3⟩ := o3
  have k1 := conv hr c
  have k2 := conv hrv v
  have C1 := Lib.hid c1
  have C2 := Lib.hid c2
  have C3 := Lib.hid c3
  have C4 := Lib.hid c4
  have C5 := Lib.hid c5
  have C6 := Lib.hid c6
  have C7 := Lib.hid c7
  have C8 := Lib.hid c8
  have HR := Lib.hid hr
  have HV := Lib.hid hrv
  have HDL := Lib.hid hdl
  clear c1 c2 c3 c4 c5 c6 c7 c8 hr hrt hrv ho1 ho2 ho3 hdl
  generalize digL (sumN text) = DG at *
  go_enter Try.func5, Try.ntmps5
  go_wp2_with fail
  clear k1 k2
  refine (C1.out w (Below.refl _ _)).mono ?_
  rintro e w1 ⟨D1, n1, d1, rfl, hn1, r1, b1⟩
  have R1 := Lib.hid r1
  have B1 := Lib.hid b1
  have N1 := Lib.hid hn1
  clear r1 b1 hn1
  go_wp2_with fail
  refine (C2.out w1 B1.out).mono ?_
  rintro e w2 ⟨D2, n2, d2, rfl, hn2, r2, b2⟩
  have R1 := Lib.hid (R1.out.below b2 (Nat.le_refl _))
  have R2 := Lib.hid (r2.mono (base' := w.heap.size) B1.out.size)
  have B2 := Lib.hid (below_to B1.out b2 B1.out.size)
  have N2 := Lib.hid hn2
  clear r2 b2 hn2
  go_wp2_with fail
  refine (C3.out w2 B2.out).mono ?_
  rintro e w3 ⟨D3, n3, d3, rfl, hn3, r3, b3⟩
  have R1 := Lib.hid (R1.out.below b3 (Nat.le_refl _))
  have R2 := Lib.hid (R2.out.below b3 (Nat.le_refl _))
  have R3 := Lib.hid (r3.mono (base' := w.heap.size) B2.out.size)
  have B3 := Lib.hid (below_to B2.out b3 B2.out.size)
  have N3 := Lib.hid hn3
  clear r3 b3 hn3
  go_wp2_with fail
  refine (C4.out w3 B3.out).mono ?_
  rintro e w4 ⟨D4, n4, d4, rfl, hn4, r4, b4⟩
  have R1 := Lib.hid (R1.out.below b4 (Nat.le_refl _))
  have R2 := Lib.hid (R2.out.below b4 (Nat.le_refl _))
  have R3 := Lib.hid (R3.out.below b4 (Nat.le_refl _))
  have R4 := Lib.hid (r4.mono (base' := w.heap.size) B3.out.size)
  have B4 := Lib.hid (below_to B3.out b4 B3.out.size)
  have N4 := Lib.hid hn4
  clear r4 b4 hn4
  go_wp2_with fail
  refine (C5.out w4 B4.out).mono ?_
  rintro e w5 ⟨D5, n5, d5, rfl, hn5, r5, b5⟩
  have R1 := Lib.hid (R1.out.below b5 (Nat.le_refl _))
  have R2 := Lib.hid (R2.out.below b5 (Nat.le_refl _))
  have R3 := Lib.hid (R3.out.below b5 (Nat.le_refl _))
  have R4 := Lib.hid (R4.out.below b5 (Nat.le_refl _))
  have R5 := Lib.hid (r5.mono (base' := w.heap.size) B4.out.size)
  have B5 := Lib.hid (below_to B4.out b5 B4.out.size)
  have N5 := Lib.hid hn5
  clear r5 b5 hn5
  go_wp2_with fail
  refine (C6.out w5 B5.out).mono ?_
  rintro e w6 ⟨D6, n6, d6, rfl, hn6, r6, b6⟩
  have R1 := Lib.hid (R1.out.below b6 (Nat.le_refl _))
  have R2 := Lib.hid (R2.out.below b6 (Nat.le_refl _))
  have R3 := Lib.hid (R3.out.below b6 (Nat.le_refl _))
  have R4 := Lib.hid (R4.out.below b6 (Nat.le_refl _))
  have R5 := Lib.hid (R5.out.below b6 (Nat.le_refl _))
  have R6 := Lib.hid (r6.mono (base' := w.heap.size) B5.out.size)
  have B6 := Lib.hid (below_to B5.out b6 B5.out.size)
  have N6 := Lib.hid hn6
  clear r6 b6 hn6
  have q1 := conv R1.out.rd d1
  have q2 := conv R2.out.rd d2
  have q3 := conv R3.out.rd d3
  have q4 := conv R4.out.rd d4
  have q5 := conv R5.out.rd d5
  have q6 := conv R6.out.rd d6
  go_wp2_with fail
  refine (C7.out w6 B6.out).mono ?_
  rintro e w7 ⟨D7, d7, rfl, r7, b7⟩
  have R3 := Lib.hid (R3.out.below b7 (Nat.le_refl _))
  have R7 := Lib.hid (r7.mono (base' := w.heap.size) B6.out.size)
  have B7 := Lib.hid (below_to B6.out b7 B6.out.size)
  clear r7 b7 q1 q2 q3 q4 q5 q6
  go_wp2_with fail
  refine (C8.out w7 B7.out).mono ?_
  rintro e w8 ⟨D8, d8, rfl, r8, b8⟩
  have R3 := Lib.hid (R3.out.below b8 (Nat.le_refl _))
  have R7 := Lib.hid (R7.out.below b8 (Nat.le_refl _))
  have R8 := Lib.hid (r8.mono (base' := w.heap.size) B7.out.size)
  have B8 := Lib.hid (below_to B7.out b8 B7.out.size)
  clear r8 b8
  go_wp2_with fail
  refine (q_same D7 10 d7 D8 d8 DG w8 HDL.out (by omega) R7.out.rd R8.out.rd).mono ?_
  rintro e w9 ⟨rfl, b9⟩
  have R3 := Lib.hid (R3.out.below b9 (Nat.le_refl _))
  have B9 := Lib.hid (below_to B8.out b9 B8.out.size)
  clear b9
  go_wp2
  go_loopw [24] (fun i wr => IncRel w.heap.size n3 d3 D3 w i wr) (fun i _ => n3 - (intOf i).toNat)
  case atStart => exact ⟨0, _, by omega, rfl, N3.out, R3.out, B9.out⟩
  case round =>
    have hn3 : n3 ≤ d3 := R3.out.nc
    have hd3 : d3 ≤ maxLen := R3.out.cm
    unfold maxLen at hd3
    obtain ⟨k, l, hk, rfl, hll, hf, hb⟩ := hrel
    by_cases hlt : k < n3
    · obtain ⟨g, rfl, hg1, hg2⟩ := hf.form (by omega)
      obtain ⟨u, hu, hcell⟩ := hf.cell hlt
      have hfz := hf.frozen hlt
      obtain ⟨x, hu2⟩ : ∃ x, u = bv x := by
        rw [bvs_get, List.getElem?_eq_getElem (by omega)] at hu
        exact ⟨l[k], by simpa using hu.symm⟩
      subst hu2
      have hF := hf.set (by omega) k (bv (x + 1))
      rw [bvs_set] at hF
      have hB := hb.setCell (p := ⟨g, k, none⟩) hg1 (bv (x + 1))
      have hw1 := wrap8_one x
      have HF := Lib.hid hF
      have HB := Lib.hid hB
      have HL := Lib.hid hll
      unfold bv at hcell
      clear hu hf hb hF hB hll
      go_wp2
      go_roundw
      case rel => exact ⟨k + 1, l.set k (x + 1), by omega, by simp, by rw [List.length_set]; exact HL.out, HF.out, HB.out⟩
      case measure => simp [intOf]; omega
    · obtain rfl : k = n3 := by omega
      have q7 := conv (HR.out.below hb) c
      have q8 := conv (HV.out.below hb) v
      have HB := Lib.hid hb
      clear hf hb hll
      go_wp2
      go_ret
      exact ⟨rfl, HB.out⟩
theorem chainTells_walk (A : Option Addr) (n c : Nat) (seed : List UInt8) (leaf : Int) (T : Option Addr) (m t : Nat) (text : List UInt8) (V : Option Addr) (q v : Nat) (sig : List UInt8) (w : World)
    (hs : seed.length = n) (hr : Rd w w.heap.size 1 A n (bvs seed)) (hl : text.length = m) (hmt : m ≤ t) (hrt : Rd w w.heap.size 1 T m (bvs text)) (hsl : sig.length = q) (hqv : q ≤ v) (hrv : Rd w w.heap.size 1 V q (bvs sig)) :
    Calls Try.prog 5 #[.slice A n c, .int .i64 leaf, .slice T m t, .slice V q v] w fun e w' => e = .returned (.bool true) ∧ Below w.heap.size w w' := by
  by_cases h1 : 10000 < (n : Int)
  · exact ctells_sb A n c leaf T m t V q v w h1
  by_cases h2 : 10000 < (m : Int)
  · exact ctells_tb A n c leaf T m t V q v w (by simp; omega) h2
  by_cases h3 : 10000 < (q : Int)
  · exact ctells_vb A n c leaf T m t V q v w (by simp; omega) (by simp; omega) h3
  exact ctells_ok A n c seed leaf T m t text V q v sig w (by simp; omega) (by simp; omega) (by simp; omega) hs hr hl hmt hrt hsl hqv hrv
end Go.Proofs.Ytoggpnncmgcgoaa
