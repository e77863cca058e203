/-
  What sealing and opening answer, as functions; the walk of layer 6's statement SealTells.
-/
import Derived.Test.YtfjjkkakhfgdhaaRef06
import Derived.Test.YtfjjkkakhfgdhaaLaw06
namespace Go.Proofs.Ytfjjkkakhfgdhaa
open Go.RowKit
set_option linter.unusedVariables false
set_option linter.unusedSimpArgs false
set_option maxRecDepth 100000
attribute [local go_sem] str_toList toList_mk

/-! ### what is answered: bytes, a tag, and an error's number -/
def outQ (k : List UInt8) (iv : Nat) (b : List UInt8) : List UInt8 × Int × Int := if k.length = 16 then (if (b.length : Int) ≤ 256 then (turnL k iv b, wi (tagS k iv (turnL k iv b)), 0) else ([], 0, 3)) else ([], 0, 2)
def outO (k : List UInt8) (iv : Nat) (b : List UInt8) (t : Int) : List UInt8 × Int := if k.length = 16 then (if (b.length : Int) ≤ 256 then (if wi (tagS k iv b) = t then (turnL k iv b, 0) else ([], 131)) else ([], 3)) else ([], 2)
def ToldQ (w : World) (o : List UInt8 × Int × Int) (e : Ending) (w' : World) : Prop :=
  ∃ A n c, e = .returned (.tuple #[.slice A n c, .int .u32 o.2.1, .int .i64 o.2.2]) ∧ o.1.length = n ∧ Fr w' w.heap.size 5 1 A n c (bvs o.1) ∧ Below w.heap.size w w'
def ToldO (w : World) (o : List UInt8 × Int) (e : Ending) (w' : World) : Prop :=
  ∃ A n c, e = .returned (.tuple #[.slice A n c, .int .i64 o.2]) ∧ o.1.length = n ∧ Fr w' w.heap.size 5 1 A n c (bvs o.1) ∧ Below w.heap.size w w'
theorem toldQ_same (w w' : World) (x : Int) (e : Ending) (h : e = .returned (.tuple #[.slice none 0 0, .int .u32 0, .int .i64 x]) ∧ w = w') : ToldQ w ([], 0, x) e w' := ⟨none, 0, 0, h.1, rfl, Fr.none_, h.2 ▸ Below.refl _ _⟩
theorem toldO_same (w w' : World) (x : Int) (e : Ending) (h : e = .returned (.tuple #[.slice none 0 0, .int .i64 x]) ∧ w = w') : ToldO w ([], x) e w' := ⟨none, 0, 0, h.1, rfl, Fr.none_, h.2 ▸ Below.refl _ _⟩
theorem toldO_nil (w w' : World) (x : Int) (e : Ending) (h : e = .returned (.tuple #[.slice none 0 0, .int .i64 x]) ∧ Below w.heap.size w w') : ToldO w ([], x) e w' := ⟨none, 0, 0, h.1, rfl, Fr.none_, h.2⟩
theorem t_s_seal (A : Option Addr) (m c : Nat) (k : List UInt8) (iv : Nat) (hiv : (iv : Int) < 4294967296) (B : Option Addr) (n d : Nat) (b : List UInt8) (w : World) (hk : k.length = m) (hr : Rd w w.heap.size 1 A m (bvs k)) (hb : b.length = n) (hrb : Rd w w.heap.size 1 B n (bvs b)) :
    Calls Try.prog 40 #[.slice A m c, .int .u32 (iv : Int), .slice B n d] w (ToldQ w (outQ k iv b)) := by
  unfold outQ
  by_cases hm : m = 16
  · rw [if_pos (by omega)]
    by_cases h1 : 256 < (n : Int)
    · rw [if_neg (by omega)]
      exact (s_seal_h A m c iv B n d w hm h1).mono fun e w' h => toldQ_same w w' 3 e h
    · rw [if_pos (by omega)]
      subst hm
      refine (s_seal A c k iv hiv B n d b w hk hr hb (by omega) hrb).mono ?_
      rintro e w' ⟨D, d, rfl, f, bl⟩
      exact ⟨D, n, d, rfl, by rw [turnL_len, hb], f, bl⟩
  · rw [if_neg (by omega)]
    exact (s_seal_k A m c iv B n d w (by simp; omega) (by simp; omega)).mono fun e w' h => toldQ_same w w' 2 e h
theorem t_r_seal (A : Option Addr) (m c : Nat) (k : List UInt8) (iv : Nat) (hiv : (iv : Int) < 4294967296) (B : Option Addr) (n d : Nat) (b : List UInt8) (w : World) (hk : k.length = m) (hr : Rd w w.heap.size 1 A m (bvs k)) (hb : b.length = n) (hrb : Rd w w.heap.size 1 B n (bvs b)) :
    Calls Try.prog 43 #[.slice A m c, .int .u32 (iv : Int), .slice B n d] w (ToldQ w (outQ k iv b)) := by
  unfold outQ
  by_cases hm : m = 16
  · rw [if_pos (by omega)]
    by_cases h1 : 256 < (n : Int)
    · rw [if_neg (by omega)]
      exact (r_seal_h A m c iv B n d w hm h1).mono fun e w' h => toldQ_same w w' 3 e h
    · rw [if_pos (by omega)]
      subst hm
      refine (r_seal A c k iv hiv B n d b w hk hr hb (by omega) hrb).mono ?_
      rintro e w' ⟨D, d, rfl, f, bl⟩
      exact ⟨D, n, d, rfl, by rw [turnL_len, hb], f, bl⟩
  · rw [if_neg (by omega)]
    exact (r_seal_k A m c iv B n d w (by simp; omega)).mono fun e w' h => toldQ_same w w' 2 e h
theorem t_s_open (A : Option Addr) (m c : Nat) (k : List UInt8) (iv : Nat) (hiv : (iv : Int) < 4294967296) (B : Option Addr) (n d : Nat) (b : List UInt8) (t : Int) (w : World) (hk : k.length = m) (hr : Rd w w.heap.size 1 A m (bvs k)) (hb : b.length = n) (hrb : Rd w w.heap.size 1 B n (bvs b)) :
    Calls Try.prog 41 #[.slice A m c, .int .u32 (iv : Int), .slice B n d, .int .u32 t] w (ToldO w (outO k iv b t)) := by
  unfold outO
  by_cases hm : m = 16
  · rw [if_pos (by omega)]
    by_cases h1 : 256 < (n : Int)
    · rw [if_neg (by omega)]
      exact (s_open_h A m c iv B n d t w hm h1).mono fun e w' h => toldO_same w w' 3 e h
    · rw [if_pos (by omega)]
      subst hm
      by_cases ht : wi (tagS k iv b) = t
      · rw [if_pos ht]
        refine (s_open_ok A c k iv hiv B n d b t w hk hr hb (by omega) hrb ht).mono ?_
        rintro e w' ⟨D, d, rfl, f, bl⟩
        exact ⟨D, n, d, rfl, by rw [turnL_len, hb], f, bl⟩
      · rw [if_neg ht]
        exact (s_open_no A c k iv hiv B n d b t w hk hr hb (by omega) hrb (by simpa using ht)).mono fun e w' h => toldO_nil w w' 131 e h
  · rw [if_neg (by omega)]
    exact (s_open_k A m c iv B n d t w (by simp; omega) (by simp; omega)).mono fun e w' h => toldO_same w w' 2 e h
theorem t_r_open (A : Option Addr) (m c : Nat) (k : List UInt8) (iv : Nat) (hiv : (iv : Int) < 4294967296) (B : Option Addr) (n d : Nat) (b : List UInt8) (t : Int) (w : World) (hk : k.length = m) (hr : Rd w w.heap.size 1 A m (bvs k)) (hb : b.length = n) (hrb : Rd w w.heap.size 1 B n (bvs b)) :
    Calls Try.prog 44 #[.slice A m c, .int .u32 (iv : Int), .slice B n d, .int .u32 t] w (ToldO w (outO k iv b t)) := by
  unfold outO
  by_cases hm : m = 16
  · rw [if_pos (by omega)]
    by_cases h1 : 256 < (n : Int)
    · rw [if_neg (by omega)]
      exact (r_open_h A m c iv B n d t w hm h1).mono fun e w' h => toldO_same w w' 3 e h
    · rw [if_pos (by omega)]
      subst hm
      by_cases ht : wi (tagS k iv b) = t
      · rw [if_pos ht]
        refine (r_open_ok A c k iv hiv B n d b t w hk hr hb (by omega) hrb ht).mono ?_
        rintro e w' ⟨D, d, rfl, f, bl⟩
        exact ⟨D, n, d, rfl, by rw [turnL_len, hb], f, bl⟩
      · rw [if_neg ht]
        exact (r_open_no A c k iv hiv B n d b t w hk hr hb (by omega) hrb (by simpa using ht)).mono fun e w' h => toldO_nil w w' 131 e h
  · rw [if_neg (by omega)]
    exact (r_open_k A m c iv B n d t w (by simp; omega)).mono fun e w' h => toldO_same w w' 2 e h

theorem sealt_kb (K : Option Addr) (m c : Nat) (iv : Nat) (B : Option Addr) (n d : Nat) (t : Int) (w : World)
    (h : 10000 < (m : Int)) : Calls Try.prog 18 #[.slice K m c, .int .u32 (iv : Int), .slice B n d, .int .u32 t] w fun e w' => e = .returned (.bool true) ∧ Below w.heap.size w w' := by
  go_enter Try.func18, Try.ntmps18
  go_wp2
  go_ret
  exact ⟨rfl, Below.refl _ _⟩
theorem sealt_bb (K : Option Addr) (m c : Nat) (iv : Nat) (B : Option Addr) (n d : Nat) (t : Int) (w : World)
    (h1 : decide (10000 < (m : Int)) = false)
    (h : 10000 < (n : Int)) : Calls Try.prog 18 #[.slice K m c, .int .u32 (iv : Int), .slice B n d, .int .u32 t] w fun e w' => e = .returned (.bool true) ∧ Below w.heap.size w w' := by
  go_enter Try.func18, Try.ntmps18
  go_wp2
  go_ret
  exact ⟨rfl, Below.refl _ _⟩
set_option maxHeartbeats 4000000 in
theorem sealt_ok (K : Option Addr) (m c : Nat) (k : List UInt8) (iv : Nat) (hiv : (iv : Int) < 4294967296) (B : Option Addr) (n d : Nat) (b : List UInt8) (t : Int) (w : World)
    (h1 : decide (10000 < (m : Int)) = false) (h2 : decide (10000 < (n : Int)) = false)
    (hk : k.length = m) (hrk : Rd w w.heap.size 1 K m (bvs k)) (hb : b.length = n) (hrb : Rd w w.heap.size 1 B n (bvs b)) :
    Calls Try.prog 18 #[.slice K m c, .int .u32 (iv : Int), .slice B n d, .int .u32 t] w fun e w' => e = .returned (.bool true) ∧ Below w.heap.size w w' := by
  have c1 := fun W (h : Below w.heap.size w W) => t_s_seal K m c k iv hiv B n d b W hk ((hrk.below h).more h.size) hb ((hrb.below h).more h.size)
  have c2 := fun W (h : Below w.heap.size w W) => t_r_seal K m c k iv hiv B n d b W hk ((hrk.below h).more h.size) hb ((hrb.below h).more h.size)
  have c3 := fun W (h : Below w.heap.size w W) => t_s_open K m c k iv hiv B n d b t W hk ((hrk.below h).more h.size) hb ((hrb.below h).more h.size)
  have c4 := fun W (h : Below w.heap.size w W) => t_r_open K m c k iv hiv B n d b t W hk ((hrk.below h).more h.size) hb ((hrb.below h).more h.size)
  obtain ⟨o1, ho1⟩ : ∃ o, o = outQ k iv b := ⟨_, rfl⟩
  obtain ⟨o2, ho2⟩ : ∃ o, o = outO k iv b t := ⟨_, rfl⟩
  simp only [← ho1] at c1 c2
  simp only [← ho2] at c3 c4
  obtain ⟨l1, t1, e1⟩ := o1
  obtain ⟨l2, e2⟩ := o2
  have k1 := conv hrb d
  have C1 := Lib.hid c1
  have C2 := Lib.hid c2
  have C3 := Lib.hid c3
  have C4 := Lib.hid c4
  have HR := Lib.hid hrb
  clear c1 c2 c3 c4 hrk hrb ho1 ho2 hiv hk hb
  go_enter Try.func18, Try.ntmps18
  go_wp2_with fail
  clear k1
  refine (C1.out w (Below.refl _ _)).mono ?_
  rintro e w1 ⟨D1, n1, d1, rfl, hn1, r1, b1⟩
  have R1 := Lib.hid r1
  have B1 := Lib.hid b1
  clear r1 b1 hn1
  go_wp2_with fail
  refine (C2.out w1 B1.out).mono ?_
  rintro e w2 ⟨D2, n2, d2, rfl, hn2, r2, b2⟩
  have R1 := Lib.hid (R1.out.below b2 (Nat.le_refl _))
  have R2 := Lib.hid (r2.mono (base' := w.heap.size) B1.out.size)
  have B2 := Lib.hid (below_to B1.out b2 B1.out.size)
  clear r2 b2 hn2
  go_wp2_with fail
  refine (C3.out w2 B2.out).mono ?_
  rintro e w3 ⟨D3, n3, d3, rfl, hn3, r3, b3⟩
  have R1 := Lib.hid (R1.out.below b3 (Nat.le_refl _))
  have R2 := Lib.hid (R2.out.below b3 (Nat.le_refl _))
  have R3 := Lib.hid (r3.mono (base' := w.heap.size) B2.out.size)
  have B3 := Lib.hid (below_to B2.out b3 B2.out.size)
  clear r3 b3 hn3
  go_wp2_with fail
  refine (C4.out w3 B3.out).mono ?_
  rintro e w4 ⟨D4, n4, d4, rfl, hn4, r4, b4⟩
  have R1 := Lib.hid (R1.out.below b4 (Nat.le_refl _))
  have R2 := Lib.hid (R2.out.below b4 (Nat.le_refl _))
  have R3 := Lib.hid (R3.out.below b4 (Nat.le_refl _))
  have R4 := Lib.hid (r4.mono (base' := w.heap.size) B3.out.size)
  have B4 := Lib.hid (below_to B3.out b4 B3.out.size)
  clear r4 b4 hn4
  have q1 := conv R1.out.rd d1
  have q2 := conv R2.out.rd d2
  have q3 := conv R3.out.rd d3
  have q4 := conv R4.out.rd d4
  have q5 := conv (HR.out.below B4.out) d
  go_wp2
  go_ret
  exact ⟨rfl, B4.out⟩
theorem sealTells_walk (K : Option Addr) (m c : Nat) (k : List UInt8) (iv : Nat) (hiv : (iv : Int) < 4294967296) (B : Option Addr) (n d : Nat) (b : List UInt8) (t : Int) (w : World)
    (hk : k.length = m) (hrk : Rd w w.heap.size 1 K m (bvs k)) (hb : b.length = n) (hrb : Rd w w.heap.size 1 B n (bvs b)) :
    Calls Try.prog 18 #[.slice K m c, .int .u32 (iv : Int), .slice B n d, .int .u32 t] w fun e w' => e = .returned (.bool true) ∧ Below w.heap.size w w' := by
  by_cases h1 : 10000 < (m : Int)
  · exact sealt_kb K m c iv B n d t w h1
  by_cases h2 : 10000 < (n : Int)
  · exact sealt_bb K m c iv B n d t w (by simp; omega) h2
  exact sealt_ok K m c k iv hiv B n d b t w (by simp; omega) (by simp; omega) hk hrk hb hrb
end Go.Proofs.Ytfjjkkakhfgdhaa
