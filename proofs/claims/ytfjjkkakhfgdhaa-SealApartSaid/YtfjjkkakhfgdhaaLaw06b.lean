/-
  The walk of SealApart.
-/
import Derived.Test.YtfjjkkakhfgdhaaLaw06
namespace Go.Proofs.Ytfjjkkakhfgdhaa
open Go.RowKit
set_option linter.unusedVariables false
set_option linter.unusedSimpArgs false
set_option maxRecDepth 100000
attribute [local go_sem] str_toList toList_mk

theorem sealApart_kb (K : Option Addr) (m c : Nat) (k : List UInt8) (iv : Nat) (hiv : (iv : Int) < 4294967296) (A : Option Addr) (na ca : Nat) (a : List UInt8) (B : Option Addr) (nb cb : Nat) (b : List UInt8) (w : World) (hk : k.length = m) (hrk : Rd w w.heap.size 1 K m (bvs k))
    (ha : a.length = na) (hra : Rd w w.heap.size 1 A na (bvs a)) (hb : b.length = nb) (hrb : Rd w w.heap.size 1 B nb (bvs b))
    (h0 : 1000 < (m : Int))
    : Calls Try.prog 20 #[.slice K m c, .int .u32 (iv : Int), .slice A na ca, .slice B nb cb] w fun e w' => e = .returned (.bool true) ∧ Below w.heap.size w w' := by
  clear hrk hra hrb hiv hk ha hb
  go_enter Try.func20, Try.ntmps20
  go_wp2_with fail
  refine (alive06 _).mono ?_
  rintro e w1 ⟨rfl, b1⟩
  go_wp2
  go_ret
  exact ⟨rfl, b1⟩
theorem sealApart_ab (K : Option Addr) (m c : Nat) (k : List UInt8) (iv : Nat) (hiv : (iv : Int) < 4294967296) (A : Option Addr) (na ca : Nat) (a : List UInt8) (B : Option Addr) (nb cb : Nat) (b : List UInt8) (w : World) (hk : k.length = m) (hrk : Rd w w.heap.size 1 K m (bvs k))
    (ha : a.length = na) (hra : Rd w w.heap.size 1 A na (bvs a)) (hb : b.length = nb) (hrb : Rd w w.heap.size 1 B nb (bvs b))
    (h0 : decide (1000 < (m : Int)) = false)
    (h1 : 10000 < (na : Int))
    : Calls Try.prog 20 #[.slice K m c, .int .u32 (iv : Int), .slice A na ca, .slice B nb cb] w fun e w' => e = .returned (.bool true) ∧ Below w.heap.size w w' := by
  clear hrk hra hrb hiv hk ha hb
  go_enter Try.func20, Try.ntmps20
  go_wp2_with fail
  refine (alive06 _).mono ?_
  rintro e w1 ⟨rfl, b1⟩
  go_wp2
  go_ret
  exact ⟨rfl, b1⟩
theorem sealApart_bb (K : Option Addr) (m c : Nat) (k : List UInt8) (iv : Nat) (hiv : (iv : Int) < 4294967296) (A : Option Addr) (na ca : Nat) (a : List UInt8) (B : Option Addr) (nb cb : Nat) (b : List UInt8) (w : World) (hk : k.length = m) (hrk : Rd w w.heap.size 1 K m (bvs k))
    (ha : a.length = na) (hra : Rd w w.heap.size 1 A na (bvs a)) (hb : b.length = nb) (hrb : Rd w w.heap.size 1 B nb (bvs b))
    (h0 : decide (1000 < (m : Int)) = false)
    (h1 : decide (10000 < (na : Int)) = false)
    (h1b : 10000 < (nb : Int))
    : Calls Try.prog 20 #[.slice K m c, .int .u32 (iv : Int), .slice A na ca, .slice B nb cb] w fun e w' => e = .returned (.bool true) ∧ Below w.heap.size w w' := by
  clear hrk hra hrb hiv hk ha hb
  go_enter Try.func20, Try.ntmps20
  go_wp2_with fail
  refine (alive06 _).mono ?_
  rintro e w1 ⟨rfl, b1⟩
  go_wp2
  go_ret
  exact ⟨rfl, b1⟩
theorem sealApart_k (K : Option Addr) (m c : Nat) (k : List UInt8) (iv : Nat) (hiv : (iv : Int) < 4294967296) (A : Option Addr) (na ca : Nat) (a : List UInt8) (B : Option Addr) (nb cb : Nat) (b : List UInt8) (w : World) (hk : k.length = m) (hrk : Rd w w.heap.size 1 K m (bvs k))
    (ha : a.length = na) (hra : Rd w w.heap.size 1 A na (bvs a)) (hb : b.length = nb) (hrb : Rd w w.heap.size 1 B nb (bvs b))
    (h0 : decide (1000 < (m : Int)) = false)
    (h1 : decide (10000 < (na : Int)) = false)
    (h1b : decide (10000 < (nb : Int)) = false)
    (h2 : ((m : Int) == 16) = false) (h2' : ((m : Int) != 16) = true)
    : Calls Try.prog 20 #[.slice K m c, .int .u32 (iv : Int), .slice A na ca, .slice B nb cb] w fun e w' => e = .returned (.bool true) ∧ Below w.heap.size w w' := by
  clear hrk hra hrb hiv hk ha hb
  go_enter Try.func20, Try.ntmps20
  go_wp2_with fail
  refine (alive06 _).mono ?_
  rintro e w1 ⟨rfl, b1⟩
  go_wp2_with fail
  refine (s_seal_k K m c iv A na ca w1 h2 h2').mono ?_
  rintro e w2 ⟨rfl, rfl⟩
  go_wp2_with fail
  refine (s_seal_k K m c iv B nb cb w1 h2 h2').mono ?_
  rintro e w2 ⟨rfl, rfl⟩
  go_wp2
  go_ret
  exact ⟨rfl, b1⟩
theorem sealApart_hh (K : Option Addr) (m c : Nat) (k : List UInt8) (iv : Nat) (hiv : (iv : Int) < 4294967296) (A : Option Addr) (na ca : Nat) (a : List UInt8) (B : Option Addr) (nb cb : Nat) (b : List UInt8) (w : World) (hk : k.length = m) (hrk : Rd w w.heap.size 1 K m (bvs k))
    (ha : a.length = na) (hra : Rd w w.heap.size 1 A na (bvs a)) (hb : b.length = nb) (hrb : Rd w w.heap.size 1 B nb (bvs b))
    (h1 : decide (10000 < (na : Int)) = false)
    (h1b : decide (10000 < (nb : Int)) = false)
    (h2 : m = 16)
    (h3 : 256 < (na : Int))
    (h4 : 256 < (nb : Int))
    : Calls Try.prog 20 #[.slice K m c, .int .u32 (iv : Int), .slice A na ca, .slice B nb cb] w fun e w' => e = .returned (.bool true) ∧ Below w.heap.size w w' := by
  subst h2
  have hSA := fun W => s_seal_h K 16 c iv A na ca W rfl h3
  have hSB := fun W => s_seal_h K 16 c iv B nb cb W rfl h4
  have HSA := Lib.hid hSA
  have HSB := Lib.hid hSB
  clear hSA hSB h3 h4
  clear hrk hra hrb hiv hk ha hb
  go_enter Try.func20, Try.ntmps20
  go_wp2_with fail
  refine (alive06 _).mono ?_
  rintro e w1 ⟨rfl, b1⟩
  go_wp2_with fail
  refine (HSA.out w1).mono ?_
  rintro e w2 ⟨rfl, rfl⟩
  go_wp2_with fail
  refine (HSB.out w1).mono ?_
  rintro e w2 ⟨rfl, rfl⟩
  go_wp2
  go_ret
  exact ⟨rfl, b1⟩
theorem sealApart_ho (K : Option Addr) (m c : Nat) (k : List UInt8) (iv : Nat) (hiv : (iv : Int) < 4294967296) (A : Option Addr) (na ca : Nat) (a : List UInt8) (B : Option Addr) (nb cb : Nat) (b : List UInt8) (w : World) (hk : k.length = m) (hrk : Rd w w.heap.size 1 K m (bvs k))
    (ha : a.length = na) (hra : Rd w w.heap.size 1 A na (bvs a)) (hb : b.length = nb) (hrb : Rd w w.heap.size 1 B nb (bvs b))
    (h1 : decide (10000 < (na : Int)) = false)
    (h1b : decide (10000 < (nb : Int)) = false)
    (h2 : m = 16)
    (h3 : 256 < (na : Int))
    (h4 : (nb : Int) ≤ 256)
    : Calls Try.prog 20 #[.slice K m c, .int .u32 (iv : Int), .slice A na ca, .slice B nb cb] w fun e w' => e = .returned (.bool true) ∧ Below w.heap.size w w' := by
  subst h2
  have hSA := fun W => s_seal_h K 16 c iv A na ca W rfl h3
  have hSB := fun W (h : Below w.heap.size w W) => s_seal K c k iv hiv B nb cb b W hk ((hrk.below h).more h.size) hb h4 ((hrb.below h).more h.size)
  have HSA := Lib.hid hSA
  have HSB := Lib.hid hSB
  clear hSA hSB h3 h4
  clear hrk hra hrb hiv hk ha hb
  go_enter Try.func20, Try.ntmps20
  go_wp2_with fail
  refine (alive06 _).mono ?_
  rintro e w1 ⟨rfl, b1⟩
  go_wp2_with fail
  refine (HSA.out w1).mono ?_
  rintro e w2 ⟨rfl, rfl⟩
  go_wp2_with fail
  refine (HSB.out w1 b1).mono ?_
  rintro e w3 ⟨D3, d3, rfl, f3, b3⟩
  go_wp2
  go_ret
  exact ⟨rfl, below_to b1 b3 b1.size⟩
theorem sealApart_oh (K : Option Addr) (m c : Nat) (k : List UInt8) (iv : Nat) (hiv : (iv : Int) < 4294967296) (A : Option Addr) (na ca : Nat) (a : List UInt8) (B : Option Addr) (nb cb : Nat) (b : List UInt8) (w : World) (hk : k.length = m) (hrk : Rd w w.heap.size 1 K m (bvs k))
    (ha : a.length = na) (hra : Rd w w.heap.size 1 A na (bvs a)) (hb : b.length = nb) (hrb : Rd w w.heap.size 1 B nb (bvs b))
    (h1 : decide (10000 < (na : Int)) = false)
    (h1b : decide (10000 < (nb : Int)) = false)
    (h2 : m = 16)
    (h3 : (na : Int) ≤ 256)
    (h4 : 256 < (nb : Int))
    : Calls Try.prog 20 #[.slice K m c, .int .u32 (iv : Int), .slice A na ca, .slice B nb cb] w fun e w' => e = .returned (.bool true) ∧ Below w.heap.size w w' := by
  subst h2
  have hSA := fun W (h : Below w.heap.size w W) => s_seal K c k iv hiv A na ca a W hk ((hrk.below h).more h.size) ha h3 ((hra.below h).more h.size)
  have hSB := fun W => s_seal_h K 16 c iv B nb cb W rfl h4
  have HSA := Lib.hid hSA
  have HSB := Lib.hid hSB
  clear hSA hSB h3 h4
  clear hrk hra hrb hiv hk ha hb
  go_enter Try.func20, Try.ntmps20
  go_wp2_with fail
  refine (alive06 _).mono ?_
  rintro e w1 ⟨rfl, b1⟩
  go_wp2_with fail
  refine (HSA.out w1 b1).mono ?_
  rintro e w2 ⟨D2, d2, rfl, f2, b2⟩
  go_wp2_with fail
  refine (HSB.out w2).mono ?_
  rintro e w3 ⟨rfl, rfl⟩
  go_wp2
  go_ret
  exact ⟨rfl, below_to b1 b2 b1.size⟩

set_option maxHeartbeats 2000000 in
theorem sealApart_ok_y (K : Option Addr) (c : Nat) (k : List UInt8) (iv : Nat) (hiv : (iv : Int) < 4294967296) (A : Option Addr) (na ca : Nat) (a : List UInt8) (B : Option Addr) (nb cb : Nat) (b : List UInt8) (w : World) (hk : k.length = 16) (hrk : Rd w w.heap.size 1 K 16 (bvs k))
    (ha : a.length = na) (hra : Rd w w.heap.size 1 A na (bvs a)) (hb : b.length = nb) (hrb : Rd w w.heap.size 1 B nb (bvs b)) (h3 : (na : Int) ≤ 256) (h4 : (nb : Int) ≤ 256)
    (he : a = b)
    : Calls Try.prog 20 #[.slice K 16 c, .int .u32 (iv : Int), .slice A na ca, .slice B nb cb] w fun e w' => e = .returned (.bool true) ∧ Below w.heap.size w w' := by
  have h1 : decide (10000 < (na : Int)) = false := by simp; omega
  have h1b : decide (10000 < (nb : Int)) = false := by simp; omega
  subst he
  have hSA := fun W (h : Below w.heap.size w W) => s_seal K c k iv hiv A na ca a W hk ((hrk.below h).more h.size) ha h3 ((hra.below h).more h.size)
  have hSB := fun W (h : Below w.heap.size w W) => s_seal K c k iv hiv B nb cb a W hk ((hrk.below h).more h.size) hb h4 ((hrb.below h).more h.size)
  have HSA := Lib.hid hSA
  have HSB := Lib.hid hSB
  have HRA := Lib.hid hra
  have HRB := Lib.hid hrb
  clear hSA hSB h3 h4 hrk hra hrb hiv hk
  generalize wi (tagS k iv (turnL k iv a)) = ta at *
  generalize turnL k iv a = x at *
  go_enter Try.func20, Try.ntmps20
  go_wp2_with fail
  refine (alive06 _).mono ?_
  rintro e w1 ⟨rfl, b1⟩
  go_wp2_with fail
  refine (HSA.out w1 b1).mono ?_
  rintro e w2 ⟨D2, d2, rfl, f2, b2⟩
  have B2 := below_to b1 b2 b1.size
  go_wp2_with fail
  refine (HSB.out w2 B2).mono ?_
  rintro e w3 ⟨D3, d3, rfl, f3, b3⟩
  have B3 := below_to B2 b3 B2.size
  have k1 := conv (f2.below b3 (Nat.le_refl _)).rd d2
  have k2 := conv f3.rd d3
  have k3 := conv (HRA.out.below B3) ca
  have k4 := conv (HRB.out.below B3) cb
  clear f2 f3 b2 b3
  go_wp2
  go_ret
  exact ⟨rfl, B3⟩
set_option maxHeartbeats 2000000 in
theorem sealApart_ok_n (K : Option Addr) (c : Nat) (k : List UInt8) (iv : Nat) (hiv : (iv : Int) < 4294967296) (A : Option Addr) (na ca : Nat) (a : List UInt8) (B : Option Addr) (nb cb : Nat) (b : List UInt8) (w : World) (hk : k.length = 16) (hrk : Rd w w.heap.size 1 K 16 (bvs k))
    (ha : a.length = na) (hra : Rd w w.heap.size 1 A na (bvs a)) (hb : b.length = nb) (hrb : Rd w w.heap.size 1 B nb (bvs b)) (h3 : (na : Int) ≤ 256) (h4 : (nb : Int) ≤ 256)
    (he : a ≠ b)
    : Calls Try.prog 20 #[.slice K 16 c, .int .u32 (iv : Int), .slice A na ca, .slice B nb cb] w fun e w' => e = .returned (.bool true) ∧ Below w.heap.size w w' := by
  have h1 : decide (10000 < (na : Int)) = false := by simp; omega
  have h1b : decide (10000 < (nb : Int)) = false := by simp; omega
  have hne : (a == b) = false := by simpa using he
  have hne2 : (turnL k iv a == turnL k iv b) = false := by
    simp only [beq_eq_false_iff_ne]
    intro h
    have h' := congrArg (turnL k iv) h
    rw [turnL_twice, turnL_twice] at h'
    exact he h'
  have hSA := fun W (h : Below w.heap.size w W) => s_seal K c k iv hiv A na ca a W hk ((hrk.below h).more h.size) ha h3 ((hra.below h).more h.size)
  have hSB := fun W (h : Below w.heap.size w W) => s_seal K c k iv hiv B nb cb b W hk ((hrk.below h).more h.size) hb h4 ((hrb.below h).more h.size)
  have HSA := Lib.hid hSA
  have HSB := Lib.hid hSB
  have HRA := Lib.hid hra
  have HRB := Lib.hid hrb
  clear hSA hSB h3 h4 hrk hra hrb hiv hk
  clear he
  generalize wi (tagS k iv (turnL k iv a)) = ta at *
  generalize wi (tagS k iv (turnL k iv b)) = tb at *
  generalize turnL k iv a = x at *
  generalize turnL k iv b = y at *
  go_enter Try.func20, Try.ntmps20
  go_wp2_with fail
  refine (alive06 _).mono ?_
  rintro e w1 ⟨rfl, b1⟩
  go_wp2_with fail
  refine (HSA.out w1 b1).mono ?_
  rintro e w2 ⟨D2, d2, rfl, f2, b2⟩
  have B2 := below_to b1 b2 b1.size
  go_wp2_with fail
  refine (HSB.out w2 B2).mono ?_
  rintro e w3 ⟨D3, d3, rfl, f3, b3⟩
  have B3 := below_to B2 b3 B2.size
  have k1 := conv (f2.below b3 (Nat.le_refl _)).rd d2
  have k2 := conv f3.rd d3
  have k3 := conv (HRA.out.below B3) ca
  have k4 := conv (HRB.out.below B3) cb
  clear f2 f3 b2 b3
  go_wp2
  go_ret
  exact ⟨rfl, B3⟩
theorem sealApart_walk (K : Option Addr) (m c : Nat) (k : List UInt8) (iv : Nat) (hiv : (iv : Int) < 4294967296) (A : Option Addr) (na ca : Nat) (a : List UInt8) (B : Option Addr) (nb cb : Nat) (b : List UInt8) (w : World) (hk : k.length = m) (hrk : Rd w w.heap.size 1 K m (bvs k))
    (ha : a.length = na) (hra : Rd w w.heap.size 1 A na (bvs a)) (hb : b.length = nb) (hrb : Rd w w.heap.size 1 B nb (bvs b)) :
    Calls Try.prog 20 #[.slice K m c, .int .u32 (iv : Int), .slice A na ca, .slice B nb cb] w fun e w' => e = .returned (.bool true) ∧ Below w.heap.size w w' := by
  by_cases h0 : 1000 < (m : Int)
  · exact sealApart_kb K m c k iv hiv A na ca a B nb cb b w hk hrk ha hra hb hrb h0
  · by_cases h1 : 10000 < (na : Int)
    · exact sealApart_ab K m c k iv hiv A na ca a B nb cb b w hk hrk ha hra hb hrb (by simp; omega) h1
    · by_cases h1b : 10000 < (nb : Int)
      · exact sealApart_bb K m c k iv hiv A na ca a B nb cb b w hk hrk ha hra hb hrb (by simp; omega) (by simp; omega) h1b
      · by_cases h2 : m = 16
        · by_cases h3 : 256 < (na : Int)
          · by_cases h4 : 256 < (nb : Int)
            · exact sealApart_hh K m c k iv hiv A na ca a B nb cb b w hk hrk ha hra hb hrb (by simp; omega) (by simp; omega) h2 h3 h4
            · exact sealApart_ho K m c k iv hiv A na ca a B nb cb b w hk hrk ha hra hb hrb (by simp; omega) (by simp; omega) h2 h3 (by omega)
          · by_cases h4 : 256 < (nb : Int)
            · exact sealApart_oh K m c k iv hiv A na ca a B nb cb b w hk hrk ha hra hb hrb (by simp; omega) (by simp; omega) h2 (by omega) h4
            · subst h2
              by_cases he : a = b
              · exact sealApart_ok_y K c k iv hiv A na ca a B nb cb b w hk hrk ha hra hb hrb (by omega) (by omega) he
              · exact sealApart_ok_n K c k iv hiv A na ca a B nb cb b w hk hrk ha hra hb hrb (by omega) (by omega) he
        · exact sealApart_k K m c k iv hiv A na ca a B nb cb b w hk hrk ha hra hb hrb (by simp; omega) (by simp; omega) (by simp; omega) (by simp; omega) (by simp; omega)
end Go.Proofs.Ytfjjkkakhfgdhaa
