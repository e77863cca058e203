/-
  The walk of layer 3's statement MacTells.
-/
import Derived.Test.YtfjjkkakhfgdhaaRef03
import Derived.Test.YtfjjkkakhfgdhaaLaw03
namespace Go.Proofs.Ytfjjkkakhfgdhaa
open Go.RowKit
set_option linter.unusedVariables false
set_option linter.unusedSimpArgs false
set_option maxRecDepth 100000
attribute [local go_sem] str_toList toList_mk

theorem r_tag_bad (A : Option Addr) (n c : Nat) (D : Option Addr) (m d : Nat) (w : World) (h : ((n : Int) != 16) = true) : Calls Try.prog 34 #[.slice A n c, .slice D m d] w fun e w' => e = .returned (.tuple #[.int .u32 0, .int .i64 2]) ∧ w = w' := by
  go_enter Try.func34, Try.ntmps34
  go_wp2
  go_ret2
  exact ⟨rfl, rfl⟩
theorem r_tag (K : Option Addr) (c : Nat) (k : List UInt8) (D : Option Addr) (m d : Nat) (b : List UInt8) (w : World) (hk : k.length = 16) (hrk : Rd w w.heap.size 1 K 16 (bvs k)) (hb : b.length = m) (hm : m ≤ 20000) (hrb : Rd w w.heap.size 1 D m (bvs b)) :
    Calls Try.prog 34 #[.slice K 16 c, .slice D m d] w fun e w' => e = .returned (.tuple #[.int .u32 (wi (tagOf k b)), .int .i64 0]) ∧ Below w.heap.size w w' := by
  have h := r_ofT K c k D m d b w hk hrk hb hm hrb
  have H := Lib.hid h
  clear h hrk hrb
  generalize wi (tagOf k b) = T at *
  go_enter Try.func34, Try.ntmps34
  go_wp2_with fail
  refine H.out.mono ?_
  rintro e w1 ⟨rfl, b1⟩
  go_wp2
  go_ret2
  exact ⟨rfl, b1⟩
theorem mtells_kb (K : Option Addr) (n c : Nat) (k : List UInt8) (B : Option Addr) (m d : Nat) (b : List UInt8) (w : World)
    (hk : k.length = n) (hrk : Rd w w.heap.size 1 K n (bvs k)) (hb : b.length = m) (hrb : Rd w w.heap.size 1 B m (bvs b))
    (h : 10000 < (n : Int))
    : Calls Try.prog 10 #[.slice K n c, .slice B m d] w fun e w' => e = .returned (.bool true) ∧ Below w.heap.size w w' := by
  go_enter Try.func10, Try.ntmps10
  go_wp2
  go_ret
  exact ⟨rfl, Below.refl _ _⟩
theorem mtells_bb (K : Option Addr) (n c : Nat) (k : List UInt8) (B : Option Addr) (m d : Nat) (b : List UInt8) (w : World)
    (hk : k.length = n) (hrk : Rd w w.heap.size 1 K n (bvs k)) (hb : b.length = m) (hrb : Rd w w.heap.size 1 B m (bvs b))
    (h1 : decide (10000 < (n : Int)) = false)
    (h : 10000 < (m : Int))
    : Calls Try.prog 10 #[.slice K n c, .slice B m d] w fun e w' => e = .returned (.bool true) ∧ Below w.heap.size w w' := by
  go_enter Try.func10, Try.ntmps10
  go_wp2
  go_ret
  exact ⟨rfl, Below.refl _ _⟩
theorem mtells_bad (K : Option Addr) (n c : Nat) (k : List UInt8) (B : Option Addr) (m d : Nat) (b : List UInt8) (w : World)
    (hk : k.length = n) (hrk : Rd w w.heap.size 1 K n (bvs k)) (hb : b.length = m) (hrb : Rd w w.heap.size 1 B m (bvs b))
    (h1 : decide (10000 < (n : Int)) = false)
    (h2 : decide (10000 < (m : Int)) = false)
    (h : ((n : Int) != 16) = true)
    : Calls Try.prog 10 #[.slice K n c, .slice B m d] w fun e w' => e = .returned (.bool true) ∧ Below w.heap.size w w' := by
  have HK := Lib.hid hrk
  have HB := Lib.hid hrb
  have k1 := conv hrk c
  have k2 := conv hrb d
  clear hrk hrb
  go_enter Try.func10, Try.ntmps10
  go_wp2_with fail
  refine (m_tag_bad K n c B m d w h).mono ?_
  rintro e w1 ⟨rfl, rfl⟩
  go_wp2_with fail
  refine (r_tag_bad K n c B m d w h).mono ?_
  rintro e w1 ⟨rfl, rfl⟩
  go_wp2
  go_ret
  exact ⟨rfl, Below.refl _ _⟩
theorem mtells_ok (K : Option Addr) (n c : Nat) (k : List UInt8) (B : Option Addr) (m d : Nat) (b : List UInt8) (w : World)
    (hk : k.length = n) (hrk : Rd w w.heap.size 1 K n (bvs k)) (hb : b.length = m) (hrb : Rd w w.heap.size 1 B m (bvs b))
    (h1 : decide (10000 < (n : Int)) = false)
    (h2 : decide (10000 < (m : Int)) = false)
    (h : n = 16)
    : Calls Try.prog 10 #[.slice K n c, .slice B m d] w fun e w' => e = .returned (.bool true) ∧ Below w.heap.size w w' := by
  subst h
  have hm2 : m ≤ 10000 := by simp at h2; omega
  have hA := m_tag K c k B m d b w hk hrk hb (by omega) hrb
  have hR := fun W (h : Below w.heap.size w W) => r_tag K c k B m d b W hk ((hrk.below h).more h.size) hb (by omega) ((hrb.below h).more h.size)
  generalize wi (tagOf k b) = T at *
  have HA := Lib.hid hA
  have HR := Lib.hid hR
  have HK := Lib.hid hrk
  have HB := Lib.hid hrb
  have k1 := conv hrk c
  have k2 := conv hrb d
  clear hA hR
  clear hrk hrb
  go_enter Try.func10, Try.ntmps10
  go_wp2_with fail
  refine HA.out.mono ?_
  rintro e w1 ⟨rfl, b1⟩
  clear k1 k2
  go_wp2_with fail
  refine (HR.out w1 b1).mono ?_
  rintro e w2 ⟨rfl, b2⟩
  have B2 := below_to b1 b2 b1.size
  have k3 := conv (HK.out.below B2) c
  have k4 := conv (HB.out.below B2) d
  clear b1 b2
  go_wp2
  go_ret
  exact ⟨rfl, B2⟩
theorem macTells_walk (K : Option Addr) (n c : Nat) (k : List UInt8) (B : Option Addr) (m d : Nat) (b : List UInt8) (w : World)
    (hk : k.length = n) (hrk : Rd w w.heap.size 1 K n (bvs k)) (hb : b.length = m) (hrb : Rd w w.heap.size 1 B m (bvs b)) : Calls Try.prog 10 #[.slice K n c, .slice B m d] w fun e w' => e = .returned (.bool true) ∧ Below w.heap.size w w' := by
  by_cases h1 : 10000 < (n : Int)
  · exact mtells_kb K n c k B m d b w hk hrk hb hrb h1
  by_cases h2 : 10000 < (m : Int)
  · exact mtells_bb K n c k B m d b w hk hrk hb hrb (by simp; omega) h2
  by_cases h : n = 16
  · exact mtells_ok K n c k B m d b w hk hrk hb hrb (by simp; omega) (by simp; omega) h
  · exact mtells_bad K n c k B m d b w hk hrk hb hrb (by simp; omega) (by simp; omega) (by simp; omega)
end Go.Proofs.Ytfjjkkakhfgdhaa
