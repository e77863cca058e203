/-
  The walk of CipherTwice.
-/
import Derived.Test.YtfjjkkakhfgdhaaLaw05
namespace Go.Proofs.Ytfjjkkakhfgdhaa
open Go.RowKit
set_option linter.unusedVariables false
set_option linter.unusedSimpArgs false
set_option maxRecDepth 100000
attribute [local go_sem] str_toList toList_mk

theorem cipherTwice_kb (K : Option Addr) (m c : Nat) (iv : Nat) (B : Option Addr) (n d : Nat) (t : Nat) (w : World)
    (h0 : 10000 < (m : Int))
    : Calls Try.prog 15 #[.slice K m c, .int .u32 (iv : Int), .slice B n d, .int .u16 (t : Int)] w fun e w' => e = .returned (.bool true) ∧ Below w.heap.size w w' := by
  go_enter Try.func15, Try.ntmps15
  go_wp2_with fail
  refine (alive05 _).mono ?_
  rintro e w1 ⟨rfl, b1⟩
  go_wp2
  go_ret
  exact ⟨rfl, b1⟩
theorem cipherTwice_bb (K : Option Addr) (m c : Nat) (iv : Nat) (B : Option Addr) (n d : Nat) (t : Nat) (w : World)
    (h0 : decide (10000 < (m : Int)) = false)
    (h1 : 10000 < (n : Int))
    : Calls Try.prog 15 #[.slice K m c, .int .u32 (iv : Int), .slice B n d, .int .u16 (t : Int)] w fun e w' => e = .returned (.bool true) ∧ Below w.heap.size w w' := by
  go_enter Try.func15, Try.ntmps15
  go_wp2_with fail
  refine (alive05 _).mono ?_
  rintro e w1 ⟨rfl, b1⟩
  go_wp2
  go_ret
  exact ⟨rfl, b1⟩
theorem cipherTwice_k (K : Option Addr) (m c : Nat) (iv : Nat) (B : Option Addr) (n d : Nat) (t : Nat) (w : World)
    (h0 : decide (10000 < (m : Int)) = false)
    (h1 : decide (10000 < (n : Int)) = false)
    (h2 : ((m : Int) != 16) = true)
    : Calls Try.prog 15 #[.slice K m c, .int .u32 (iv : Int), .slice B n d, .int .u16 (t : Int)] w fun e w' => e = .returned (.bool true) ∧ Below w.heap.size w w' := by
  go_enter Try.func15, Try.ntmps15
  go_wp2_with fail
  refine (alive05 _).mono ?_
  rintro e w1 ⟨rfl, b1⟩
  go_wp2_with fail
  refine (c_turn_k K m c iv B n d w1 h2).mono ?_
  rintro e w2 ⟨rfl, rfl⟩
  go_wp2
  go_ret
  exact ⟨rfl, b1⟩
theorem cipherTwice_h (K : Option Addr) (m c : Nat) (iv : Nat) (B : Option Addr) (n d : Nat) (t : Nat) (w : World)
    (h1 : decide (10000 < (n : Int)) = false)
    (h2 : m = 16)
    (h3 : 4096 < (n : Int))
    : Calls Try.prog 15 #[.slice K m c, .int .u32 (iv : Int), .slice B n d, .int .u16 (t : Int)] w fun e w' => e = .returned (.bool true) ∧ Below w.heap.size w w' := by
  subst h2
  have HH3 := Lib.hid h3
  clear h3
  go_enter Try.func15, Try.ntmps15
  go_wp2_with fail
  refine (alive05 _).mono ?_
  rintro e w1 ⟨rfl, b1⟩
  go_wp2_with fail
  refine (c_turn_h K 16 c iv B n d w1 rfl HH3.out).mono ?_
  rintro e w2 ⟨rfl, rfl⟩
  go_wp2
  go_ret
  exact ⟨rfl, b1⟩

set_option maxHeartbeats 2000000 in
theorem cipherTwice_ok (K : Option Addr) (c : Nat) (k : List UInt8) (iv : Nat) (hiv : (iv : Int) < 4294967296) (B : Option Addr) (n d : Nat) (b : List UInt8) (t : Nat) (ht : t ≤ 65535) (w : World) (hk : k.length = 16) (hrk : Rd w w.heap.size 1 K 16 (bvs k))
    (hb : b.length = n) (hn : (n : Int) ≤ 4096) (hrb : Rd w w.heap.size 1 B n (bvs b)) :
    Calls Try.prog 15 #[.slice K 16 c, .int .u32 (iv : Int), .slice B n d, .int .u16 (t : Int)] w fun e w' => e = .returned (.bool true) ∧ Below w.heap.size w w' := by
  have h1 : decide (10000 < (n : Int)) = false := by simp; omega
  have hn9 : (n : Int) ≤ 1000000000 := by omega
  have hT1 := fun W (h : Below w.heap.size w W) => c_turn K c k iv hiv B n d b W hk ((hrk.below h).more h.size) hb hn ((hrb.below h).more h.size)
  have htl : (turnL k iv b).length = n := by rw [turnL_len, hb]
  have htw : turnL k iv (turnL k iv b) = b := by
    unfold turnL
    rw [xorL_len, streamL_len]
    exact xorL_twice _ _ (by rw [streamL_len])
  have hT2 := fun (D : Option Addr) (e : Nat) W (h : Below w.heap.size w W) hr => c_turn K c k iv hiv D n e (turnL k iv b) W hk ((hrk.below h).more h.size) htl hn hr
  rw [htw] at hT2
  have hS := fun W (h : Below w.heap.size w W) => c_stream K c k iv n hiv hn W hk ((hrk.below h).more h.size)
  have htz : turnL k iv (noughts n) = streamL k iv n := by
    unfold turnL
    rw [noughts_len]
    have h := xorL_noughts (streamL k iv n)
    rw [streamL_len] at h
    exact h
  have hT3 := fun (D : Option Addr) (e : Nat) W (h : Below w.heap.size w W) hr => c_turn K c k iv hiv D n e (noughts n) W hk ((hrk.below h).more h.size) (noughts_len n) hn hr
  rw [htz] at hT3
  have hf : t % (n + 1) ≤ n := Nat.le_of_lt_succ (Nat.mod_lt t (Nat.succ_pos n))
  have hmod : (t : Int).tmod ((n : Int) + 1) = ((t % (n + 1) : Nat) : Int) := by
    have e : (n : Int) + 1 = ((n + 1 : Nat) : Int) := by omega
    rw [e, Int.tmod_eq_emod_of_nonneg (by omega)]
    exact (Int.natCast_emod t (n + 1)).symm
  have hF := fun W (h : Below w.heap.size w W) => c_stream K c k iv (t % (n + 1)) hiv (by omega) W hk ((hrk.below h).more h.size)
  have hft := streamL_take k iv n _ hf
  have hmk := fun W => run_mkN .i64 .i64 n (by omega) W
  generalize t % (n + 1) = q at *
  have m0 : IntKind.i64.wrap (t : Int) = (t : Int) := IntWalk.i64_in _ (by omega)
  have hq0 : (0 : Int) ≤ (q : Int) := by omega
  have hqn : (q : Int) ≤ (n : Int) := by omega
  have HT1 := Lib.hid hT1
  have HT2 := Lib.hid hT2
  have HT3 := Lib.hid hT3
  have HSS := Lib.hid hS
  have HFF := Lib.hid hF
  have HFT := Lib.hid hft
  have HRK := Lib.hid hrk
  have HRB := Lib.hid hrb
  have HIV := Lib.hid hiv
  have HFN := Lib.hid hf
  have HBN := Lib.hid hn9
  clear hT1 hT2 hT3 hS hF hft hrk hrb hiv htl htw htz hf hn ht hk hb
  go_enter Try.func15, Try.ntmps15
  go_wp2_with fail
  refine (alive05 _).mono ?_
  rintro e w1 ⟨rfl, b1⟩
  go_wp2_with fail
  refine (HT1.out w1 b1).mono ?_
  rintro e w2 ⟨D2, d2, rfl, f2, b2⟩
  have B2 := below_to b1 b2 b1.size
  have r2 := f2.rd
  clear f2 b1 b2
  go_wp2_with fail
  refine (HT2.out D2 d2 w2 B2 r2).mono ?_
  rintro e w3 ⟨D3, d3, rfl, f3, b3⟩
  have B3 := below_to B2 b3 B2.size
  have r3 := f3.rd
  clear f3 b3 B2 r2
  go_wp2_with fail
  refine (HSS.out w3 B3).mono ?_
  rintro e w4 ⟨D4, d4, rfl, f4, b4⟩
  have B4 := below_to B3 b4 B3.size
  have r34 := (r3.below b4).more b4.size
  have r4 := f4.rd
  have hc4 := f4.nc
  have hq4 : (q : Int) ≤ (d4 : Int) := by omega
  clear f4 b4 B3 r3
  go_wp2_with fail
  have r5' := (fr_mkN w4 n (by have := HBN.out; omega) (Nat.le_refl w4.heap.size)).rd
  have b5' := below_new w4 (.cells (bvs (noughts n)).toArray 5)
  refine (HT3.out _ n _ (below_to B4 b5' B4.size) r5').mono ?_
  rintro e w5 ⟨D5, d5, rfl, f5, b5⟩
  have b45 : Below w4.heap.size w4 w5 := below_to b5' b5 b5'.size
  have B5 := below_to B4 b45 B4.size
  have r35 := (r34.below b45).more b45.size
  have r45 := (r4.below b45).more b45.size
  have r5 := f5.rd
  clear f5 b5 b45 B4 r34 r4 r5' b5'
  go_wp2_with fail
  refine (HFF.out w5 B5).mono ?_
  rintro e w6 ⟨D6, d6, rfl, f6, b6⟩
  have B6 := below_to B5 b6 B5.size
  have r36 := (r35.below b6).more b6.size
  have r46 := (r45.below b6).more b6.size
  have r56 := (r5.below b6).more b6.size
  have r6 := f6.rd
  have rB := HRB.out.below B6
  have r4q := r46.take (k := q) HFN.out
  rw [Nat.mul_one, ← bvs_take, HFT.out] at r4q
  have k1 := fun N => conv (r36.drewN N) d3
  have k2 := fun N => conv (rB.drewN N) d
  have k3 := fun N => conv (r56.drewN N) d5
  have k4 := fun N => conv (r46.drewN N) d4
  have k5 := fun N => conv (r6.drewN N) d6
  have k6 := fun N => conv (r4q.drewN N) d4
  clear f6 b6 B5 r35 r45 r5 r36 r46 r56 r6 rB r4q hmk
  go_wp2
  go_quiet (fail)
  go_wp2
  go_ret
  exact ⟨by simp, below_drewN B6 _⟩

theorem cipherTwice_walk (K : Option Addr) (m c : Nat) (k : List UInt8) (iv : Nat) (hiv : (iv : Int) < 4294967296) (B : Option Addr) (n d : Nat) (b : List UInt8) (t : Nat) (ht : t ≤ 65535) (w : World) (hk : k.length = m) (hrk : Rd w w.heap.size 1 K m (bvs k))
    (hb : b.length = n) (hrb : Rd w w.heap.size 1 B n (bvs b)) :
    Calls Try.prog 15 #[.slice K m c, .int .u32 (iv : Int), .slice B n d, .int .u16 (t : Int)] w fun e w' => e = .returned (.bool true) ∧ Below w.heap.size w w' := by
  by_cases h0 : 10000 < (m : Int)
  · exact cipherTwice_kb K m c iv B n d t w h0
  · by_cases h1 : 10000 < (n : Int)
    · exact cipherTwice_bb K m c iv B n d t w (by simp; omega) h1
    · by_cases h2 : m = 16
      · by_cases h3 : 4096 < (n : Int)
        · exact cipherTwice_h K m c iv B n d t w (by simp; omega) h2 h3
        · subst h2
          exact cipherTwice_ok K c k iv hiv B n d b t ht w hk hrk hb (by omega) hrb
      · exact cipherTwice_k K m c iv B n d t w (by simp; omega) (by simp; omega) (by simp; omega)
end Go.Proofs.Ytfjjkkakhfgdhaa
