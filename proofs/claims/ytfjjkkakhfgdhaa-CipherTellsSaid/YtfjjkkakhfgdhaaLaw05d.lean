/-
  What a stream and a turning answer, as functions; the walk of layer 5's statement CipherTells.
-/
import Derived.Test.YtfjjkkakhfgdhaaRef05
import Derived.Test.YtfjjkkakhfgdhaaLaw05
namespace Go.Proofs.Ytfjjkkakhfgdhaa
open Go.RowKit
set_option linter.unusedVariables false
set_option linter.unusedSimpArgs false
set_option maxRecDepth 100000
attribute [local go_sem] str_toList toList_mk

/-! ### what is answered: bytes, and an error's number -/
def outS (k : List UInt8) (iv : Nat) (n : Int) : List UInt8 × Int := if k.length = 16 ∧ 0 ≤ n ∧ n ≤ 4096 then (streamL k iv n.toNat, 0) else ([], 2)
def outU (k : List UInt8) (iv : Nat) (b : List UInt8) : List UInt8 × Int := if k.length = 16 then (if (b.length : Int) ≤ 4096 then (turnL k iv b, 0) else ([], 3)) else ([], 2)
def ToldC (w : World) (o : List UInt8 × Int) (e : Ending) (w' : World) : Prop :=
  ∃ A n c, e = .returned (.tuple #[.slice A n c, .int .i64 o.2]) ∧ o.1.length = n ∧ Fr w' w.heap.size 5 1 A n c (bvs o.1) ∧ Below w.heap.size w w'
theorem toldC_nil (w w' : World) (x : Int) (e : Ending) (h : e = .returned (.tuple #[.slice none 0 0, .int .i64 x]) ∧ Below w.heap.size w w') : ToldC w ([], x) e w' := ⟨none, 0, 0, h.1, rfl, Fr.none_, h.2⟩
theorem toldC_same (w w' : World) (x : Int) (e : Ending) (h : e = .returned (.tuple #[.slice none 0 0, .int .i64 x]) ∧ w = w') : ToldC w ([], x) e w' := ⟨none, 0, 0, h.1, rfl, Fr.none_, h.2 ▸ Below.refl _ _⟩
theorem t_c_stream (A : Option Addr) (m c : Nat) (k : List UInt8) (iv : Nat) (hiv : (iv : Int) < 4294967296) (n : Int) (w : World) (hk : k.length = m) (hr : Rd w w.heap.size 1 A m (bvs k)) :
    Calls Try.prog 35 #[.slice A m c, .int .u32 (iv : Int), .int .i64 n] w (ToldC w (outS k iv n)) := by
  unfold outS
  by_cases hm : m = 16
  · by_cases h0 : n < 0
    · rw [if_neg (by omega)]
      exact (c_stream_l A m c iv n w hm h0).mono fun e w' h => toldC_nil w w' 2 e h
    · by_cases h1 : 4096 < n
      · rw [if_neg (by omega)]
        exact (c_stream_h A m c iv n w hm (by simp; omega) h1).mono fun e w' h => toldC_nil w w' 2 e h
      · rw [if_pos (by omega)]
        subst hm
        obtain ⟨q, rfl⟩ := Int.eq_ofNat_of_zero_le (show 0 ≤ n by omega)
        rw [Int.toNat_natCast]
        refine (c_stream A c k iv q hiv (by omega) w hk hr).mono ?_
        rintro e w' ⟨D, d, rfl, f, b⟩
        exact ⟨D, q, d, rfl, streamL_len _ _ _, f, b⟩
  · rw [if_neg (by omega)]
    exact (c_stream_k A m c iv n w (by simp; omega)).mono fun e w' h => toldC_nil w w' 2 e h
theorem t_r_stream (A : Option Addr) (m c : Nat) (k : List UInt8) (iv : Nat) (hiv : (iv : Int) < 4294967296) (n : Int) (w : World) (hk : k.length = m) (hr : Rd w w.heap.size 1 A m (bvs k)) :
    Calls Try.prog 38 #[.slice A m c, .int .u32 (iv : Int), .int .i64 n] w (ToldC w (outS k iv n)) := by
  unfold outS
  by_cases hm : m = 16
  · by_cases h0 : n < 0
    · rw [if_neg (by omega)]
      exact (r_refStream_l A m c iv n w hm h0).mono fun e w' h => toldC_same w w' 2 e h
    · by_cases h1 : 4096 < n
      · rw [if_neg (by omega)]
        exact (r_refStream_h A m c iv n w hm (by simp; omega) h1).mono fun e w' h => toldC_same w w' 2 e h
      · rw [if_pos (by omega)]
        subst hm
        obtain ⟨q, rfl⟩ := Int.eq_ofNat_of_zero_le (show 0 ≤ n by omega)
        rw [Int.toNat_natCast]
        refine (r_refStream A c k iv q hiv (by omega) w hk hr).mono ?_
        rintro e w' ⟨D, d, rfl, f, b⟩
        exact ⟨D, q, d, rfl, streamL_len _ _ _, f, b⟩
  · rw [if_neg (by omega)]
    exact (r_refStream_k A m c iv n w (by simp; omega)).mono fun e w' h => toldC_same w w' 2 e h
theorem t_c_turn (A : Option Addr) (m c : Nat) (k : List UInt8) (iv : Nat) (hiv : (iv : Int) < 4294967296) (B : Option Addr) (n d : Nat) (b : List UInt8) (w : World) (hk : k.length = m) (hr : Rd w w.heap.size 1 A m (bvs k)) (hb : b.length = n) (hrb : Rd w w.heap.size 1 B n (bvs b)) :
    Calls Try.prog 36 #[.slice A m c, .int .u32 (iv : Int), .slice B n d] w (ToldC w (outU k iv b)) := by
  unfold outU
  by_cases hm : m = 16
  · rw [if_pos (by omega)]
    by_cases h1 : 4096 < (n : Int)
    · rw [if_neg (by omega)]
      exact (c_turn_h A m c iv B n d w hm h1).mono fun e w' h => toldC_same w w' 3 e h
    · rw [if_pos (by omega)]
      subst hm
      refine (c_turn A c k iv hiv B n d b w hk hr hb (by omega) hrb).mono ?_
      rintro e w' ⟨D, d, rfl, f, bl⟩
      exact ⟨D, n, d, rfl, by rw [turnL_len, hb], f, bl⟩
  · rw [if_neg (by omega)]
    exact (c_turn_k A m c iv B n d w (by simp; omega)).mono fun e w' h => toldC_same w w' 2 e h
theorem t_r_turn (A : Option Addr) (m c : Nat) (k : List UInt8) (iv : Nat) (hiv : (iv : Int) < 4294967296) (B : Option Addr) (n d : Nat) (b : List UInt8) (w : World) (hk : k.length = m) (hr : Rd w w.heap.size 1 A m (bvs k)) (hb : b.length = n) (hrb : Rd w w.heap.size 1 B n (bvs b)) :
    Calls Try.prog 39 #[.slice A m c, .int .u32 (iv : Int), .slice B n d] w (ToldC w (outU k iv b)) := by
  unfold outU
  by_cases hm : m = 16
  · rw [if_pos (by omega)]
    by_cases h1 : 4096 < (n : Int)
    · rw [if_neg (by omega)]
      exact (r_refTurn_h A m c iv B n d w hm h1).mono fun e w' h => toldC_same w w' 3 e h
    · rw [if_pos (by omega)]
      subst hm
      refine (r_refTurn A c k iv hiv B n d b w hk hr hb (by omega) hrb).mono ?_
      rintro e w' ⟨D, d, rfl, f, bl⟩
      exact ⟨D, n, d, rfl, by rw [turnL_len, hb], f, bl⟩
  · rw [if_neg (by omega)]
    exact (r_refTurn_k A m c iv B n d w (by simp; omega)).mono fun e w' h => toldC_same w w' 2 e h

/-! ### bytes that are counted up at the end -/
def IncRel (base n c : Nat) (A : Option Addr) (w0 : World) (i : Value) (wr : World) : Prop :=
  ∃ (k : Nat) (l : List UInt8), k ≤ n ∧ i = .int .i64 (k : Int) ∧ l.length = n ∧ Fr wr base 5 1 A n c (bvs l) ∧ Below base w0 wr
theorem bvs_set (l : List UInt8) (k : Nat) (x : UInt8) : (bvs l).set k (bv x) = bvs (l.set k x) := by simp [bvs, List.map_set]
theorem wrap8_one (x : UInt8) : IntKind.u8.wrap ((x.toNat : Int) + 1) = ((x + 1).toNat : Int) := by
  rw [IntKind.wrap_u8, UInt8.toNat_add]
  have : (1 : UInt8).toNat = 1 := rfl
  omega
theorem cipt_kb (K : Option Addr) (m c : Nat) (iv : Nat) (s : Int) (B : Option Addr) (n d : Nat) (w : World)
    (h : 10000 < (m : Int)) : Calls Try.prog 14 #[.slice K m c, .int .u32 (iv : Int), .int .i64 s, .slice B n d] w fun e w' => e = .returned (.bool true) ∧ Below w.heap.size w w' := by
  go_enter Try.func14, Try.ntmps14
  go_wp2
  go_ret
  exact ⟨rfl, Below.refl _ _⟩
theorem cipt_bb (K : Option Addr) (m c : Nat) (iv : Nat) (s : Int) (B : Option Addr) (n d : Nat) (w : World)
    (h1 : decide (10000 < (m : Int)) = false)
    (h : 10000 < (n : Int)) : Calls Try.prog 14 #[.slice K m c, .int .u32 (iv : Int), .int .i64 s, .slice B n d] w fun e w' => e = .returned (.bool true) ∧ Below w.heap.size w w' := by
  go_enter Try.func14, Try.ntmps14
  go_wp2
  go_ret
  exact ⟨rfl, Below.refl _ _⟩
set_option maxHeartbeats 4000000 in
theorem cipt_ok (K : Option Addr) (m c : Nat) (k : List UInt8) (iv : Nat) (hiv : (iv : Int) < 4294967296) (s : Int) (B : Option Addr) (n d : Nat) (b : List UInt8) (w : World)
    (h1 : decide (10000 < (m : Int)) = false) (h2 : decide (10000 < (n : Int)) = false)
    (hk : k.length = m) (hrk : Rd w w.heap.size 1 K m (bvs k)) (hb : b.length = n) (hrb : Rd w w.heap.size 1 B n (bvs b)) :
    Calls Try.prog 14 #[.slice K m c, .int .u32 (iv : Int), .int .i64 s, .slice B n d] w fun e w' => e = .returned (.bool true) ∧ Below w.heap.size w w' := by
  have c1 := fun W (h : Below w.heap.size w W) => t_c_stream K m c k iv hiv s W hk ((hrk.below h).more h.size)
  have c2 := fun W (h : Below w.heap.size w W) => t_r_stream K m c k iv hiv s W hk ((hrk.below h).more h.size)
  have c3 := fun W (h : Below w.heap.size w W) => t_c_turn K m c k iv hiv B n d b W hk ((hrk.below h).more h.size) hb ((hrb.below h).more h.size)
  have c4 := fun W (h : Below w.heap.size w W) => t_r_turn K m c k iv hiv B n d b W hk ((hrk.below h).more h.size) hb ((hrb.below h).more h.size)
  obtain ⟨o1, ho1⟩ : ∃ o, o = outS k iv s := ⟨_, rfl⟩
  obtain ⟨o2, ho2⟩ : ∃ o, o = outU k iv b := ⟨_, rfl⟩
  simp only [← ho1] at c1 c2
  simp only [← ho2] at c3 c4
  obtain ⟨l1, e1⟩ := o1
  obtain ⟨l2, e2⟩ := o2
  have k1 := conv hrb d
  have C1 := Lib.hid c1
  have C2 := Lib.hid c2
  have C3 := Lib.hid c3
  have C4 := Lib.hid c4
  have HR := Lib.hid hrb
  clear c1 c2 c3 c4 hrk hrb ho1 ho2 hiv hk hb
  go_enter Try.func14, Try.ntmps14
  go_wp2_with fail
  clear k1
  refine (C1.out w (Below.refl _ _)).mono ?_
  rintro e w1 ⟨D1, n1, d1, rfl, hn1, r1, b1⟩
  have R1 := Lib.hid r1
  have B1 := Lib.hid b1
  have N1 := Lib.hid hn1
  clear r1 b1 hn1
  go_wp2_with fail
  refine (C2.out w1 B1.out).mono ?_
  rintro e w2 ⟨D2, n2, d2, rfl, hn2, r2, b2⟩
  have R1 := Lib.hid (R1.out.below b2 (Nat.le_refl _))
  have R2 := Lib.hid (r2.mono (base' := w.heap.size) B1.out.size)
  have B2 := Lib.hid (below_to B1.out b2 B1.out.size)
  have N2 := Lib.hid hn2
  clear r2 b2 hn2
  go_wp2_with fail
  refine (C3.out w2 B2.out).mono ?_
  rintro e w3 ⟨D3, n3, d3, rfl, hn3, r3, b3⟩
  have R1 := Lib.hid (R1.out.below b3 (Nat.le_refl _))
  have R2 := Lib.hid (R2.out.below b3 (Nat.le_refl _))
  have R3 := Lib.hid (r3.mono (base' := w.heap.size) B2.out.size)
  have B3 := Lib.hid (below_to B2.out b3 B2.out.size)
  have N3 := Lib.hid hn3
  clear r3 b3 hn3
  go_wp2_with fail
  refine (C4.out w3 B3.out).mono ?_
  rintro e w4 ⟨D4, n4, d4, rfl, hn4, r4, b4⟩
  have R1 := Lib.hid (R1.out.below b4 (Nat.le_refl _))
  have R2 := Lib.hid (R2.out.below b4 (Nat.le_refl _))
  have R3 := Lib.hid (R3.out.below b4 (Nat.le_refl _))
  have R4 := Lib.hid (r4.mono (base' := w.heap.size) B3.out.size)
  have B4 := Lib.hid (below_to B3.out b4 B3.out.size)
  clear r4 b4 hn4
  have q1 := conv R1.out.rd d1
  have q2 := conv R2.out.rd d2
  have q3 := conv R3.out.rd d3
  have q4 := conv R4.out.rd d4
  go_wp2
  clear q1 q2 q3 q4
  go_loopw [19] (fun i wr => IncRel w.heap.size n3 d3 D3 w i wr) (fun i _ => n3 - (intOf i).toNat)
  case atStart => exact ⟨0, _, by omega, rfl, N3.out, R3.out, B4.out⟩
  case round =>
    have hn3 : n3 ≤ d3 := R3.out.nc
    have hd3 : d3 ≤ maxLen := R3.out.cm
    unfold maxLen at hd3
    obtain ⟨k, l, hk, rfl, hll, hf, hb⟩ := hrel
    by_cases hlt : k < n3
    · obtain ⟨g, rfl, hg1, hg2⟩ := hf.form (by omega)
      obtain ⟨u, hu, hcell⟩ := hf.cell hlt
      have hfz := hf.frozen hlt
      obtain ⟨x, hu2⟩ : ∃ x, u = bv x := by
        rw [bvs_get, List.getElem?_eq_getElem (by omega)] at hu
        exact ⟨l[k], by simpa using hu.symm⟩
      subst hu2
      have hF := hf.set (by omega) k (bv (x + 1))
      rw [bvs_set] at hF
      have hB := hb.setCell (p := ⟨g, k, none⟩) hg1 (bv (x + 1))
      have hw1 := wrap8_one x
      have HF := Lib.hid hF
      have HB := Lib.hid hB
      have HL := Lib.hid hll
      unfold bv at hcell
      clear hu hf hb hF hB hll
      go_wp2
      go_roundw
      case rel => exact ⟨k + 1, l.set k (x + 1), by omega, by simp, by rw [List.length_set]; exact HL.out, HF.out, HB.out⟩
      case measure => simp [intOf]; omega
    · obtain rfl : k = n3 := by omega
      have q7 := conv (HR.out.below hb) d
      have HB := Lib.hid hb
      clear hf hb hll
      go_wp2
      go_ret
      exact ⟨rfl, HB.out⟩
theorem cipherTells_walk (K : Option Addr) (m c : Nat) (k : List UInt8) (iv : Nat) (hiv : (iv : Int) < 4294967296) (s : Int) (B : Option Addr) (n d : Nat) (b : List UInt8) (w : World)
    (hk : k.length = m) (hrk : Rd w w.heap.size 1 K m (bvs k)) (hb : b.length = n) (hrb : Rd w w.heap.size 1 B n (bvs b)) :
    Calls Try.prog 14 #[.slice K m c, .int .u32 (iv : Int), .int .i64 s, .slice B n d] w fun e w' => e = .returned (.bool true) ∧ Below w.heap.size w w' := by
  by_cases h1 : 10000 < (m : Int)
  · exact cipt_kb K m c iv s B n d w h1
  by_cases h2 : 10000 < (n : Int)
  · exact cipt_bb K m c iv s B n d w (by simp; omega) h2
  exact cipt_ok K m c k iv hiv s B n d b w (by simp; omega) (by simp; omega) hk hrk hb hrb
end Go.Proofs.Ytfjjkkakhfgdhaa
