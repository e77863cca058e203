/-
  The walks of layer 4's statements: WrapGreat, WrapBack, WrapApart.
-/
import Derived.Test.YtoggpnncmgcgoaaLaw04
namespace Go.Proofs.Ytoggpnncmgcgoaa
open Go.RowKit
set_option linter.unusedVariables false
set_option linter.unusedSimpArgs false
set_option maxRecDepth 100000
attribute [local go_sem] str_toList toList_mk

theorem wg_big (s : ByteArray) (salt : Nat) (w : World) (h : (s.size : Int) > 10000) : Calls Try.prog 17 #[.string s, .int .u32 (salt : Int)] w fun e w' => e = .returned (.bool true) ∧ Below w.heap.size w w' := by
  have h1 : (10000 : Int) < (s.size : Int) := h
  clear h
  go_enter Try.func17, Try.ntmps17
  go_wp2_with fail
  refine (alive04 _).mono ?_
  rintro e w1 ⟨rfl, b1⟩
  go_wp2
  go_ret
  exact ⟨rfl, b1⟩
theorem wg_long (s : ByteArray) (salt : Nat) (w : World) (h : (s.size : Int) > 64) (h2 : decide ((10000 : Int) < (s.size : Int)) = false) : Calls Try.prog 17 #[.string s, .int .u32 (salt : Int)] w fun e w' => e = .returned (.bool true) ∧ Below w.heap.size w w' := by
  have h1 : (64 : Int) < (s.size : Int) := h
  have hmk16 := run_mk16
  clear h
  have H1 := Lib.hid h1
  go_enter Try.func17, Try.ntmps17
  go_wp2_with fail
  refine (alive04 _).mono ?_
  rintro e w1 ⟨rfl, b1⟩
  go_wp2_with fail
  refine (w_stretch_long s salt w1 H1.out).mono ?_
  rintro e w2 ⟨rfl, rfl⟩
  have b2 := below_alloc b1 (.cells (bvs (noughts 16)).toArray 5) (Nat.le_refl _)
  go_wp2_with fail
  refine (w_wrap_long s _ 16 16 salt _ H1.out).mono ?_
  rintro e w3 ⟨rfl, hw3⟩
  rw [hw3] at b2
  clear hw3
  go_wp2_with fail
  refine (w_unwrap_long s _ _ _ _ H1.out).mono ?_
  rintro e w4 ⟨rfl, rfl⟩
  go_wp2
  go_ret
  exact ⟨rfl, b2⟩
theorem wg_ok (s : ByteArray) (salt : Nat) (w : World) (hs : (salt : Int) < 4294967296) (h : s.size ≤ 64) : Calls Try.prog 17 #[.string s, .int .u32 (salt : Int)] w fun e w' => e = .returned (.bool true) ∧ Below w.heap.size w w' := by
  have h1 : decide ((64 : Int) < (s.size : Int)) = false := by simp; omega
  have h2 : decide ((10000 : Int) < (s.size : Int)) = false := by simp; omega
  have hmk16 := run_mk16
  have hST := fun W => w_stretch s salt W hs h
  have hW := fun A W hr => w_wrap s A 16 (noughts 16) salt W hs h (noughts_len 16) (by decide) hr
  have hU := fun D d W hd hr => w_unwrap_wrapped s D d (noughts 16) salt W h hs (noughts_len 16) hd hr
  have HST := Lib.hid hST
  have HW := Lib.hid hW
  have HU := Lib.hid hU
  clear hs h hST hW hU
  generalize wrapL s.data.toList (noughts 16) salt = WL at *
  generalize stretchL s.data.toList salt = SL at *
  go_enter Try.func17, Try.ntmps17
  go_wp2_with fail
  refine (alive04 _).mono ?_
  rintro e w1 ⟨rfl, b1⟩
  go_wp2_with fail
  refine (HST.out w1).mono ?_
  rintro e w2 ⟨A2, c2, rfl, f2, b2⟩
  have B2 := below_alloc (below_to b1 b2 b1.size) (.cells (bvs (noughts 16)).toArray 5) (Nat.le_refl _)
  have r2 := (fr_mkN w2 16 (by omega) (Nat.le_refl w2.heap.size)).rd
  have HR2 := Lib.hid r2
  have HB2 := Lib.hid B2
  clear f2 b1 b2 r2 B2
  generalize hn16 : bvs (noughts 16) = N16 at *
  go_wp2_with fail
  refine (HW.out _ _ HR2.out).mono ?_
  rintro e w3 ⟨D, d, rfl, f3, b3⟩
  have B3 := below_to HB2.out b3 HB2.out.size
  go_wp2_with fail
  refine (HU.out D d w3 f3.nc f3.rd).mono ?_
  rintro e w4 ⟨D4, d4, rfl, f4, b4⟩
  have B4 := below_to B3 b4 B3.size
  clear f3 f4 b3 b4
  go_wp2
  go_ret
  exact ⟨rfl, B4⟩
theorem wrapGreat_walk (s : ByteArray) (salt : Nat) (hs : (salt : Int) < 4294967296) (w : World) : Calls Try.prog 17 #[.string s, .int .u32 (salt : Int)] w fun e w' => e = .returned (.bool true) ∧ Below w.heap.size w w' := by
  by_cases h : s.size ≤ 64
  · exact wg_ok s salt w hs h
  · by_cases h2 : (s.size : Int) > 10000
    · exact wg_big s salt w h2
    · exact wg_long s salt w (by omega) (by simp; omega)

/-! ### WrapBack -/
theorem or_up {a b k : Nat} (h : a < 2 ^ k) : a ||| (b * 2 ^ k) = a + b * 2 ^ k := by
  rw [Nat.mul_comm b, Nat.or_comm, ← Nat.two_pow_add_eq_or_of_lt h, Nat.add_comm]
theorem or_step (a b k : Nat) (h : a < 2 ^ k) (h2 : a + b * 2 ^ k < 4294967296) : bits .or .u32 (a : Int) ((b * 2 ^ k : Nat) : Int) = ((a + b * 2 ^ k : Nat) : Int) := by
  rw [u32_or_nat _ _ (by omega) (by omega), or_up h]
theorem old4 (x0 x1 x2 x3 : UInt8) : bits .or .u32 (bits .or .u32 (bits .or .u32 ((x0.toNat : Int) % 4294967296) ((x1.toNat : Int) % 4294967296 * 256 % 4294967296)) ((x2.toNat : Int) % 4294967296 * 65536 % 4294967296)) ((x3.toNat : Int) % 4294967296 * 16777216 % 4294967296) = ((num [x0, x1, x2, x3] : Nat) : Int) := by
  have h0 := x0.toNat_lt
  have h1 := x1.toNat_lt
  have h2 := x2.toNat_lt
  have h3 := x3.toNat_lt
  have e0 : (x0.toNat : Int) % 4294967296 = (x0.toNat : Int) := by omega
  have e1 : (x1.toNat : Int) % 4294967296 * 256 % 4294967296 = ((x1.toNat * 2 ^ 8 : Nat) : Int) := by omega
  have e2 : (x2.toNat : Int) % 4294967296 * 65536 % 4294967296 = ((x2.toNat * 2 ^ 16 : Nat) : Int) := by omega
  have e3 : (x3.toNat : Int) % 4294967296 * 16777216 % 4294967296 = ((x3.toNat * 2 ^ 24 : Nat) : Int) := by omega
  rw [e0, e1, e2, e3, or_step _ _ 8 (by omega) (by omega), or_step _ _ 16 (by omega) (by omega), or_step _ _ 24 (by omega) (by omega)]
  simp only [num]
  omega
theorem four_take {l : List UInt8} (hl : l.length = 24) : l.take 4 = [l[0], l[1], l[2], l[3]] := by
  match l, hl with
  | a :: b :: c :: d :: _, _ => rfl
theorem wback_pb (s : ByteArray) (A : Option Addr) (n c : Nat) (salt : Nat) (B : Option Addr) (m d : Nat) (w : World)
    (h : 10000 < (s.size : Int)) : Calls Try.prog 15 #[.string s, .slice A n c, .int .u32 (salt : Int), .slice B m d] w fun e w' => e = .returned (.bool true) ∧ Below w.heap.size w w' := by
  go_enter Try.func15, Try.ntmps15
  go_wp2_with fail
  refine (alive04 _).mono ?_
  rintro e w1 ⟨rfl, b1⟩
  go_wp2
  go_ret
  exact ⟨rfl, b1⟩
theorem wback_kb (s : ByteArray) (A : Option Addr) (n c : Nat) (salt : Nat) (B : Option Addr) (m d : Nat) (w : World)
    (h1 : decide (10000 < (s.size : Int)) = false)
    (h : 10000 < (n : Int)) : Calls Try.prog 15 #[.string s, .slice A n c, .int .u32 (salt : Int), .slice B m d] w fun e w' => e = .returned (.bool true) ∧ Below w.heap.size w w' := by
  go_enter Try.func15, Try.ntmps15
  go_wp2_with fail
  refine (alive04 _).mono ?_
  rintro e w1 ⟨rfl, b1⟩
  go_wp2
  go_ret
  exact ⟨rfl, b1⟩
theorem wback_wb (s : ByteArray) (A : Option Addr) (n c : Nat) (salt : Nat) (B : Option Addr) (m d : Nat) (w : World)
    (h1 : decide (10000 < (s.size : Int)) = false)
    (h2 : decide (10000 < (n : Int)) = false)
    (h : 10000 < (m : Int)) : Calls Try.prog 15 #[.string s, .slice A n c, .int .u32 (salt : Int), .slice B m d] w fun e w' => e = .returned (.bool true) ∧ Below w.heap.size w w' := by
  go_enter Try.func15, Try.ntmps15
  go_wp2_with fail
  refine (alive04 _).mono ?_
  rintro e w1 ⟨rfl, b1⟩
  go_wp2
  go_ret
  exact ⟨rfl, b1⟩
theorem wback_long (s : ByteArray) (A : Option Addr) (n c : Nat) (salt : Nat) (B : Option Addr) (m d : Nat) (w : World)
    (h1 : decide (10000 < (s.size : Int)) = false) (h2 : decide (10000 < (n : Int)) = false) (h3 : decide (10000 < (m : Int)) = false) (h : (s.size : Int) > 64) : Calls Try.prog 15 #[.string s, .slice A n c, .int .u32 (salt : Int), .slice B m d] w fun e w' => e = .returned (.bool true) ∧ Below w.heap.size w w' := by
  have H := Lib.hid h
  clear h
  go_enter Try.func15, Try.ntmps15
  go_wp2_with fail
  refine (alive04 _).mono ?_
  rintro e w1 ⟨rfl, b1⟩
  go_wp2_with fail
  refine (w_wrap_long s A n c salt w1 H.out).mono ?_
  rintro e w2 ⟨rfl, rfl⟩
  go_wp2_with fail
  refine (w_unwrap_long s B m d w1 H.out).mono ?_
  rintro e w3 ⟨rfl, rfl⟩
  go_wp2
  go_ret
  exact ⟨rfl, b1⟩
set_option maxHeartbeats 4000000 in
theorem wback_arg_bad (s : ByteArray) (A : Option Addr) (n c : Nat) (k : List UInt8) (salt : Nat) (B : Option Addr) (m d : Nat) (l : List UInt8) (w : World) (hsz : s.size ≤ 64) (hs : (salt : Int) < 4294967296) (hk : k.length = n) (hl : l.length = m)
    (hrk : Rd w w.heap.size 1 A n (bvs k)) (hrl : Rd w w.heap.size 1 B m (bvs l)) (h2 : decide (10000 < (n : Int)) = false) (h3 : decide (10000 < (m : Int)) = false)
    (hn : ((n : Int) != 16) = true)
    (hm : ((m : Int) != 24) = true)
    : Calls Try.prog 15 #[.string s, .slice A n c, .int .u32 (salt : Int), .slice B m d] w fun e w' => e = .returned (.bool true) ∧ Below w.heap.size w w' := by
  have h1 : decide (10000 < (s.size : Int)) = false := by simp; omega
  have hX := fun W => w_wrap_arg s A n c salt W hs hsz hn
  have HX := Lib.hid hX
  have hY := fun W => w_unwrap_bad s B m d W hsz hm
  have HY := Lib.hid hY
  have HRK := Lib.hid hrk
  have HRL := Lib.hid hrl
  clear hX hY hrk hrl hsz hs
  go_enter Try.func15, Try.ntmps15
  go_wp2_with fail
  refine (alive04 _).mono ?_
  rintro e w1 ⟨rfl, b1⟩
  go_wp2_with fail
  refine (HX.out w1).mono ?_
  rintro e w3 ⟨rfl, b2⟩
  have B3 := below_to b1 b2 b1.size
  clear b1 b2
  go_wp2_with fail
  refine (HY.out w3).mono ?_
  rintro e w4 ⟨rfl, rfl⟩
  go_wp2
  go_ret
  exact ⟨rfl, B3⟩
set_option maxHeartbeats 4000000 in
theorem wback_arg_no (s : ByteArray) (A : Option Addr) (n c : Nat) (k : List UInt8) (salt : Nat) (B : Option Addr) (m d : Nat) (l : List UInt8) (w : World) (hsz : s.size ≤ 64) (hs : (salt : Int) < 4294967296) (hk : k.length = n) (hl : l.length = m)
    (hrk : Rd w w.heap.size 1 A n (bvs k)) (hrl : Rd w w.heap.size 1 B m (bvs l)) (h2 : decide (10000 < (n : Int)) = false) (h3 : decide (10000 < (m : Int)) = false)
    (hn : ((n : Int) != 16) = true)
    (hm : m = 24) (hd : m ≤ d)
    (hE : sealL (stretchL s.data.toList (num (l.take 4))) (l.take 20) ≠ l)
    : Calls Try.prog 15 #[.string s, .slice A n c, .int .u32 (salt : Int), .slice B m d] w fun e w' => e = .returned (.bool true) ∧ Below w.heap.size w w' := by
  have h1 : decide (10000 < (s.size : Int)) = false := by simp; omega
  subst hm
  have hX := fun W => w_wrap_arg s A n c salt W hs hsz hn
  have HX := Lib.hid hX
  have hY := fun W hr => w_unwrap_no s B d l W hsz hl hd hr hE
  have HY := Lib.hid hY
  have HRK := Lib.hid hrk
  have HRL := Lib.hid hrl
  clear hX hY hrk hrl hsz hs
  clear hE
  go_enter Try.func15, Try.ntmps15
  go_wp2_with fail
  refine (alive04 _).mono ?_
  rintro e w1 ⟨rfl, b1⟩
  go_wp2_with fail
  refine (HX.out w1).mono ?_
  rintro e w3 ⟨rfl, b2⟩
  have B3 := below_to b1 b2 b1.size
  clear b1 b2
  go_wp2_with fail
  have rl3 := (HRL.out.below B3).more B3.size
  refine (HY.out w3 rl3).mono ?_
  rintro e w4 ⟨rfl, b4⟩
  have B3 := below_to B3 b4 B3.size
  go_wp2
  go_ret
  exact ⟨rfl, B3⟩
set_option maxHeartbeats 4000000 in
theorem wback_arg_ok (s : ByteArray) (A : Option Addr) (n c : Nat) (k : List UInt8) (salt : Nat) (B : Option Addr) (m d : Nat) (l : List UInt8) (w : World) (hsz : s.size ≤ 64) (hs : (salt : Int) < 4294967296) (hk : k.length = n) (hl : l.length = m)
    (hrk : Rd w w.heap.size 1 A n (bvs k)) (hrl : Rd w w.heap.size 1 B m (bvs l)) (h2 : decide (10000 < (n : Int)) = false) (h3 : decide (10000 < (m : Int)) = false)
    (hn : ((n : Int) != 16) = true)
    (hm : m = 24) (hd : m ≤ d)
    (hE : sealL (stretchL s.data.toList (num (l.take 4))) (l.take 20) = l)
    : Calls Try.prog 15 #[.string s, .slice A n c, .int .u32 (salt : Int), .slice B m d] w fun e w' => e = .returned (.bool true) ∧ Below w.heap.size w w' := by
  have h1 : decide (10000 < (s.size : Int)) = false := by simp; omega
  subst hm
  have hX := fun W => w_wrap_arg s A n c salt W hs hsz hn
  have HX := Lib.hid hX
  have hY := fun W hr => w_unwrap_ok s B d l W hsz hl hd hr hE
  have hlt : num (l.take 4) < 4294967296 := by have := num_lt (l.take 4); rw [List.length_take, hl] at this; exact this
  have hkl : (xorL ((l.drop 4).take 16) (maskL (stretchL s.data.toList (num (l.take 4))))).length = 16 := by rw [xorL_len, List.length_take, List.length_drop, hl]; rfl
  have hZ := fun D d W hd hr => w_wrap s D d (xorL ((l.drop 4).take 16) (maskL (stretchL s.data.toList (num (l.take 4))))) (num (l.take 4)) W (by omega) hsz hkl hd hr
  rw [wrapL_of _ _ hl hE] at hZ
  have HZ := Lib.hid hZ
  have hold := old4 (l[0]'(by omega)) (l[1]'(by omega)) (l[2]'(by omega)) (l[3]'(by omega))
  rw [← four_take hl] at hold
  have h0l : ∀ j : Nat, j < 4 → j < l.length := fun j hj => by omega
  clear hZ hkl hE hlt
  have HY := Lib.hid hY
  have HRK := Lib.hid hrk
  have HRL := Lib.hid hrl
  clear hX hY hrk hrl hsz hs
  generalize xorL ((l.drop 4).take 16) (maskL (stretchL s.data.toList (num (l.take 4)))) = key at *
  generalize num (l.take 4) = old at *
  go_enter Try.func15, Try.ntmps15
  go_wp2_with fail
  refine (alive04 _).mono ?_
  rintro e w1 ⟨rfl, b1⟩
  go_wp2_with fail
  refine (HX.out w1).mono ?_
  rintro e w3 ⟨rfl, b2⟩
  have B3 := below_to b1 b2 b1.size
  clear b1 b2
  go_wp2_with fail
  have rl3 := (HRL.out.below B3).more B3.size
  refine (HY.out w3 rl3).mono ?_
  rintro e w4 ⟨D4, d4, rfl, f4, b4⟩
  have B4 := below_to B3 b4 B3.size
  have hd4 := f4.nc
  have r4 := f4.rd
  have rl4 := HRL.out.below B4
  obtain ⟨g, o, rfl, hg, -⟩ := HRL.out.2 (by omega)
  obtain ⟨_, _, ea, hbb0, c0⟩ := rl4.byte (k := 0) hl (by omega)
  cases ea
  obtain ⟨_, _, ea, hbb1, c1⟩ := rl4.byte (k := 1) hl (by omega)
  cases ea
  obtain ⟨_, _, ea, hbb2, c2⟩ := rl4.byte (k := 2) hl (by omega)
  cases ea
  obtain ⟨_, _, ea, hbb3, c3⟩ := rl4.byte (k := 3) hl (by omega)
  cases ea
  rw [Nat.add_zero] at c0
  clear f4 b4 rl4 rl3 hbb0 hbb1 hbb2 hbb3
  generalize (l[0]'(h0l 0 (by omega))) = x0 at *
  generalize (l[1]'(h0l 1 (by omega))) = x1 at *
  generalize (l[2]'(h0l 2 (by omega))) = x2 at *
  generalize (l[3]'(h0l 3 (by omega))) = x3 at *
  go_wp2_with fail
  go_quiet (fail)
  clear c0 c1 c2 c3
  go_wp2_with fail
  have b4q : Below w.heap.size w (w4.drewN nq) := ⟨B4.os, B4.tape, B4.output, B4.size, B4.block⟩
  refine (HZ.out D4 d4 (w4.drewN nq) hd4 (r4.drewN nq)).mono ?_
  rintro e w5 ⟨D5, d5, rfl, f5, b5⟩
  have B5 := below_to b4q b5 b4q.size
  have k1 := conv f5.rd d5
  have k2 := conv (HRL.out.below B5) d
  clear f5 b5 r4
  go_wp2
  go_ret
  exact ⟨rfl, B5⟩
set_option maxHeartbeats 4000000 in
theorem wback_key_bad (s : ByteArray) (A : Option Addr) (n c : Nat) (k : List UInt8) (salt : Nat) (B : Option Addr) (m d : Nat) (l : List UInt8) (w : World) (hsz : s.size ≤ 64) (hs : (salt : Int) < 4294967296) (hk : k.length = n) (hl : l.length = m)
    (hrk : Rd w w.heap.size 1 A n (bvs k)) (hrl : Rd w w.heap.size 1 B m (bvs l)) (h2 : decide (10000 < (n : Int)) = false) (h3 : decide (10000 < (m : Int)) = false)
    (hn : n = 16) (hc : n ≤ c)
    (hm : ((m : Int) != 24) = true)
    : Calls Try.prog 15 #[.string s, .slice A n c, .int .u32 (salt : Int), .slice B m d] w fun e w' => e = .returned (.bool true) ∧ Below w.heap.size w w' := by
  have h1 : decide (10000 < (s.size : Int)) = false := by simp; omega
  subst hn
  have hX := fun W hr => w_wrap s A c k salt W hs hsz hk hc hr
  have hXU := fun D d W hd hr => w_unwrap_wrapped s D d k salt W hsz hs hk hd hr
  generalize wrapL s.data.toList k salt = WL at hX hXU
  have HXU := Lib.hid hXU
  clear hXU
  have HX := Lib.hid hX
  have hY := fun W => w_unwrap_bad s B m d W hsz hm
  have HY := Lib.hid hY
  have HRK := Lib.hid hrk
  have HRL := Lib.hid hrl
  clear hX hY hrk hrl hsz hs
  go_enter Try.func15, Try.ntmps15
  go_wp2_with fail
  refine (alive04 _).mono ?_
  rintro e w1 ⟨rfl, b1⟩
  go_wp2_with fail
  have rk1 := (HRK.out.below b1).more b1.size
  refine (HX.out w1 rk1).mono ?_
  rintro e w2 ⟨D2, d2, rfl, f2, b2⟩
  have B2 := below_to b1 b2 b1.size
  have hd2 := f2.nc
  have r2 := f2.rd
  clear b1 b2 f2 rk1
  go_wp2_with fail
  refine (HXU.out D2 d2 w2 hd2 r2).mono ?_
  rintro e w3 ⟨D3, d3, rfl, f3, b3⟩
  have B3 := below_to B2 b3 B2.size
  have k1 := conv f3.rd d3
  have k2 := conv (HRK.out.below B3) c
  clear b3 f3 r2
  go_wp2_with fail
  clear k1 k2
  refine (HY.out w3).mono ?_
  rintro e w4 ⟨rfl, rfl⟩
  go_wp2
  go_ret
  exact ⟨rfl, B3⟩
set_option maxHeartbeats 4000000 in
theorem wback_key_no (s : ByteArray) (A : Option Addr) (n c : Nat) (k : List UInt8) (salt : Nat) (B : Option Addr) (m d : Nat) (l : List UInt8) (w : World) (hsz : s.size ≤ 64) (hs : (salt : Int) < 4294967296) (hk : k.length = n) (hl : l.length = m)
    (hrk : Rd w w.heap.size 1 A n (bvs k)) (hrl : Rd w w.heap.size 1 B m (bvs l)) (h2 : decide (10000 < (n : Int)) = false) (h3 : decide (10000 < (m : Int)) = false)
    (hn : n = 16) (hc : n ≤ c)
    (hm : m = 24) (hd : m ≤ d)
    (hE : sealL (stretchL s.data.toList (num (l.take 4))) (l.take 20) ≠ l)
    : Calls Try.prog 15 #[.string s, .slice A n c, .int .u32 (salt : Int), .slice B m d] w fun e w' => e = .returned (.bool true) ∧ Below w.heap.size w w' := by
  have h1 : decide (10000 < (s.size : Int)) = false := by simp; omega
  subst hn
  subst hm
  have hX := fun W hr => w_wrap s A c k salt W hs hsz hk hc hr
  have hXU := fun D d W hd hr => w_unwrap_wrapped s D d k salt W hsz hs hk hd hr
  generalize wrapL s.data.toList k salt = WL at hX hXU
  have HXU := Lib.hid hXU
  clear hXU
  have HX := Lib.hid hX
  have hY := fun W hr => w_unwrap_no s B d l W hsz hl hd hr hE
  have HY := Lib.hid hY
  have HRK := Lib.hid hrk
  have HRL := Lib.hid hrl
  clear hX hY hrk hrl hsz hs
  clear hE
  go_enter Try.func15, Try.ntmps15
  go_wp2_with fail
  refine (alive04 _).mono ?_
  rintro e w1 ⟨rfl, b1⟩
  go_wp2_with fail
  have rk1 := (HRK.out.below b1).more b1.size
  refine (HX.out w1 rk1).mono ?_
  rintro e w2 ⟨D2, d2, rfl, f2, b2⟩
  have B2 := below_to b1 b2 b1.size
  have hd2 := f2.nc
  have r2 := f2.rd
  clear b1 b2 f2 rk1
  go_wp2_with fail
  refine (HXU.out D2 d2 w2 hd2 r2).mono ?_
  rintro e w3 ⟨D3, d3, rfl, f3, b3⟩
  have B3 := below_to B2 b3 B2.size
  have k1 := conv f3.rd d3
  have k2 := conv (HRK.out.below B3) c
  clear b3 f3 r2
  go_wp2_with fail
  clear k1 k2
  have rl3 := (HRL.out.below B3).more B3.size
  refine (HY.out w3 rl3).mono ?_
  rintro e w4 ⟨rfl, b4⟩
  have B3 := below_to B3 b4 B3.size
  go_wp2
  go_ret
  exact ⟨rfl, B3⟩
set_option maxHeartbeats 4000000 in
theorem wback_key_ok (s : ByteArray) (A : Option Addr) (n c : Nat) (k : List UInt8) (salt : Nat) (B : Option Addr) (m d : Nat) (l : List UInt8) (w : World) (hsz : s.size ≤ 64) (hs : (salt : Int) < 4294967296) (hk : k.length = n) (hl : l.length = m)
    (hrk : Rd w w.heap.size 1 A n (bvs k)) (hrl : Rd w w.heap.size 1 B m (bvs l)) (h2 : decide (10000 < (n : Int)) = false) (h3 : decide (10000 < (m : Int)) = false)
    (hn : n = 16) (hc : n ≤ c)
    (hm : m = 24) (hd : m ≤ d)
    (hE : sealL (stretchL s.data.toList (num (l.take 4))) (l.take 20) = l)
    : Calls Try.prog 15 #[.string s, .slice A n c, .int .u32 (salt : Int), .slice B m d] w fun e w' => e = .returned (.bool true) ∧ Below w.heap.size w w' := by
  have h1 : decide (10000 < (s.size : Int)) = false := by simp; omega
  subst hn
  subst hm
  have hX := fun W hr => w_wrap s A c k salt W hs hsz hk hc hr
  have hXU := fun D d W hd hr => w_unwrap_wrapped s D d k salt W hsz hs hk hd hr
  generalize wrapL s.data.toList k salt = WL at hX hXU
  have HXU := Lib.hid hXU
  clear hXU
  have HX := Lib.hid hX
  have hY := fun W hr => w_unwrap_ok s B d l W hsz hl hd hr hE
  have hlt : num (l.take 4) < 4294967296 := by have := num_lt (l.take 4); rw [List.length_take, hl] at this; exact this
  have hkl : (xorL ((l.drop 4).take 16) (maskL (stretchL s.data.toList (num (l.take 4))))).length = 16 := by rw [xorL_len, List.length_take, List.length_drop, hl]; rfl
  have hZ := fun D d W hd hr => w_wrap s D d (xorL ((l.drop 4).take 16) (maskL (stretchL s.data.toList (num (l.take 4))))) (num (l.take 4)) W (by omega) hsz hkl hd hr
  rw [wrapL_of _ _ hl hE] at hZ
  have HZ := Lib.hid hZ
  have hold := old4 (l[0]'(by omega)) (l[1]'(by omega)) (l[2]'(by omega)) (l[3]'(by omega))
  rw [← four_take hl] at hold
  have h0l : ∀ j : Nat, j < 4 → j < l.length := fun j hj => by omega
  clear hZ hkl hE hlt
  have HY := Lib.hid hY
  have HRK := Lib.hid hrk
  have HRL := Lib.hid hrl
  clear hX hY hrk hrl hsz hs
  generalize xorL ((l.drop 4).take 16) (maskL (stretchL s.data.toList (num (l.take 4)))) = key at *
  generalize num (l.take 4) = old at *
  go_enter Try.func15, Try.ntmps15
  go_wp2_with fail
  refine (alive04 _).mono ?_
  rintro e w1 ⟨rfl, b1⟩
  go_wp2_with fail
  have rk1 := (HRK.out.below b1).more b1.size
  refine (HX.out w1 rk1).mono ?_
  rintro e w2 ⟨D2, d2, rfl, f2, b2⟩
  have B2 := below_to b1 b2 b1.size
  have hd2 := f2.nc
  have r2 := f2.rd
  clear b1 b2 f2 rk1
  go_wp2_with fail
  refine (HXU.out D2 d2 w2 hd2 r2).mono ?_
  rintro e w3 ⟨D3, d3, rfl, f3, b3⟩
  have B3 := below_to B2 b3 B2.size
  have k1 := conv f3.rd d3
  have k2 := conv (HRK.out.below B3) c
  clear b3 f3 r2
  go_wp2_with fail
  clear k1 k2
  have rl3 := (HRL.out.below B3).more B3.size
  refine (HY.out w3 rl3).mono ?_
  rintro e w4 ⟨D4, d4, rfl, f4, b4⟩
  have B4 := below_to B3 b4 B3.size
  have hd4 := f4.nc
  have r4 := f4.rd
  have rl4 := HRL.out.below B4
  obtain ⟨g, o, rfl, hg, -⟩ := HRL.out.2 (by omega)
  obtain ⟨_, _, ea, hbb0, c0⟩ := rl4.byte (k := 0) hl (by omega)
  cases ea
  obtain ⟨_, _, ea, hbb1, c1⟩ := rl4.byte (k := 1) hl (by omega)
  cases ea
  obtain ⟨_, _, ea, hbb2, c2⟩ := rl4.byte (k := 2) hl (by omega)
  cases ea
  obtain ⟨_, _, ea, hbb3, c3⟩ := rl4.byte (k := 3) hl (by omega)
  cases ea
  rw [Nat.add_zero] at c0
  clear f4 b4 rl4 rl3 hbb0 hbb1 hbb2 hbb3
  generalize (l[0]'(h0l 0 (by omega))) = x0 at *
  generalize (l[1]'(h0l 1 (by omega))) = x1 at *
  generalize (l[2]'(h0l 2 (by omega))) = x2 at *
  generalize (l[3]'(h0l 3 (by omega))) = x3 at *
  go_wp2_with fail
  go_quiet (fail)
  clear c0 c1 c2 c3
  go_wp2_with fail
  have b4q : Below w.heap.size w (w4.drewN nq) := ⟨B4.os, B4.tape, B4.output, B4.size, B4.block⟩
  refine (HZ.out D4 d4 (w4.drewN nq) hd4 (r4.drewN nq)).mono ?_
  rintro e w5 ⟨D5, d5, rfl, f5, b5⟩
  have B5 := below_to b4q b5 b4q.size
  have k1 := conv f5.rd d5
  have k2 := conv (HRL.out.below B5) d
  clear f5 b5 r4
  go_wp2
  go_ret
  exact ⟨rfl, B5⟩
theorem wrapBack_walk (s : ByteArray) (A : Option Addr) (n c : Nat) (k : List UInt8) (salt : Nat) (B : Option Addr) (m d : Nat) (l : List UInt8) (w : World) (hs : (salt : Int) < 4294967296) (hk : k.length = n) (hc : n ≤ c) (hl : l.length = m) (hd : m ≤ d)
    (hrk : Rd w w.heap.size 1 A n (bvs k)) (hrl : Rd w w.heap.size 1 B m (bvs l)) : Calls Try.prog 15 #[.string s, .slice A n c, .int .u32 (salt : Int), .slice B m d] w fun e w' => e = .returned (.bool true) ∧ Below w.heap.size w w' := by
  by_cases h1 : 10000 < (s.size : Int)
  · exact wback_pb s A n c salt B m d w h1
  by_cases h2 : 10000 < (n : Int)
  · exact wback_kb s A n c salt B m d w (by simp; omega) h2
  by_cases h3 : 10000 < (m : Int)
  · exact wback_wb s A n c salt B m d w (by simp; omega) (by simp; omega) h3
  by_cases h4 : (s.size : Int) > 64
  · exact wback_long s A n c salt B m d w (by simp; omega) (by simp; omega) (by simp; omega) h4
  have g2 : decide (10000 < (n : Int)) = false := by simp; omega
  have g3 : decide (10000 < (m : Int)) = false := by simp; omega
  by_cases hn : n = 16
  · by_cases hm : m = 24
    · by_cases hE : sealL (stretchL s.data.toList (num (l.take 4))) (l.take 20) = l
      · exact wback_key_ok s A n c k salt B m d l w (by omega) hs hk hl hrk hrl g2 g3 hn hc hm hd hE
      · exact wback_key_no s A n c k salt B m d l w (by omega) hs hk hl hrk hrl g2 g3 hn hc hm hd hE
    · exact wback_key_bad s A n c k salt B m d l w (by omega) hs hk hl hrk hrl g2 g3 hn hc (by simp; omega)
  · have hn' : ((n : Int) != 16) = true := by simp; omega
    by_cases hm : m = 24
    · by_cases hE : sealL (stretchL s.data.toList (num (l.take 4))) (l.take 20) = l
      · exact wback_arg_ok s A n c k salt B m d l w (by omega) hs hk hl hrk hrl g2 g3 hn' hm hd hE
      · exact wback_arg_no s A n c k salt B m d l w (by omega) hs hk hl hrk hrl g2 g3 hn' hm hd hE
    · exact wback_arg_bad s A n c k salt B m d l w (by omega) hs hk hl hrk hrl g2 g3 hn' (by simp; omega)

/-! ### WrapApart -/
theorem salt_bytes {l : List UInt8} {salt : Nat} (hl : l.length = 24) (h : l.take 4 = le 4 salt) : ((l[0].toNat : Int) = (salt : Int) % 256 ∧ (l[1].toNat : Int) = (salt : Int) / 256 % 256) ∧ ((l[2].toNat : Int) = (salt : Int) / 65536 % 256 ∧ (l[3].toNat : Int) = (salt : Int) / 16777216 % 256) := by
  rw [four_take hl] at h
  simp only [le, List.cons.injEq, and_true] at h
  obtain ⟨h0, h1, h2, h3⟩ := h
  rw [h0, h1, h2, h3]
  simp only [UInt8.toNat_ofNat']
  omega
theorem wapart_pb (s : ByteArray) (A : Option Addr) (n c : Nat) (B : Option Addr) (m d : Nat) (salt : Nat) (w : World)
    (h : 1000 < (s.size : Int)) : Calls Try.prog 16 #[.string s, .slice A n c, .slice B m d, .int .u32 (salt : Int)] w fun e w' => e = .returned (.bool true) ∧ Below w.heap.size w w' := by
  go_enter Try.func16, Try.ntmps16
  go_wp2_with fail
  refine (alive04 _).mono ?_
  rintro e w1 ⟨rfl, b1⟩
  go_wp2
  go_ret
  exact ⟨rfl, b1⟩
theorem wapart_kb (s : ByteArray) (A : Option Addr) (n c : Nat) (B : Option Addr) (m d : Nat) (salt : Nat) (w : World)
    (h1 : decide (1000 < (s.size : Int)) = false)
    (h : 1000 < (n : Int)) : Calls Try.prog 16 #[.string s, .slice A n c, .slice B m d, .int .u32 (salt : Int)] w fun e w' => e = .returned (.bool true) ∧ Below w.heap.size w w' := by
  go_enter Try.func16, Try.ntmps16
  go_wp2_with fail
  refine (alive04 _).mono ?_
  rintro e w1 ⟨rfl, b1⟩
  go_wp2
  go_ret
  exact ⟨rfl, b1⟩
theorem wapart_wb (s : ByteArray) (A : Option Addr) (n c : Nat) (B : Option Addr) (m d : Nat) (salt : Nat) (w : World)
    (h1 : decide (1000 < (s.size : Int)) = false)
    (h2 : decide (1000 < (n : Int)) = false)
    (h : 1000 < (m : Int)) : Calls Try.prog 16 #[.string s, .slice A n c, .slice B m d, .int .u32 (salt : Int)] w fun e w' => e = .returned (.bool true) ∧ Below w.heap.size w w' := by
  go_enter Try.func16, Try.ntmps16
  go_wp2_with fail
  refine (alive04 _).mono ?_
  rintro e w1 ⟨rfl, b1⟩
  go_wp2
  go_ret
  exact ⟨rfl, b1⟩
theorem wapart_long (s : ByteArray) (A : Option Addr) (n c : Nat) (B : Option Addr) (m d : Nat) (salt : Nat) (w : World)
    (h1 : decide (1000 < (s.size : Int)) = false) (h2 : decide (1000 < (n : Int)) = false) (h3 : decide (1000 < (m : Int)) = false) (h : (s.size : Int) > 64) : Calls Try.prog 16 #[.string s, .slice A n c, .slice B m d, .int .u32 (salt : Int)] w fun e w' => e = .returned (.bool true) ∧ Below w.heap.size w w' := by
  have H := Lib.hid h
  clear h
  go_enter Try.func16, Try.ntmps16
  go_wp2_with fail
  refine (alive04 _).mono ?_
  rintro e w1 ⟨rfl, b1⟩
  go_wp2_with fail
  refine (w_wrap_long s A n c salt w1 H.out).mono ?_
  rintro e w2 ⟨rfl, rfl⟩
  go_wp2_with fail
  refine (w_wrap_long s B m d salt w1 H.out).mono ?_
  rintro e w3 ⟨rfl, rfl⟩
  go_wp2
  go_ret
  exact ⟨rfl, b1⟩
set_option maxHeartbeats 4000000 in
theorem wapart_arg_arg (s : ByteArray) (A : Option Addr) (n c : Nat) (k : List UInt8) (B : Option Addr) (m d : Nat) (l : List UInt8) (salt : Nat) (w : World) (hsz : s.size ≤ 64) (hs : (salt : Int) < 4294967296) (hk : k.length = n) (hl : l.length = m)
    (hrk : Rd w w.heap.size 1 A n (bvs k)) (hrl : Rd w w.heap.size 1 B m (bvs l)) (h2 : decide (1000 < (n : Int)) = false) (h3 : decide (1000 < (m : Int)) = false)
    (hn : ((n : Int) != 16) = true)
    (hm : ((m : Int) != 16) = true)
    : Calls Try.prog 16 #[.string s, .slice A n c, .slice B m d, .int .u32 (salt : Int)] w fun e w' => e = .returned (.bool true) ∧ Below w.heap.size w w' := by
  have h1 : decide (1000 < (s.size : Int)) = false := by simp; omega
  have hX := fun W => w_wrap_arg s A n c salt W hs hsz hn
  have hY := fun W => w_wrap_arg s B m d salt W hs hsz hm
  have HX := Lib.hid hX
  have HY := Lib.hid hY
  have HRK := Lib.hid hrk
  have HRL := Lib.hid hrl
  have HS := Lib.hid hs
  clear hX hY hrk hrl hsz hs
  go_enter Try.func16, Try.ntmps16
  go_wp2_with fail
  refine (alive04 _).mono ?_
  rintro e w1 ⟨rfl, b1⟩
  go_wp2_with fail
  refine (HX.out w1).mono ?_
  rintro e w2 ⟨rfl, b2⟩
  have B2 := below_to b1 b2 b1.size
  clear b1 b2
  go_wp2_with fail
  refine (HY.out w2).mono ?_
  rintro e w3 ⟨rfl, b3⟩
  have B3 := below_to B2 b3 B2.size
  go_wp2
  go_ret
  exact ⟨rfl, B3⟩
set_option maxHeartbeats 4000000 in
theorem wapart_arg_key (s : ByteArray) (A : Option Addr) (n c : Nat) (k : List UInt8) (B : Option Addr) (m d : Nat) (l : List UInt8) (salt : Nat) (w : World) (hsz : s.size ≤ 64) (hs : (salt : Int) < 4294967296) (hk : k.length = n) (hl : l.length = m)
    (hrk : Rd w w.heap.size 1 A n (bvs k)) (hrl : Rd w w.heap.size 1 B m (bvs l)) (h2 : decide (1000 < (n : Int)) = false) (h3 : decide (1000 < (m : Int)) = false)
    (hn : ((n : Int) != 16) = true)
    (hm : m = 16) (hd : m ≤ d)
    : Calls Try.prog 16 #[.string s, .slice A n c, .slice B m d, .int .u32 (salt : Int)] w fun e w' => e = .returned (.bool true) ∧ Below w.heap.size w w' := by
  have h1 : decide (1000 < (s.size : Int)) = false := by simp; omega
  subst hm
  have hX := fun W => w_wrap_arg s A n c salt W hs hsz hn
  have hY := fun W hr => w_wrap s B d l salt W hs hsz hl hd hr
  have HX := Lib.hid hX
  have HY := Lib.hid hY
  have HRK := Lib.hid hrk
  have HRL := Lib.hid hrl
  have HS := Lib.hid hs
  clear hX hY hrk hrl hsz hs
  generalize wrapL s.data.toList l salt = WL at *
  go_enter Try.func16, Try.ntmps16
  go_wp2_with fail
  refine (alive04 _).mono ?_
  rintro e w1 ⟨rfl, b1⟩
  go_wp2_with fail
  refine (HX.out w1).mono ?_
  rintro e w2 ⟨rfl, b2⟩
  have B2 := below_to b1 b2 b1.size
  clear b1 b2
  go_wp2_with fail
  have rl2 := (HRL.out.below B2).more B2.size
  refine (HY.out w2 rl2).mono ?_
  rintro e w3 ⟨D3, d3, rfl, f3, b3⟩
  have B3 := below_to B2 b3 B2.size
  go_wp2
  go_ret
  exact ⟨rfl, B3⟩
set_option maxHeartbeats 4000000 in
theorem wapart_key_arg (s : ByteArray) (A : Option Addr) (n c : Nat) (k : List UInt8) (B : Option Addr) (m d : Nat) (l : List UInt8) (salt : Nat) (w : World) (hsz : s.size ≤ 64) (hs : (salt : Int) < 4294967296) (hk : k.length = n) (hl : l.length = m)
    (hrk : Rd w w.heap.size 1 A n (bvs k)) (hrl : Rd w w.heap.size 1 B m (bvs l)) (h2 : decide (1000 < (n : Int)) = false) (h3 : decide (1000 < (m : Int)) = false)
    (hn : n = 16) (hc : n ≤ c)
    (hm : ((m : Int) != 16) = true)
    : Calls Try.prog 16 #[.string s, .slice A n c, .slice B m d, .int .u32 (salt : Int)] w fun e w' => e = .returned (.bool true) ∧ Below w.heap.size w w' := by
  have h1 : decide (1000 < (s.size : Int)) = false := by simp; omega
  subst hn
  have hX := fun W hr => w_wrap s A c k salt W hs hsz hk hc hr
  have hY := fun W => w_wrap_arg s B m d salt W hs hsz hm
  have HX := Lib.hid hX
  have HY := Lib.hid hY
  have HRK := Lib.hid hrk
  have HRL := Lib.hid hrl
  have HS := Lib.hid hs
  clear hX hY hrk hrl hsz hs
  generalize wrapL s.data.toList k salt = WK at *
  go_enter Try.func16, Try.ntmps16
  go_wp2_with fail
  refine (alive04 _).mono ?_
  rintro e w1 ⟨rfl, b1⟩
  go_wp2_with fail
  have rk1 := (HRK.out.below b1).more b1.size
  refine (HX.out w1 rk1).mono ?_
  rintro e w2 ⟨D2, d2, rfl, f2, b2⟩
  have B2 := below_to b1 b2 b1.size
  have hd2 := f2.nc
  have r2 := f2.rd
  clear f2 rk1
  clear b1 b2
  go_wp2_with fail
  refine (HY.out w2).mono ?_
  rintro e w3 ⟨rfl, b3⟩
  have B3 := below_to B2 b3 B2.size
  go_wp2
  go_ret
  exact ⟨rfl, B3⟩
set_option maxHeartbeats 4000000 in
theorem wapart_key_key (s : ByteArray) (A : Option Addr) (n c : Nat) (k : List UInt8) (B : Option Addr) (m d : Nat) (l : List UInt8) (salt : Nat) (w : World) (hsz : s.size ≤ 64) (hs : (salt : Int) < 4294967296) (hk : k.length = n) (hl : l.length = m)
    (hrk : Rd w w.heap.size 1 A n (bvs k)) (hrl : Rd w w.heap.size 1 B m (bvs l)) (h2 : decide (1000 < (n : Int)) = false) (h3 : decide (1000 < (m : Int)) = false)
    (hn : n = 16) (hc : n ≤ c)
    (hm : m = 16) (hd : m ≤ d)
    : Calls Try.prog 16 #[.string s, .slice A n c, .slice B m d, .int .u32 (salt : Int)] w fun e w' => e = .returned (.bool true) ∧ Below w.heap.size w w' := by
  have h1 : decide (1000 < (s.size : Int)) = false := by simp; omega
  subst hn
  subst hm
  have heq : (wrapL s.data.toList k salt == wrapL s.data.toList l salt) = (k == l) := by
    rw [Bool.eq_iff_iff, beq_iff_eq, beq_iff_eq]
    exact ⟨wrapL_inj hk hl (by omega), fun h => by rw [h]⟩
  have hWl : (wrapL s.data.toList k salt).length = 24 := wrapL_len hk
  obtain ⟨⟨e0, e1⟩, e2, e3⟩ := salt_bytes hWl (wrapL_salt s.data.toList k salt)
  have hX := fun W hr => w_wrap s A c k salt W hs hsz hk hc hr
  have hY := fun W hr => w_wrap s B d l salt W hs hsz hl hd hr
  have HX := Lib.hid hX
  have HY := Lib.hid hY
  have HRK := Lib.hid hrk
  have HRL := Lib.hid hrl
  have HS := Lib.hid hs
  clear hX hY hrk hrl hsz hs
  generalize wrapL s.data.toList k salt = WK at *
  generalize wrapL s.data.toList l salt = WL at *
  go_enter Try.func16, Try.ntmps16
  go_wp2_with fail
  refine (alive04 _).mono ?_
  rintro e w1 ⟨rfl, b1⟩
  go_wp2_with fail
  have rk1 := (HRK.out.below b1).more b1.size
  refine (HX.out w1 rk1).mono ?_
  rintro e w2 ⟨D2, d2, rfl, f2, b2⟩
  have B2 := below_to b1 b2 b1.size
  have hd2 := f2.nc
  have r2 := f2.rd
  clear f2 rk1
  clear b1 b2
  go_wp2_with fail
  have rl2 := (HRL.out.below B2).more B2.size
  refine (HY.out w2 rl2).mono ?_
  rintro e w3 ⟨D3, d3, rfl, f3, b3⟩
  have B3 := below_to B2 b3 B2.size
  have k1 := conv (r2.below b3) d2
  have k2 := conv f3.rd d3
  have k3 := conv (HRK.out.below B3) c
  have k4 := conv (HRL.out.below B3) d
  have r23 := r2.below b3
  obtain ⟨g, o, rfl, hg, -⟩ := r2.2 (by omega)
  obtain ⟨_, _, ea, hbb0, c0⟩ := r23.byte (k := 0) hWl (by omega)
  cases ea
  obtain ⟨_, _, ea, hbb1, c1⟩ := r23.byte (k := 1) hWl (by omega)
  cases ea
  obtain ⟨_, _, ea, hbb2, c2⟩ := r23.byte (k := 2) hWl (by omega)
  cases ea
  obtain ⟨_, _, ea, hbb3, c3⟩ := r23.byte (k := 3) hWl (by omega)
  cases ea
  rw [Nat.add_zero] at c0
  rw [e0] at c0
  rw [e1] at c1
  rw [e2] at c2
  rw [e3] at c3
  clear f3 b3 rl2 r2 r23 hbb0 hbb1 hbb2 hbb3 e0 e1 e2 e3
  go_wp2
  go_ret
  exact ⟨rfl, B3⟩
theorem wrapApart_walk (s : ByteArray) (A : Option Addr) (n c : Nat) (k : List UInt8) (B : Option Addr) (m d : Nat) (l : List UInt8) (salt : Nat) (w : World) (hs : (salt : Int) < 4294967296) (hk : k.length = n) (hc : n ≤ c) (hl : l.length = m) (hd : m ≤ d)
    (hrk : Rd w w.heap.size 1 A n (bvs k)) (hrl : Rd w w.heap.size 1 B m (bvs l)) : Calls Try.prog 16 #[.string s, .slice A n c, .slice B m d, .int .u32 (salt : Int)] w fun e w' => e = .returned (.bool true) ∧ Below w.heap.size w w' := by
  by_cases h1 : 1000 < (s.size : Int)
  · exact wapart_pb s A n c B m d salt w h1
  by_cases h2 : 1000 < (n : Int)
  · exact wapart_kb s A n c B m d salt w (by simp; omega) h2
  by_cases h3 : 1000 < (m : Int)
  · exact wapart_wb s A n c B m d salt w (by simp; omega) (by simp; omega) h3
  by_cases h4 : (s.size : Int) > 64
  · exact wapart_long s A n c B m d salt w (by simp; omega) (by simp; omega) (by simp; omega) h4
  have g2 : decide (1000 < (n : Int)) = false := by simp; omega
  have g3 : decide (1000 < (m : Int)) = false := by simp; omega
  by_cases hn : n = 16
  · by_cases hm : m = 16
    · exact wapart_key_key s A n c k B m d l salt w (by omega) hs hk hl hrk hrl g2 g3 hn hc hm hd
    · exact wapart_key_arg s A n c k B m d l salt w (by omega) hs hk hl hrk hrl g2 g3 hn hc (by simp; omega)
  · have hn' : ((n : Int) != 16) = true := by simp; omega
    by_cases hm : m = 16
    · exact wapart_arg_key s A n c k B m d l salt w (by omega) hs hk hl hrk hrl g2 g3 hn' hm hd
    · exact wapart_arg_arg s A n c k B m d l salt w (by omega) hs hk hl hrk hrl g2 g3 hn' (by simp; omega)
end Go.Proofs.Ytoggpnncmgcgoaa
