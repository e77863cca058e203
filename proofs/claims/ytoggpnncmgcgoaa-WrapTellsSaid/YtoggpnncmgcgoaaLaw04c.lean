/-
  The walk of layer 4's statement WrapTells.
-/
import Derived.Test.YtoggpnncmgcgoaaRef04b
namespace Go.Proofs.Ytoggpnncmgcgoaa
open Go.RowKit
set_option linter.unusedVariables false
set_option linter.unusedSimpArgs false
set_option maxRecDepth 100000
attribute [local go_sem] str_toList toList_mk

/-- What is answered: bytes, and an error's number. -/
def outS (s : ByteArray) (salt : Nat) : List UInt8 × Int := if 64 < s.size then ([], 3) else (stretchL s.data.toList salt, 0)
def outW (s : ByteArray) (k : List UInt8) (salt : Nat) : List UInt8 × Int := if 64 < s.size then ([], 3) else if k.length ≠ 16 then ([], 2) else (wrapL s.data.toList k salt, 0)
def outU (s : ByteArray) (l : List UInt8) : List UInt8 × Int := if 64 < s.size then ([], 3) else if l.length ≠ 24 then ([], 8) else
  if sealL (stretchL s.data.toList (num (l.take 4))) (l.take 20) = l then (xorL ((l.drop 4).take 16) (maskL (stretchL s.data.toList (num (l.take 4)))), 0) else ([], 201)
def Told (w : World) (o : List UInt8 × Int) (e : Ending) (w' : World) : Prop :=
  ∃ A n c, e = .returned (.tuple #[.slice A n c, .int .i64 o.2]) ∧ o.1.length = n ∧ Rd w' w'.heap.size 1 A n (bvs o.1) ∧ Below w.heap.size w w'
theorem told_nil (w w' : World) (x : Int) (e : Ending) (h : e = .returned (.tuple #[.slice none 0 0, .int .i64 x]) ∧ Below w.heap.size w w') : Told w ([], x) e w' := ⟨none, 0, 0, h.1, rfl, Rd.nil_, h.2⟩
theorem t_w_stretch (s : ByteArray) (salt : Nat) (w : World) (hs : (salt : Int) < 4294967296) : Calls Try.prog 40 #[.string s, .int .u32 (salt : Int)] w (Told w (outS s salt)) := by
  by_cases h : 64 < s.size
  · rw [outS, if_pos h]
    refine (w_stretch_long s salt w (by omega)).mono ?_
    rintro e w' ⟨rfl, rfl⟩
    exact told_nil w w 3 _ ⟨rfl, Below.refl _ _⟩
  · rw [outS, if_neg h]
    refine (w_stretch s salt w hs (by omega)).mono ?_
    rintro e w' ⟨A, c, rfl, f, b⟩
    exact ⟨A, 16, c, rfl, stretchL_len _ _, f.rd, b⟩
theorem t_r_stretch_ok (s : ByteArray) (salt : Nat) (w : World) (hs : (salt : Int) < 4294967296) : Calls Try.prog 41 #[.string s, .int .u32 (salt : Int)] w (Told w (outS s salt)) := by
  by_cases h : 64 < s.size
  · rw [outS, if_pos h]
    refine (r_stretch_long s salt w (by omega)).mono ?_
    rintro e w' ⟨rfl, rfl⟩
    exact told_nil w w 3 _ ⟨rfl, Below.refl _ _⟩
  · rw [outS, if_neg h]
    refine (r_stretch_ok s salt w hs (by omega)).mono ?_
    rintro e w' ⟨A, c, rfl, f, b⟩
    exact ⟨A, 16, c, rfl, stretchL_len _ _, f.rd, b⟩
theorem t_w_wrap (s : ByteArray) (K : Option Addr) (n c : Nat) (k : List UInt8) (salt : Nat) (w : World) (hs : (salt : Int) < 4294967296) (hk : k.length = n) (hc : n ≤ c) (hr : Rd w w.heap.size 1 K n (bvs k)) : Calls Try.prog 37 #[.string s, .slice K n c, .int .u32 (salt : Int)] w (Told w (outW s k salt)) := by
  by_cases h : 64 < s.size
  · rw [outW, if_pos h]
    refine (w_wrap_long s K n c salt w (by omega)).mono ?_
    rintro e w' ⟨rfl, rfl⟩
    exact told_nil w w 3 _ ⟨rfl, Below.refl _ _⟩
  by_cases h2 : n = 16
  · subst h2
    rw [outW, if_neg h, if_neg (by omega)]
    refine (w_wrap s K c k salt w hs (by omega) hk hc hr).mono ?_
    rintro e w' ⟨A, c, rfl, f, b⟩
    exact ⟨A, 24, c, rfl, wrapL_len hk, f.rd, b⟩
  · rw [outW, if_neg h, if_pos (by omega)]
    refine (w_wrap_arg s K n c salt w hs (by omega) (by simp; omega)).mono ?_
    rintro e w' ⟨rfl, b⟩
    exact told_nil w w' 2 _ ⟨rfl, b⟩
theorem t_r_wrap (s : ByteArray) (K : Option Addr) (n c : Nat) (k : List UInt8) (salt : Nat) (w : World) (hs : (salt : Int) < 4294967296) (hk : k.length = n) (hr : Rd w w.heap.size 1 K n (bvs k)) : Calls Try.prog 42 #[.string s, .slice K n c, .int .u32 (salt : Int)] w (Told w (outW s k salt)) := by
  by_cases h : 64 < s.size
  · rw [outW, if_pos h]
    refine (r_wrap_long s K n c salt w (by omega)).mono ?_
    rintro e w' ⟨rfl, rfl⟩
    exact told_nil w w 3 _ ⟨rfl, Below.refl _ _⟩
  by_cases h2 : n = 16
  · subst h2
    rw [outW, if_neg h, if_neg (by omega)]
    refine (r_wrap_ok s K c k salt w hs (by omega) hk hr).mono ?_
    rintro e w' ⟨A, c, rfl, f, b⟩
    exact ⟨A, 24, c, rfl, wrapL_len hk, f.rd, b⟩
  · rw [outW, if_neg h, if_pos (by omega)]
    refine (r_wrap_arg s K n c salt w (by omega) (by simp; omega)).mono ?_
    rintro e w' ⟨rfl, rfl⟩
    exact told_nil w w 2 _ ⟨rfl, Below.refl _ _⟩
theorem key_len (l : List UInt8) (m : List UInt8) (hl : l.length = 24) : (xorL ((l.drop 4).take 16) m).length = 16 := by rw [xorL_len, List.length_take, List.length_drop, hl]; rfl
theorem t_w_unwrap (s : ByteArray) (K : Option Addr) (n c : Nat) (l : List UInt8) (w : World) (hl : l.length = n) (hc : n ≤ c) (hr : Rd w w.heap.size 1 K n (bvs l)) : Calls Try.prog 38 #[.string s, .slice K n c] w (Told w (outU s l)) := by
  by_cases h : 64 < s.size
  · rw [outU, if_pos h]
    refine (w_unwrap_long s K n c w (by omega)).mono ?_
    rintro e w' ⟨rfl, rfl⟩
    exact told_nil w w 3 _ ⟨rfl, Below.refl _ _⟩
  by_cases h2 : n = 24
  · subst h2
    by_cases hE : sealL (stretchL s.data.toList (num (l.take 4))) (l.take 20) = l
    · rw [outU, if_neg h, if_neg (by omega), if_pos hE]
      refine (w_unwrap_ok s K c l w (by omega) hl hc hr hE).mono ?_
      rintro e w' ⟨A, c, rfl, f, b⟩
      exact ⟨A, 16, c, rfl, key_len l _ hl, f.rd, b⟩
    · rw [outU, if_neg h, if_neg (by omega), if_neg hE]
      refine (w_unwrap_no s K c l w (by omega) hl hc hr hE).mono ?_
      rintro e w' ⟨rfl, b⟩
      exact told_nil w w' 201 _ ⟨rfl, b⟩
  · rw [outU, if_neg h, if_pos (by omega)]
    refine (w_unwrap_bad s K n c w (by omega) (by simp; omega)).mono ?_
    rintro e w' ⟨rfl, rfl⟩
    exact told_nil w w 8 _ ⟨rfl, Below.refl _ _⟩
theorem t_r_unwrap (s : ByteArray) (K : Option Addr) (n c : Nat) (l : List UInt8) (w : World) (hl : l.length = n) (hc : n ≤ c) (hr : Rd w w.heap.size 1 K n (bvs l)) : Calls Try.prog 43 #[.string s, .slice K n c] w (Told w (outU s l)) := by
  by_cases h : 64 < s.size
  · rw [outU, if_pos h]
    refine (r_unwrap_long s K n c w (by omega)).mono ?_
    rintro e w' ⟨rfl, rfl⟩
    exact told_nil w w 3 _ ⟨rfl, Below.refl _ _⟩
  by_cases h2 : n = 24
  · subst h2
    by_cases hE : sealL (stretchL s.data.toList (num (l.take 4))) (l.take 20) = l
    · rw [outU, if_neg h, if_neg (by omega), if_pos hE]
      refine (r_unwrap_ok s K c l w (by omega) hl hc hr hE).mono ?_
      rintro e w' ⟨A, c, rfl, f, b⟩
      exact ⟨A, 16, c, rfl, key_len l _ hl, f.rd, b⟩
    · rw [outU, if_neg h, if_neg (by omega), if_neg hE]
      refine (r_unwrap_no s K c l w (by omega) hl hc hr hE).mono ?_
      rintro e w' ⟨rfl, b⟩
      exact told_nil w w' 201 _ ⟨rfl, b⟩
  · rw [outU, if_neg h, if_pos (by omega)]
    refine (r_unwrap_bad s K n c w (by omega) (by simp; omega)).mono ?_
    rintro e w' ⟨rfl, rfl⟩
    exact told_nil w w 8 _ ⟨rfl, Below.refl _ _⟩
theorem wtells_pb (s : ByteArray) (A : Option Addr) (n c : Nat) (salt : Nat) (B : Option Addr) (m d : Nat) (w : World)
    (h : 10000 < (s.size : Int)) : Calls Try.prog 14 #[.string s, .slice A n c, .int .u32 (salt : Int), .slice B m d] w fun e w' => e = .returned (.bool true) ∧ Below w.heap.size w w' := by
  go_enter Try.func14, Try.ntmps14
  go_wp2
  go_ret
  exact ⟨rfl, Below.refl _ _⟩
theorem wtells_kb (s : ByteArray) (A : Option Addr) (n c : Nat) (salt : Nat) (B : Option Addr) (m d : Nat) (w : World)
    (h1 : decide (10000 < (s.size : Int)) = false)
    (h : 10000 < (n : Int)) : Calls Try.prog 14 #[.string s, .slice A n c, .int .u32 (salt : Int), .slice B m d] w fun e w' => e = .returned (.bool true) ∧ Below w.heap.size w w' := by
  go_enter Try.func14, Try.ntmps14
  go_wp2
  go_ret
  exact ⟨rfl, Below.refl _ _⟩
theorem wtells_wb (s : ByteArray) (A : Option Addr) (n c : Nat) (salt : Nat) (B : Option Addr) (m d : Nat) (w : World)
    (h1 : decide (10000 < (s.size : Int)) = false)
    (h2 : decide (10000 < (n : Int)) = false)
    (h : 10000 < (m : Int)) : Calls Try.prog 14 #[.string s, .slice A n c, .int .u32 (salt : Int), .slice B m d] w fun e w' => e = .returned (.bool true) ∧ Below w.heap.size w w' := by
  go_enter Try.func14, Try.ntmps14
  go_wp2
  go_ret
  exact ⟨rfl, Below.refl _ _⟩
set_option maxHeartbeats 2000000 in
theorem wtells_ok (s : ByteArray) (A : Option Addr) (n c : Nat) (k : List UInt8) (salt : Nat) (B : Option Addr) (m d : Nat) (l : List UInt8) (w : World) (hs : (salt : Int) < 4294967296)
    (h1 : decide (10000 < (s.size : Int)) = false) (h2 : decide (10000 < (n : Int)) = false) (h3 : decide (10000 < (m : Int)) = false) (hk : k.length = n) (hc : n ≤ c) (hl : l.length = m) (hd : m ≤ d)
    (hrk : Rd w w.heap.size 1 A n (bvs k)) (hrl : Rd w w.heap.size 1 B m (bvs l)) : Calls Try.prog 14 #[.string s, .slice A n c, .int .u32 (salt : Int), .slice B m d] w fun e w' => e = .returned (.bool true) ∧ Below w.heap.size w w' := by
  have c1 := fun W => t_w_stretch s salt W hs
  have c2 := fun W => t_r_stretch_ok s salt W hs
  have c3 := fun W (h : Below w.heap.size w W) => t_w_wrap s A n c k salt W hs hk hc ((hrk.below h).more h.size)
  have c4 := fun W (h : Below w.heap.size w W) => t_r_wrap s A n c k salt W hs hk ((hrk.below h).more h.size)
  have c5 := fun W (h : Below w.heap.size w W) => t_w_unwrap s B m d l W hl hd ((hrl.below h).more h.size)
  have c6 := fun W (h : Below w.heap.size w W) => t_r_unwrap s B m d l W hl hd ((hrl.below h).more h.size)
  obtain ⟨o1, ho1⟩ : ∃ o, o = outS s salt := ⟨_, rfl⟩
  obtain ⟨o2, ho2⟩ : ∃ o, o = outW s k salt := ⟨_, rfl⟩
  obtain ⟨o3, ho3⟩ : ∃ o, o = outU s l := ⟨_, rfl⟩
  simp only [← ho1] at c1 c2
  simp only [← ho2] at c3 c4
  simp only [← ho3] at c5 c6
  obtain ⟨l1, e1⟩ := o1
  obtain ⟨l2, e2⟩ := o2
  obtain ⟨l3, e3⟩ := o3
  have k1 := conv hrk c
  have k2 := conv hrl d
  have C1 := Lib.hid c1
  have C2 := Lib.hid c2
  have C3 := Lib.hid c3
  have C4 := Lib.hid c4
  have C5 := Lib.hid c5
  have C6 := Lib.hid c6
  have HK := Lib.hid hrk
  have HL := Lib.hid hrl
  clear c1 c2 c3 c4 c5 c6 hrk hrl ho1 ho2 ho3 hs
  go_enter Try.func14, Try.ntmps14
  go_wp2_with fail
  clear k1 k2
  refine (C1.out w).mono ?_
  rintro e w1 ⟨D1, n1, d1, rfl, hn1, r1, b1⟩
  have R1 := Lib.hid r1
  have B1 := Lib.hid b1
  clear r1 b1
  go_wp2_with fail
  refine (C2.out w1).mono ?_
  rintro e w2 ⟨D2, n2, d2, rfl, hn2, r2, b2⟩
  have R1 := Lib.hid (R1.out.below b2)
  have R2 := Lib.hid r2
  have Z := Lib.hid b2.size
  have B2 := Lib.hid (below_to B1.out b2 B1.out.size)
  clear r2 b2
  go_wp2_with fail
  refine (C3.out w2 B2.out).mono ?_
  rintro e w3 ⟨D3, n3, d3, rfl, hn3, r3, b3⟩
  have R1 := Lib.hid (R1.out.belowH b3 Z.out)
  have R2 := Lib.hid (R2.out.below b3)
  have R3 := Lib.hid r3
  have Z1 := Lib.hid (Nat.le_trans Z.out b3.size)
  have Z2 := Lib.hid b3.size
  have B3 := Lib.hid (below_to B2.out b3 B2.out.size)
  clear r3 b3
  go_wp2_with fail
  refine (C4.out w3 B3.out).mono ?_
  rintro e w4 ⟨D4, n4, d4, rfl, hn4, r4, b4⟩
  have R1 := Lib.hid (R1.out.belowH b4 Z1.out)
  have R2 := Lib.hid (R2.out.belowH b4 Z2.out)
  have R3 := Lib.hid (R3.out.below b4)
  have R4 := Lib.hid r4
  have Y1 := Lib.hid (Nat.le_trans Z1.out b4.size)
  have Y2 := Lib.hid (Nat.le_trans Z2.out b4.size)
  have Y3 := Lib.hid b4.size
  have B4 := Lib.hid (below_to B3.out b4 B3.out.size)
  clear r4 b4
  go_wp2_with fail
  refine (C5.out w4 B4.out).mono ?_
  rintro e w5 ⟨D5, n5, d5, rfl, hn5, r5, b5⟩
  have R1 := Lib.hid (R1.out.belowH b5 Y1.out)
  have R2 := Lib.hid (R2.out.belowH b5 Y2.out)
  have R3 := Lib.hid (R3.out.belowH b5 Y3.out)
  have R4 := Lib.hid (R4.out.below b5)
  have R5 := Lib.hid r5
  have X1 := Lib.hid (Nat.le_trans Y1.out b5.size)
  have X2 := Lib.hid (Nat.le_trans Y2.out b5.size)
  have X3 := Lib.hid (Nat.le_trans Y3.out b5.size)
  have X4 := Lib.hid b5.size
  have B5 := Lib.hid (below_to B4.out b5 B4.out.size)
  clear r5 b5
  go_wp2_with fail
  refine (C6.out w5 B5.out).mono ?_
  rintro e w6 ⟨D6, n6, d6, rfl, hn6, r6, b6⟩
  have q1 := conv (R1.out.belowH b6 X1.out) d1
  have q2 := conv (R2.out.belowH b6 X2.out) d2
  have q3 := conv (R3.out.belowH b6 X3.out) d3
  have q4 := conv (R4.out.belowH b6 X4.out) d4
  have q5 := conv (R5.out.below b6) d5
  have q6 := conv r6 d6
  have B6 := below_to B5.out b6 B5.out.size
  have q7 := conv (HK.out.below B6) c
  have q8 := conv (HL.out.below B6) d
  clear r6 b6
  go_wp2
  go_ret
  exact ⟨rfl, B6⟩
theorem wrapTells_walk (s : ByteArray) (A : Option Addr) (n c : Nat) (k : List UInt8) (salt : Nat) (B : Option Addr) (m d : Nat) (l : List UInt8) (w : World) (hs : (salt : Int) < 4294967296)
    (hk : k.length = n) (hc : n ≤ c) (hl : l.length = m) (hd : m ≤ d)
    (hrk : Rd w w.heap.size 1 A n (bvs k)) (hrl : Rd w w.heap.size 1 B m (bvs l)) : Calls Try.prog 14 #[.string s, .slice A n c, .int .u32 (salt : Int), .slice B m d] w fun e w' => e = .returned (.bool true) ∧ Below w.heap.size w w' := by
  by_cases h1 : 10000 < (s.size : Int)
  · exact wtells_pb s A n c salt B m d w h1
  by_cases h2 : 10000 < (n : Int)
  · exact wtells_kb s A n c salt B m d w (by simp; omega) h2
  by_cases h3 : 10000 < (m : Int)
  · exact wtells_wb s A n c salt B m d w (by simp; omega) (by simp; omega) h3
  exact wtells_ok s A n c k salt B m d l w hs (by simp; omega) (by simp; omega) (by simp; omega) hk hc hl hd hrk hrl
end Go.Proofs.Ytoggpnncmgcgoaa
