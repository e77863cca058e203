/-
  The walk of ObjBack.
-/
import Derived.Test.YtgcagenhfddpgaaLaw14
import Derived.Test.YtgcagenhfddpgaaObjR
import Derived.Test.YtgcagenhfddpgaaObjB
namespace Go.Proofs.Ytgcagenhfddpgaa
open Go.RowKit
set_option linter.unusedVariables false
set_option linter.unusedSimpArgs false
set_option maxRecDepth 100000
attribute [local go_sem] str_toList toList_mk

theorem obj_read (A : Option Addr) (n c : Nat) (l : List UInt8) (w : World) (hl : l.length = n) (hc : n ≤ c) (hr : Rd w w.heap.size 1 A n (bvs l)) :
    Calls Try.prog 40 #[.slice A n c] w fun e w' =>
      ((RdOk l ∧ ∃ D, e = .returned (.tuple #[.agg #[.int .u8 (byteN l 0 : Int), .int .i64 (byteN l 1 : Int), .int .i64 (numS l), .slice D 15 15], .int .i64 0]) ∧ Rd w' w'.heap.size 5 D 15 (pcs (rdData l)))
      ∨ (¬ RdOk l ∧ ∃ E : Int, (E = 3 ∨ E = 8) ∧ e = .returned (.tuple #[.agg #[.int .u8 0, .int .i64 0, .int .i64 0, .slice none 0 0], .int .i64 E]))) ∧ Below w.heap.size w w' := by
  by_cases h0 : n = 256
  · subst h0
    by_cases h1 : AllMay (rowsL (padL l))
    · by_cases h2 : MidOk l
      · by_cases h3 : ObMay (byteN l 0 : Int) (byteN l 1 : Int) (numS l) (rdData l)
        · refine (obj_read_ok A c l w hl hc hr h1 h2 h3).mono ?_
          rintro e w' ⟨D, rfl, hr', hb⟩
          exact ⟨.inl ⟨⟨hl, h1, h2, h3⟩, D, rfl, hr'⟩, hb⟩
        · refine (obj_read_chk A c l w hl hc hr h1 h2 h3).mono ?_
          rintro e w' ⟨rfl, hb⟩
          exact ⟨.inr ⟨fun h => h3 h.2.2.2, 8, .inr rfl, rfl⟩, hb⟩
      · refine (obj_read_mid A c l w hl hc hr h1 h2).mono ?_
        rintro e w' ⟨rfl, hb⟩
        exact ⟨.inr ⟨fun h => h2 h.2.2.1, 8, .inr rfl, rfl⟩, hb⟩
    · refine (obj_read_rows A c l w hl hc hr h1).mono ?_
      rintro e w' ⟨rfl, hb⟩
      exact ⟨.inr ⟨fun h => h1 h.2.1, 8, .inr rfl, rfl⟩, hb⟩
  · refine (obj_read_len A n c w (by simp; omega)).mono ?_
    rintro e w' ⟨rfl, hb⟩
    exact ⟨.inr ⟨fun h => h0 (by have := h.1; omega), 3, .inl rfl, rfl⟩, hb⟩
theorem obj_read_may (A : Option Addr) (c : Nat) (l : List UInt8) (w : World) (h : RdOk l) (hc : 256 ≤ c) (hr : Rd w w.heap.size 1 A 256 (bvs l)) :
    Calls Try.prog 40 #[.slice A 256 c] w fun e w' =>
      ∃ D, e = .returned (.tuple #[.agg #[.int .u8 (byteN l 0 : Int), .int .i64 (byteN l 1 : Int), .int .i64 (numS l), .slice D 15 15], .int .i64 0]) ∧ Rd w' w'.heap.size 5 D 15 (pcs (rdData l)) ∧ Below w.heap.size w w' :=
  obj_read_ok A c l w h.1 hc hr h.2.1 h.2.2.1 h.2.2.2

set_option maxHeartbeats 2000000 in
theorem objBack_great (K L S : Int) (A : Option Addr) (n c : Nat) (l : List Pt) (D : Option Addr) (m d : Nat) (b : List UInt8) (w : World) (hl : l.length = n) (hU : AllU l) (hr : Rd w w.heap.size 5 A n (pcs l)) (hK8 : 0 ≤ K ∧ K ≤ 255) (hb : b.length = m) (hd : m ≤ d) (hrb : Rd w w.heap.size 1 D m (bvs b))
    (hg : 1000 < (n : Int))
    : Calls Try.prog 18 #[.agg #[.int .u8 K, .int .i64 L, .int .i64 S, .slice A n c], .slice D m d] w fun e w' => e = .returned (.bool true) ∧ Below w.heap.size w w' := by
  have hx0 := ObBox.new w K L S (.slice A n c)
  have hb0 := below_new w (.cells #[.int .u8 K, .int .i64 L, .int .i64 S, .slice A n c] 50)
  have HX0 := Lib.hid hx0
  have HB0 := Lib.hid hb0
  have HR := Lib.hid hr
  have HRB := Lib.hid hrb
  clear hx0 hb0 hr hrb
  go_enter Try.func18, Try.ntmps18
  go_wp2_with fail
  refine (alive14 _).mono ?_
  rintro e w1 ⟨rfl, b1⟩
  have hx1 := HX0.out.below b1 HX0.out.lt
  have hb1 := below_to HB0.out b1 HB0.out.size
  have hl1 := hx1.lt
  obtain ⟨d0, d1, d2, d3⟩ := hx1.cells
  have HX1 := Lib.hid hx1
  have HB1 := Lib.hid hb1
  clear hx1 hb1 b1
  go_wp2
  go_ret
  exact ⟨rfl, HB1.out⟩
set_option maxHeartbeats 2000000 in
theorem objBack_greatb (K L S : Int) (A : Option Addr) (n c : Nat) (l : List Pt) (D : Option Addr) (m d : Nat) (b : List UInt8) (w : World) (hl : l.length = n) (hU : AllU l) (hr : Rd w w.heap.size 5 A n (pcs l)) (hK8 : 0 ≤ K ∧ K ≤ 255) (hb : b.length = m) (hd : m ≤ d) (hrb : Rd w w.heap.size 1 D m (bvs b))
    (hg : decide (1000 < (n : Int)) = false)
    (hgb : 10000 < (m : Int))
    : Calls Try.prog 18 #[.agg #[.int .u8 K, .int .i64 L, .int .i64 S, .slice A n c], .slice D m d] w fun e w' => e = .returned (.bool true) ∧ Below w.heap.size w w' := by
  have hx0 := ObBox.new w K L S (.slice A n c)
  have hb0 := below_new w (.cells #[.int .u8 K, .int .i64 L, .int .i64 S, .slice A n c] 50)
  have HX0 := Lib.hid hx0
  have HB0 := Lib.hid hb0
  have HR := Lib.hid hr
  have HRB := Lib.hid hrb
  clear hx0 hb0 hr hrb
  go_enter Try.func18, Try.ntmps18
  go_wp2_with fail
  refine (alive14 _).mono ?_
  rintro e w1 ⟨rfl, b1⟩
  have hx1 := HX0.out.below b1 HX0.out.lt
  have hb1 := below_to HB0.out b1 HB0.out.size
  have hl1 := hx1.lt
  obtain ⟨d0, d1, d2, d3⟩ := hx1.cells
  have HX1 := Lib.hid hx1
  have HB1 := Lib.hid hb1
  clear hx1 hb1 b1
  go_wp2
  go_ret
  exact ⟨rfl, HB1.out⟩
set_option maxHeartbeats 2000000 in
theorem objBack_may (K L S : Int) (A : Option Addr) (n c : Nat) (l : List Pt) (D : Option Addr) (m d : Nat) (b : List UInt8) (w : World) (hl : l.length = n) (hU : AllU l) (hr : Rd w w.heap.size 5 A n (pcs l)) (hK8 : 0 ≤ K ∧ K ≤ 255) (hb : b.length = m) (hd : m ≤ d) (hrb : Rd w w.heap.size 1 D m (bvs b))
    (hg : decide (1000 < (n : Int)) = false)
    (hgb : decide (10000 < (m : Int)) = false)
    (hm : ObMay K L S l)
    : Calls Try.prog 18 #[.agg #[.int .u8 K, .int .i64 L, .int .i64 S, .slice A n c], .slice D m d] w fun e w' => e = .returned (.bool true) ∧ Below w.heap.size w w' := by
  have hx0 := ObBox.new w K L S (.slice A n c)
  have hb0 := below_new w (.cells #[.int .u8 K, .int .i64 L, .int .i64 S, .slice A n c] 50)
  have HX0 := Lib.hid hx0
  have HB0 := Lib.hid hb0
  have HR := Lib.hid hr
  have HRB := Lib.hid hrb
  clear hx0 hb0 hr hrb
  obtain ⟨hok, hk, hL, hS, hD⟩ := read_block hm hU
  have hw := fun (W : World) (h : Below w.heap.size w W) => obj_write K L S A n c l W hl hU ((HR.out.below h).more h.size) hK8 _ 0 256 rfl (obE_yes hm) (obB_len hm)
  have hrd := fun (A : Option Addr) (c : Nat) (W : World) hc hr => obj_read_may A c (obB K L S l) W hok hc hr
  rw [hk, hL, hS, hD] at hrd
  have hsm := fun (D : Option Addr) (W : World) (h : Below w.heap.size w W) hr => obj_same K L S D 15 15 l K L S A n c l W hm.2.2.2.1 (by omega) hr hl ((HR.out.below h).more h.size) true (by simp)
  have HRD := Lib.hid hrd
  have HSM := Lib.hid hsm
  clear hok hk hL hS hD hrd hsm
  have HW := Lib.hid hw
  clear hw hm
  have hr2 := fun (W : World) (h : Below w.heap.size w W) => obj_read D m d b W hb hd ((HRB.out.below h).more h.size)
  have HR2 := Lib.hid hr2
  clear hr2
  go_enter Try.func18, Try.ntmps18
  go_wp2_with fail
  refine (alive14 _).mono ?_
  rintro e w1 ⟨rfl, b1⟩
  have hx1 := HX0.out.below b1 HX0.out.lt
  have hb1 := below_to HB0.out b1 HB0.out.size
  have hl1 := hx1.lt
  obtain ⟨d0, d1, d2, d3⟩ := hx1.cells
  have HX1 := Lib.hid hx1
  have HB1 := Lib.hid hb1
  clear hx1 hb1 b1
  go_wp2_with fail
  refine (HW.out w1 HB1.out).mono ?_
  rintro e w2 ⟨D2, c2, rfl, f2, b2⟩
  have hx2 := HX1.out.below b2 hl1
  have hb2 := below_to HB1.out b2 HB1.out.size
  clear d0 d1 d2 d3 hl1
  obtain ⟨d0, d1, d2, d3⟩ := hx2.cells
  have hl2 := hx2.lt
  have hnc2 := f2.nc
  have hrd2 := f2.rd
  have HX2 := Lib.hid hx2
  have HB2 := Lib.hid hb2
  have HRD2 := Lib.hid hrd2
  clear hx2 hb2 b2 hrd2 f2
  go_wp2_with fail
  refine (HRD.out D2 c2 w2 hnc2 HRD2.out).mono ?_
  rintro e w3 ⟨D3, rfl, r3, b3⟩
  have hx3 := HX2.out.below b3 hl2
  have hb3 := below_to HB2.out b3 HB2.out.size
  have hx4 := hx3.alloc (.cells #[.int .u8 K, .int .i64 L, .int .i64 S, .slice D3 15 15] 50)
  have hy4 := ObBox.new w3 K L S (.slice D3 15 15)
  have hb4 := below_alloc hb3 (.cells #[.int .u8 K, .int .i64 L, .int .i64 S, .slice D3 15 15] 50) (Nat.le_refl _)
  have hr4 := (r3.alloc (Nat.le_refl _) (.cells #[.int .u8 K, .int .i64 L, .int .i64 S, .slice D3 15 15] 50)).more (B' := (w3.alloc (.cells #[.int .u8 K, .int .i64 L, .int .i64 S, .slice D3 15 15] 50)).heap.size) (by rw [World.size_alloc]; omega)
  clear d0 d1 d2 d3 hl2
  have hl3 := hx3.lt
  obtain ⟨d0, d1, d2, d3⟩ := hx4.cells
  obtain ⟨y0, y1, y2, y3⟩ := hy4.cells
  obtain ⟨z0, z1, z2, z3⟩ := hx3.cells
  have HX4 := Lib.hid hx4
  have HB4 := Lib.hid hb4
  have HR4 := Lib.hid hr4
  clear hx3 hb3 b3 r3 hx4 hy4 hb4 hr4
  go_wp2_with fail
  refine (HSM.out D3 _ HB4.out HR4.out).mono ?_
  rintro e w5 ⟨rfl, b5⟩
  have hb5 := below_to HB4.out b5 HB4.out.size
  clear y0 y1 y2 y3 z0 z1 z2 z3
  have HB5 := Lib.hid hb5
  clear d0 d1 d2 d3 b5 hb5
  go_wp2_with fail
  refine (HR2.out w5 HB5.out).mono ?_
  rintro e w6 ⟨⟨ok, D6, rfl, r6⟩ | ⟨no, E, hE, rfl⟩, b6⟩
  · obtain rfl : m = 256 := by have := ok.1; omega
    have hw6 := fun (W : World) hr => obj_write (byteN b 0 : Int) (byteN b 1 : Int) (numS b) D6 15 15 (rdData b) W (rdData_len b) (rdData_U b) hr (by have := (b.getD 0 0).toNat_lt; unfold byteN; omega) b 0 256 (block_back ok) (obE_yes ok.2.2.2) hb
    have HW6 := Lib.hid hw6
    have hb6 := below_to HB5.out b6 HB5.out.size
    have hy6 := ObBox.new w6 (byteN b 0 : Int) (byteN b 1 : Int) (numS b) (.slice D6 15 15)
    have hb7 := below_alloc hb6 (.cells #[.int .u8 (byteN b 0 : Int), .int .i64 (byteN b 1 : Int), .int .i64 (numS b), .slice D6 15 15] 50) (Nat.le_refl _)
    have hr7 := (r6.alloc (Nat.le_refl _) (.cells #[.int .u8 (byteN b 0 : Int), .int .i64 (byteN b 1 : Int), .int .i64 (numS b), .slice D6 15 15] 50)).more (B' := (w6.alloc (.cells #[.int .u8 (byteN b 0 : Int), .int .i64 (byteN b 1 : Int), .int .i64 (numS b), .slice D6 15 15] 50)).heap.size) (by rw [World.size_alloc]; omega)
    obtain ⟨y0, y1, y2, y3⟩ := hy6.cells
    have HY6 := Lib.hid hy6
    have HB7 := Lib.hid hb7
    have HR7 := Lib.hid hr7
    clear hw6 hb6 hy6 hb7 hr7 b6 r6 ok
    go_wp2_with fail
    refine (HW6.out _ HR7.out).mono ?_
    rintro e w8 ⟨D8, c8, rfl, f8, b8⟩
    have hb8 := below_to HB7.out b8 HB7.out.size
    have hy8 := HY6.out.below b8 HY6.out.lt
    have k1 := conv f8.rd c8
    have k2 := conv ((HRB.out.below hb8)) d
    clear y0 y1 y2 y3
    obtain ⟨y0, y1, y2, y3⟩ := hy8.cells
    have HB8 := Lib.hid hb8
    clear hb8 b8 f8 hy8
    go_wp2
    go_ret
    exact ⟨rfl, HB8.out⟩
  · have hE0 : (E != 0) = true := by rcases hE with rfl | rfl <;> rfl
    have hb6 := below_to HB5.out b6 HB5.out.size
    have hy6 := ObBox.new w6 0 0 0 (.slice none 0 0)
    have hb7 := below_alloc hb6 (.cells #[.int .u8 0, .int .i64 0, .int .i64 0, .slice none 0 0] 50) (Nat.le_refl _)
    obtain ⟨y0, y1, y2, y3⟩ := hy6.cells
    have HB7 := Lib.hid hb7
    clear hb6 hy6 hb7 b6 hE
    go_wp2
    go_ret
    exact ⟨rfl, HB7.out⟩
set_option maxHeartbeats 2000000 in
theorem objBack_not (K L S : Int) (A : Option Addr) (n c : Nat) (l : List Pt) (D : Option Addr) (m d : Nat) (b : List UInt8) (w : World) (hl : l.length = n) (hU : AllU l) (hr : Rd w w.heap.size 5 A n (pcs l)) (hK8 : 0 ≤ K ∧ K ≤ 255) (hb : b.length = m) (hd : m ≤ d) (hrb : Rd w w.heap.size 1 D m (bvs b))
    (hg : decide (1000 < (n : Int)) = false)
    (hgb : decide (10000 < (m : Int)) = false)
    (hm : ¬ ObMay K L S l)
    : Calls Try.prog 18 #[.agg #[.int .u8 K, .int .i64 L, .int .i64 S, .slice A n c], .slice D m d] w fun e w' => e = .returned (.bool true) ∧ Below w.heap.size w w' := by
  have hx0 := ObBox.new w K L S (.slice A n c)
  have hb0 := below_new w (.cells #[.int .u8 K, .int .i64 L, .int .i64 S, .slice A n c] 50)
  have HX0 := Lib.hid hx0
  have HB0 := Lib.hid hb0
  have HR := Lib.hid hr
  have HRB := Lib.hid hrb
  clear hx0 hb0 hr hrb
  have hw := fun (W : World) (h : Below w.heap.size w W) => obj_write K L S A n c l W hl hU ((HR.out.below h).more h.size) hK8 [] 8 0 (obB_no hm) (obE_no hm) rfl
  have hck := fun (W : World) (h : Below w.heap.size w W) => obj_check K L S A n c l W hl ((HR.out.below h).more h.size) hK8 8 (obE_no hm)
  have HCK := Lib.hid hck
  clear hck
  have HW := Lib.hid hw
  clear hw hm
  have hr2 := fun (W : World) (h : Below w.heap.size w W) => obj_read D m d b W hb hd ((HRB.out.below h).more h.size)
  have HR2 := Lib.hid hr2
  clear hr2
  go_enter Try.func18, Try.ntmps18
  go_wp2_with fail
  refine (alive14 _).mono ?_
  rintro e w1 ⟨rfl, b1⟩
  have hx1 := HX0.out.below b1 HX0.out.lt
  have hb1 := below_to HB0.out b1 HB0.out.size
  have hl1 := hx1.lt
  obtain ⟨d0, d1, d2, d3⟩ := hx1.cells
  have HX1 := Lib.hid hx1
  have HB1 := Lib.hid hb1
  clear hx1 hb1 b1
  go_wp2_with fail
  refine (HW.out w1 HB1.out).mono ?_
  rintro e w2 ⟨D2, c2, rfl, f2, b2⟩
  have hx2 := HX1.out.below b2 hl1
  have hb2 := below_to HB1.out b2 HB1.out.size
  clear d0 d1 d2 d3 hl1
  obtain ⟨d0, d1, d2, d3⟩ := hx2.cells
  have hl2 := hx2.lt
  have hnc2 := f2.nc
  have hrd2 := f2.rd
  have HX2 := Lib.hid hx2
  have HB2 := Lib.hid hb2
  have HRD2 := Lib.hid hrd2
  clear hx2 hb2 b2 hrd2 f2
  go_wp2_with fail
  refine (HCK.out w2 HB2.out).mono ?_
  rintro e w5 ⟨rfl, b5⟩
  have hb5 := below_to HB2.out b5 HB2.out.size
  have HB5 := Lib.hid hb5
  clear d0 d1 d2 d3 b5 hb5
  go_wp2_with fail
  refine (HR2.out w5 HB5.out).mono ?_
  rintro e w6 ⟨⟨ok, D6, rfl, r6⟩ | ⟨no, E, hE, rfl⟩, b6⟩
  · obtain rfl : m = 256 := by have := ok.1; omega
    have hw6 := fun (W : World) hr => obj_write (byteN b 0 : Int) (byteN b 1 : Int) (numS b) D6 15 15 (rdData b) W (rdData_len b) (rdData_U b) hr (by have := (b.getD 0 0).toNat_lt; unfold byteN; omega) b 0 256 (block_back ok) (obE_yes ok.2.2.2) hb
    have HW6 := Lib.hid hw6
    have hb6 := below_to HB5.out b6 HB5.out.size
    have hy6 := ObBox.new w6 (byteN b 0 : Int) (byteN b 1 : Int) (numS b) (.slice D6 15 15)
    have hb7 := below_alloc hb6 (.cells #[.int .u8 (byteN b 0 : Int), .int .i64 (byteN b 1 : Int), .int .i64 (numS b), .slice D6 15 15] 50) (Nat.le_refl _)
    have hr7 := (r6.alloc (Nat.le_refl _) (.cells #[.int .u8 (byteN b 0 : Int), .int .i64 (byteN b 1 : Int), .int .i64 (numS b), .slice D6 15 15] 50)).more (B' := (w6.alloc (.cells #[.int .u8 (byteN b 0 : Int), .int .i64 (byteN b 1 : Int), .int .i64 (numS b), .slice D6 15 15] 50)).heap.size) (by rw [World.size_alloc]; omega)
    obtain ⟨y0, y1, y2, y3⟩ := hy6.cells
    have HY6 := Lib.hid hy6
    have HB7 := Lib.hid hb7
    have HR7 := Lib.hid hr7
    clear hw6 hb6 hy6 hb7 hr7 b6 r6 ok
    go_wp2_with fail
    refine (HW6.out _ HR7.out).mono ?_
    rintro e w8 ⟨D8, c8, rfl, f8, b8⟩
    have hb8 := below_to HB7.out b8 HB7.out.size
    have hy8 := HY6.out.below b8 HY6.out.lt
    have k1 := conv f8.rd c8
    have k2 := conv ((HRB.out.below hb8)) d
    clear y0 y1 y2 y3
    obtain ⟨y0, y1, y2, y3⟩ := hy8.cells
    have HB8 := Lib.hid hb8
    clear hb8 b8 f8 hy8
    go_wp2
    go_ret
    exact ⟨rfl, HB8.out⟩
  · have hE0 : (E != 0) = true := by rcases hE with rfl | rfl <;> rfl
    have hb6 := below_to HB5.out b6 HB5.out.size
    have hy6 := ObBox.new w6 0 0 0 (.slice none 0 0)
    have hb7 := below_alloc hb6 (.cells #[.int .u8 0, .int .i64 0, .int .i64 0, .slice none 0 0] 50) (Nat.le_refl _)
    obtain ⟨y0, y1, y2, y3⟩ := hy6.cells
    have HB7 := Lib.hid hb7
    clear hb6 hy6 hb7 b6 hE
    go_wp2
    go_ret
    exact ⟨rfl, HB7.out⟩
theorem objBack_walk (K L S : Int) (A : Option Addr) (n c : Nat) (l : List Pt) (D : Option Addr) (m d : Nat) (b : List UInt8) (w : World) (hl : l.length = n) (hU : AllU l) (hr : Rd w w.heap.size 5 A n (pcs l)) (hK8 : 0 ≤ K ∧ K ≤ 255) (hb : b.length = m) (hd : m ≤ d) (hrb : Rd w w.heap.size 1 D m (bvs b)) :
    Calls Try.prog 18 #[.agg #[.int .u8 K, .int .i64 L, .int .i64 S, .slice A n c], .slice D m d] w fun e w' => e = .returned (.bool true) ∧ Below w.heap.size w w' := by
  by_cases hg : 1000 < (n : Int)
  · exact objBack_great K L S A n c l D m d b w hl hU hr hK8 hb hd hrb hg
  · by_cases hgb : 10000 < (m : Int)
    · exact objBack_greatb K L S A n c l D m d b w hl hU hr hK8 hb hd hrb (by simp; omega) hgb
    · by_cases hm : ObMay K L S l
      · exact objBack_may K L S A n c l D m d b w hl hU hr hK8 hb hd hrb (by simp; omega) (by simp; omega) hm
      · exact objBack_not K L S A n c l D m d b w hl hU hr hK8 hb hd hrb (by simp; omega) (by simp; omega) hm
end Go.Proofs.Ytgcagenhfddpgaa
