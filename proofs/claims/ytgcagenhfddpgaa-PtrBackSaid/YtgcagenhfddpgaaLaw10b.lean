/-
  The walk of PtrBack.
-/
import Derived.Test.YtgcagenhfddpgaaPtrR
import Derived.Test.YtgcagenhfddpgaaLaw10
namespace Go.Proofs.Ytgcagenhfddpgaa
open Go.RowKit
set_option linter.unusedVariables false
set_option maxRecDepth 100000
attribute [local go_sem] str_toList toList_mk

set_option maxHeartbeats 1000000 in
theorem ptrBack_m_great (p : Pt) (hu : p.U) (A : Option Addr) (n c : Nat) (l : List UInt8) (w : World) (hl : l.length = n) (hc : n ≤ c) (hr : Rd w w.heap.size 1 A n (bvs l))
    (hm : p.May)
    (hg : 10000 < (n : Int))
    : Calls Try.prog 10 #[.agg #[.int .i64 p.a, .int .u32 p.b, .int .u32 p.i, .int .u32 p.t, .int .u32 p.s], .slice A n c] w fun e w' => e = .returned (.bool true) ∧ Below w.heap.size w w' := by
  have hWp := fun W => ptr_writeX p hm hu W
  have hRp := fun (A : Option Addr) (c : Nat) (W : World) hc hr => ptr_readX A 16 c p.bytes W p.bytes_len hc hr p 0 (read_bytes hm hu).2 (read_bytes hm hu).1
  have hqq := run_pt_ne p p true p.eq_self
  have HRP := Lib.hid hRp
  clear hRp
  have HWP := Lib.hid hWp
  have HR := Lib.hid hr
  clear hWp hr hm hu
  have hx0 := PtBox.new w p
  have hb0 := below_new w (.cells #[.int .i64 p.a, .int .u32 p.b, .int .u32 p.i, .int .u32 p.t, .int .u32 p.s] 31)
  have HX0 := Lib.hid hx0
  have HB0 := Lib.hid hb0
  clear hx0 hb0
  go_enter Try.func10, Try.ntmps10
  go_wp2_with fail
  refine (alive10 _).mono ?_
  rintro e w1 ⟨rfl, b1⟩
  have x1 := HX0.out.below b1 HX0.out.lt
  have B1 := below_to HB0.out b1 HB0.out.size
  obtain ⟨p0, p1, p2, p3, p4⟩ := x1.cells
  go_wp2_with fail
  refine (HWP.out w1).mono ?_
  rintro e w2 ⟨A2, c2, rfl, f2, b2⟩
  have x2 := x1.below b2 x1.lt
  have B2 := below_to B1 b2 B1.size
  clear p0 p1 p2 p3 p4
  obtain ⟨p0, p1, p2, p3, p4⟩ := x2.cells
  have hz2 := b2.size
  go_wp2_with fail
  refine (HRP.out A2 c2 w2 f2.nc f2.rd).mono ?_
  rintro e w3 ⟨rfl, b3⟩
  have x3 := x2.below b3 x2.lt
  have B3 := below_to B2 b3 B2.size
  clear p0 p1 p2 p3 p4
  have hb4 := below_alloc B3 (.cells #[.int .i64 p.a, .int .u32 p.b, .int .u32 p.i, .int .u32 p.t, .int .u32 p.s] 31) (Nat.le_refl _)
  obtain ⟨p0, p1, p2, p3, p4⟩ := x3.cells
  have HB4 := Lib.hid hb4
  have hlt3 := x3.lt
  clear hb4 b1 b2 b3 B1 B2 B3 x1 x2 x3 hz2
  clear f2
  go_wp2
  go_ret
  exact ⟨rfl, HB4.out⟩
set_option maxHeartbeats 1000000 in
theorem ptrBack_m_ok (p : Pt) (hu : p.U) (A : Option Addr) (n c : Nat) (l : List UInt8) (w : World) (hl : l.length = n) (hc : n ≤ c) (hr : Rd w w.heap.size 1 A n (bvs l))
    (hm : p.May)
    (hg : ¬ 10000 < (n : Int)) (he : readE l = 0)
    : Calls Try.prog 10 #[.agg #[.int .i64 p.a, .int .u32 p.b, .int .u32 p.i, .int .u32 p.t, .int .u32 p.s], .slice A n c] w fun e w' => e = .returned (.bool true) ∧ Below w.heap.size w w' := by
  obtain ⟨h16, hqm, hqe⟩ := readE_ok he
  have hqb : (rd16 l).bytes = l := bytes_rd16 h16
  have hRd := fun W (h : Below w.heap.size w W) => ptr_readX A n c l W hl hc ((hr.below h).more h.size) (rd16 l) 0 hqe he
  have hWr := fun W => ptr_writeX (rd16 l) hqm (rd16_U l) W
  rw [hqb] at hWr
  have HRD := Lib.hid hRd
  have HWR := Lib.hid hWr
  clear hRd hWr he h16 hqm hqe hqb
  generalize rd16 l = q at *
  have hWp := fun W => ptr_writeX p hm hu W
  have hRp := fun (A : Option Addr) (c : Nat) (W : World) hc hr => ptr_readX A 16 c p.bytes W p.bytes_len hc hr p 0 (read_bytes hm hu).2 (read_bytes hm hu).1
  have hqq := run_pt_ne p p true p.eq_self
  have HRP := Lib.hid hRp
  clear hRp
  have HWP := Lib.hid hWp
  have HR := Lib.hid hr
  clear hWp hr hm hu
  have hx0 := PtBox.new w p
  have hb0 := below_new w (.cells #[.int .i64 p.a, .int .u32 p.b, .int .u32 p.i, .int .u32 p.t, .int .u32 p.s] 31)
  have HX0 := Lib.hid hx0
  have HB0 := Lib.hid hb0
  clear hx0 hb0
  go_enter Try.func10, Try.ntmps10
  go_wp2_with fail
  refine (alive10 _).mono ?_
  rintro e w1 ⟨rfl, b1⟩
  have x1 := HX0.out.below b1 HX0.out.lt
  have B1 := below_to HB0.out b1 HB0.out.size
  obtain ⟨p0, p1, p2, p3, p4⟩ := x1.cells
  go_wp2_with fail
  refine (HWP.out w1).mono ?_
  rintro e w2 ⟨A2, c2, rfl, f2, b2⟩
  have x2 := x1.below b2 x1.lt
  have B2 := below_to B1 b2 B1.size
  clear p0 p1 p2 p3 p4
  obtain ⟨p0, p1, p2, p3, p4⟩ := x2.cells
  have hz2 := b2.size
  go_wp2_with fail
  refine (HRP.out A2 c2 w2 f2.nc f2.rd).mono ?_
  rintro e w3 ⟨rfl, b3⟩
  have x3 := x2.below b3 x2.lt
  have B3 := below_to B2 b3 B2.size
  clear p0 p1 p2 p3 p4
  have hb4 := below_alloc B3 (.cells #[.int .i64 p.a, .int .u32 p.b, .int .u32 p.i, .int .u32 p.t, .int .u32 p.s] 31) (Nat.le_refl _)
  obtain ⟨p0, p1, p2, p3, p4⟩ := x3.cells
  have HB4 := Lib.hid hb4
  have hlt3 := x3.lt
  clear hb4 b1 b2 b3 B1 B2 B3 x1 x2 x3 hz2
  clear f2
  go_wp2_with fail
  refine (HRD.out _ HB4.out).mono ?_
  rintro e w4 ⟨rfl, b4⟩
  have B4 := below_to HB4.out b4 HB4.out.size
  have B5 := below_alloc B4 (.cells #[.int .i64 q.a, .int .u32 q.b, .int .u32 q.i, .int .u32 q.t, .int .u32 q.s] 31) (Nat.le_refl _)
  have HB5 := Lib.hid B5
  clear B5 B4 b4 p0 p1 p2 p3 p4
  go_wp2_with fail
  refine (HWR.out _).mono ?_
  rintro e w6 ⟨A6, c6, rfl, f6, b6⟩
  have B6 := below_to HB5.out b6 HB5.out.size
  have k1 := conv f6.rd c6
  have k2 := conv (HR.out.below B6) c
  clear f6 b6
  go_wp2
  go_ret
  exact ⟨rfl, B6⟩
set_option maxHeartbeats 1000000 in
theorem ptrBack_m_b16 (p : Pt) (hu : p.U) (A : Option Addr) (n c : Nat) (l : List UInt8) (w : World) (hl : l.length = n) (hc : n ≤ c) (hr : Rd w w.heap.size 1 A n (bvs l))
    (hm : p.May)
    (hg : (n : Int) = 16) (he : ¬ readE l = 0)
    : Calls Try.prog 10 #[.agg #[.int .i64 p.a, .int .u32 p.b, .int .u32 p.i, .int .u32 p.t, .int .u32 p.s], .slice A n c] w fun e w' => e = .returned (.bool true) ∧ Below w.heap.size w w' := by
  obtain rfl : n = 16 := by omega
  have hE : readE l = 8 := by
    unfold readE at he ⊢
    rw [if_neg (not_not_intro hl)] at he ⊢
    unfold Pt.chk at he ⊢
    split at he
    · exact absurd rfl he
    · rename_i hh; rw [if_neg hh]
  have hP : readP l = Pt.zero := readP_err (by rw [hE]; omega)
  have hqz : ∀ W, (binOp .eql 31 (.agg #[.int .i64 Pt.zero.a, .int .u32 Pt.zero.b, .int .u32 Pt.zero.i, .int .u32 Pt.zero.t, .int .u32 Pt.zero.s]) (.agg #[.int .i64 0, .int .u32 0, .int .u32 0, .int .u32 0, .int .u32 0])).run Try.prog W = .ok (.bool true) W := run_pt_eq Pt.zero Pt.zero true (Pt.eq_self _)
  have hRd := fun W (h : Below w.heap.size w W) => ptr_readX A 16 c l W hl hc ((hr.below h).more h.size) Pt.zero _ hP hE
  have HRD := Lib.hid hRd
  clear hRd hP hE
  clear he
  have hWp := fun W => ptr_writeX p hm hu W
  have hRp := fun (A : Option Addr) (c : Nat) (W : World) hc hr => ptr_readX A 16 c p.bytes W p.bytes_len hc hr p 0 (read_bytes hm hu).2 (read_bytes hm hu).1
  have hqq := run_pt_ne p p true p.eq_self
  have HRP := Lib.hid hRp
  clear hRp
  have HWP := Lib.hid hWp
  have HR := Lib.hid hr
  clear hWp hr hm hu
  have hx0 := PtBox.new w p
  have hb0 := below_new w (.cells #[.int .i64 p.a, .int .u32 p.b, .int .u32 p.i, .int .u32 p.t, .int .u32 p.s] 31)
  have HX0 := Lib.hid hx0
  have HB0 := Lib.hid hb0
  clear hx0 hb0
  go_enter Try.func10, Try.ntmps10
  go_wp2_with fail
  refine (alive10 _).mono ?_
  rintro e w1 ⟨rfl, b1⟩
  have x1 := HX0.out.below b1 HX0.out.lt
  have B1 := below_to HB0.out b1 HB0.out.size
  obtain ⟨p0, p1, p2, p3, p4⟩ := x1.cells
  go_wp2_with fail
  refine (HWP.out w1).mono ?_
  rintro e w2 ⟨A2, c2, rfl, f2, b2⟩
  have x2 := x1.below b2 x1.lt
  have B2 := below_to B1 b2 B1.size
  clear p0 p1 p2 p3 p4
  obtain ⟨p0, p1, p2, p3, p4⟩ := x2.cells
  have hz2 := b2.size
  go_wp2_with fail
  refine (HRP.out A2 c2 w2 f2.nc f2.rd).mono ?_
  rintro e w3 ⟨rfl, b3⟩
  have x3 := x2.below b3 x2.lt
  have B3 := below_to B2 b3 B2.size
  clear p0 p1 p2 p3 p4
  have hb4 := below_alloc B3 (.cells #[.int .i64 p.a, .int .u32 p.b, .int .u32 p.i, .int .u32 p.t, .int .u32 p.s] 31) (Nat.le_refl _)
  obtain ⟨p0, p1, p2, p3, p4⟩ := x3.cells
  have HB4 := Lib.hid hb4
  have hlt3 := x3.lt
  clear hb4 b1 b2 b3 B1 B2 B3 x1 x2 x3 hz2
  clear f2
  go_wp2_with fail
  refine (HRD.out _ HB4.out).mono ?_
  rintro e w4 ⟨rfl, b4⟩
  have B4 := below_to HB4.out b4 HB4.out.size
  have B5 := below_alloc B4 (.cells #[.int .i64 0, .int .u32 0, .int .u32 0, .int .u32 0, .int .u32 0] 31) (Nat.le_refl _)
  have HB5 := Lib.hid B5
  clear B5 B4 b4 p0 p1 p2 p3 p4
  go_wp2
  go_ret
  exact ⟨rfl, HB5.out⟩
set_option maxHeartbeats 1000000 in
theorem ptrBack_m_blen (p : Pt) (hu : p.U) (A : Option Addr) (n c : Nat) (l : List UInt8) (w : World) (hl : l.length = n) (hc : n ≤ c) (hr : Rd w w.heap.size 1 A n (bvs l))
    (hm : p.May)
    (hg : ¬ 10000 < (n : Int)) (hne : ((n : Int) != 16) = true) (hE : readE l = 3)
    : Calls Try.prog 10 #[.agg #[.int .i64 p.a, .int .u32 p.b, .int .u32 p.i, .int .u32 p.t, .int .u32 p.s], .slice A n c] w fun e w' => e = .returned (.bool true) ∧ Below w.heap.size w w' := by
  have hP : readP l = Pt.zero := readP_err (by rw [hE]; omega)
  have hqz : ∀ W, (binOp .eql 31 (.agg #[.int .i64 Pt.zero.a, .int .u32 Pt.zero.b, .int .u32 Pt.zero.i, .int .u32 Pt.zero.t, .int .u32 Pt.zero.s]) (.agg #[.int .i64 0, .int .u32 0, .int .u32 0, .int .u32 0, .int .u32 0])).run Try.prog W = .ok (.bool true) W := run_pt_eq Pt.zero Pt.zero true (Pt.eq_self _)
  have hRd := fun W (h : Below w.heap.size w W) => ptr_readX A n c l W hl hc ((hr.below h).more h.size) Pt.zero _ hP hE
  have HRD := Lib.hid hRd
  clear hRd hP hE
  have hWp := fun W => ptr_writeX p hm hu W
  have hRp := fun (A : Option Addr) (c : Nat) (W : World) hc hr => ptr_readX A 16 c p.bytes W p.bytes_len hc hr p 0 (read_bytes hm hu).2 (read_bytes hm hu).1
  have hqq := run_pt_ne p p true p.eq_self
  have HRP := Lib.hid hRp
  clear hRp
  have HWP := Lib.hid hWp
  have HR := Lib.hid hr
  clear hWp hr hm hu
  have hx0 := PtBox.new w p
  have hb0 := below_new w (.cells #[.int .i64 p.a, .int .u32 p.b, .int .u32 p.i, .int .u32 p.t, .int .u32 p.s] 31)
  have HX0 := Lib.hid hx0
  have HB0 := Lib.hid hb0
  clear hx0 hb0
  go_enter Try.func10, Try.ntmps10
  go_wp2_with fail
  refine (alive10 _).mono ?_
  rintro e w1 ⟨rfl, b1⟩
  have x1 := HX0.out.below b1 HX0.out.lt
  have B1 := below_to HB0.out b1 HB0.out.size
  obtain ⟨p0, p1, p2, p3, p4⟩ := x1.cells
  go_wp2_with fail
  refine (HWP.out w1).mono ?_
  rintro e w2 ⟨A2, c2, rfl, f2, b2⟩
  have x2 := x1.below b2 x1.lt
  have B2 := below_to B1 b2 B1.size
  clear p0 p1 p2 p3 p4
  obtain ⟨p0, p1, p2, p3, p4⟩ := x2.cells
  have hz2 := b2.size
  go_wp2_with fail
  refine (HRP.out A2 c2 w2 f2.nc f2.rd).mono ?_
  rintro e w3 ⟨rfl, b3⟩
  have x3 := x2.below b3 x2.lt
  have B3 := below_to B2 b3 B2.size
  clear p0 p1 p2 p3 p4
  have hb4 := below_alloc B3 (.cells #[.int .i64 p.a, .int .u32 p.b, .int .u32 p.i, .int .u32 p.t, .int .u32 p.s] 31) (Nat.le_refl _)
  obtain ⟨p0, p1, p2, p3, p4⟩ := x3.cells
  have HB4 := Lib.hid hb4
  have hlt3 := x3.lt
  clear hb4 b1 b2 b3 B1 B2 B3 x1 x2 x3 hz2
  clear f2
  go_wp2_with fail
  refine (HRD.out _ HB4.out).mono ?_
  rintro e w4 ⟨rfl, b4⟩
  have B4 := below_to HB4.out b4 HB4.out.size
  have B5 := below_alloc B4 (.cells #[.int .i64 0, .int .u32 0, .int .u32 0, .int .u32 0, .int .u32 0] 31) (Nat.le_refl _)
  have HB5 := Lib.hid B5
  clear B5 B4 b4 p0 p1 p2 p3 p4
  go_wp2
  go_ret
  exact ⟨rfl, HB5.out⟩
set_option maxHeartbeats 1000000 in
theorem ptrBack_b_great (p : Pt) (hu : p.U) (A : Option Addr) (n c : Nat) (l : List UInt8) (w : World) (hl : l.length = n) (hc : n ≤ c) (hr : Rd w w.heap.size 1 A n (bvs l))
    (hm : ¬ p.May)
    (hg : 10000 < (n : Int))
    : Calls Try.prog 10 #[.agg #[.int .i64 p.a, .int .u32 p.b, .int .u32 p.i, .int .u32 p.t, .int .u32 p.s], .slice A n c] w fun e w' => e = .returned (.bool true) ∧ Below w.heap.size w w' := by
  have hWp := fun W => ptr_writeBad p hm W
  have hCp := fun W => ptr_checkX p 8 (Pt.chk_bad hm) W
  have HCP := Lib.hid hCp
  clear hCp
  have HWP := Lib.hid hWp
  have HR := Lib.hid hr
  clear hWp hr hm hu
  have hx0 := PtBox.new w p
  have hb0 := below_new w (.cells #[.int .i64 p.a, .int .u32 p.b, .int .u32 p.i, .int .u32 p.t, .int .u32 p.s] 31)
  have HX0 := Lib.hid hx0
  have HB0 := Lib.hid hb0
  clear hx0 hb0
  go_enter Try.func10, Try.ntmps10
  go_wp2_with fail
  refine (alive10 _).mono ?_
  rintro e w1 ⟨rfl, b1⟩
  have x1 := HX0.out.below b1 HX0.out.lt
  have B1 := below_to HB0.out b1 HB0.out.size
  obtain ⟨p0, p1, p2, p3, p4⟩ := x1.cells
  go_wp2_with fail
  refine (HWP.out w1).mono ?_
  rintro e w2 ⟨rfl, b2⟩
  have x2 := x1.below b2 x1.lt
  have B2 := below_to B1 b2 B1.size
  clear p0 p1 p2 p3 p4
  obtain ⟨p0, p1, p2, p3, p4⟩ := x2.cells
  have hz2 := b2.size
  go_wp2_with fail
  refine (HCP.out w2).mono ?_
  rintro e w3 ⟨rfl, b3⟩
  have x3 := x2.below b3 x2.lt
  have B3 := below_to B2 b3 B2.size
  clear p0 p1 p2 p3 p4
  have hb4 := B3
  obtain ⟨p0, p1, p2, p3, p4⟩ := x3.cells
  have HB4 := Lib.hid hb4
  have hlt3 := x3.lt
  clear hb4 b1 b2 b3 B1 B2 B3 x1 x2 x3 hz2
  go_wp2
  go_ret
  exact ⟨rfl, HB4.out⟩
set_option maxHeartbeats 1000000 in
theorem ptrBack_b_ok (p : Pt) (hu : p.U) (A : Option Addr) (n c : Nat) (l : List UInt8) (w : World) (hl : l.length = n) (hc : n ≤ c) (hr : Rd w w.heap.size 1 A n (bvs l))
    (hm : ¬ p.May)
    (hg : ¬ 10000 < (n : Int)) (he : readE l = 0)
    : Calls Try.prog 10 #[.agg #[.int .i64 p.a, .int .u32 p.b, .int .u32 p.i, .int .u32 p.t, .int .u32 p.s], .slice A n c] w fun e w' => e = .returned (.bool true) ∧ Below w.heap.size w w' := by
  obtain ⟨h16, hqm, hqe⟩ := readE_ok he
  have hqb : (rd16 l).bytes = l := bytes_rd16 h16
  have hRd := fun W (h : Below w.heap.size w W) => ptr_readX A n c l W hl hc ((hr.below h).more h.size) (rd16 l) 0 hqe he
  have hWr := fun W => ptr_writeX (rd16 l) hqm (rd16_U l) W
  rw [hqb] at hWr
  have HRD := Lib.hid hRd
  have HWR := Lib.hid hWr
  clear hRd hWr he h16 hqm hqe hqb
  generalize rd16 l = q at *
  have hWp := fun W => ptr_writeBad p hm W
  have hCp := fun W => ptr_checkX p 8 (Pt.chk_bad hm) W
  have HCP := Lib.hid hCp
  clear hCp
  have HWP := Lib.hid hWp
  have HR := Lib.hid hr
  clear hWp hr hm hu
  have hx0 := PtBox.new w p
  have hb0 := below_new w (.cells #[.int .i64 p.a, .int .u32 p.b, .int .u32 p.i, .int .u32 p.t, .int .u32 p.s] 31)
  have HX0 := Lib.hid hx0
  have HB0 := Lib.hid hb0
  clear hx0 hb0
  go_enter Try.func10, Try.ntmps10
  go_wp2_with fail
  refine (alive10 _).mono ?_
  rintro e w1 ⟨rfl, b1⟩
  have x1 := HX0.out.below b1 HX0.out.lt
  have B1 := below_to HB0.out b1 HB0.out.size
  obtain ⟨p0, p1, p2, p3, p4⟩ := x1.cells
  go_wp2_with fail
  refine (HWP.out w1).mono ?_
  rintro e w2 ⟨rfl, b2⟩
  have x2 := x1.below b2 x1.lt
  have B2 := below_to B1 b2 B1.size
  clear p0 p1 p2 p3 p4
  obtain ⟨p0, p1, p2, p3, p4⟩ := x2.cells
  have hz2 := b2.size
  go_wp2_with fail
  refine (HCP.out w2).mono ?_
  rintro e w3 ⟨rfl, b3⟩
  have x3 := x2.below b3 x2.lt
  have B3 := below_to B2 b3 B2.size
  clear p0 p1 p2 p3 p4
  have hb4 := B3
  obtain ⟨p0, p1, p2, p3, p4⟩ := x3.cells
  have HB4 := Lib.hid hb4
  have hlt3 := x3.lt
  clear hb4 b1 b2 b3 B1 B2 B3 x1 x2 x3 hz2
  go_wp2_with fail
  refine (HRD.out _ HB4.out).mono ?_
  rintro e w4 ⟨rfl, b4⟩
  have B4 := below_to HB4.out b4 HB4.out.size
  have B5 := below_alloc B4 (.cells #[.int .i64 q.a, .int .u32 q.b, .int .u32 q.i, .int .u32 q.t, .int .u32 q.s] 31) (Nat.le_refl _)
  have HB5 := Lib.hid B5
  clear B5 B4 b4 p0 p1 p2 p3 p4
  go_wp2_with fail
  refine (HWR.out _).mono ?_
  rintro e w6 ⟨A6, c6, rfl, f6, b6⟩
  have B6 := below_to HB5.out b6 HB5.out.size
  have k1 := conv f6.rd c6
  have k2 := conv (HR.out.below B6) c
  clear f6 b6
  go_wp2
  go_ret
  exact ⟨rfl, B6⟩
set_option maxHeartbeats 1000000 in
theorem ptrBack_b_b16 (p : Pt) (hu : p.U) (A : Option Addr) (n c : Nat) (l : List UInt8) (w : World) (hl : l.length = n) (hc : n ≤ c) (hr : Rd w w.heap.size 1 A n (bvs l))
    (hm : ¬ p.May)
    (hg : (n : Int) = 16) (he : ¬ readE l = 0)
    : Calls Try.prog 10 #[.agg #[.int .i64 p.a, .int .u32 p.b, .int .u32 p.i, .int .u32 p.t, .int .u32 p.s], .slice A n c] w fun e w' => e = .returned (.bool true) ∧ Below w.heap.size w w' := by
  obtain rfl : n = 16 := by omega
  have hE : readE l = 8 := by
    unfold readE at he ⊢
    rw [if_neg (not_not_intro hl)] at he ⊢
    unfold Pt.chk at he ⊢
    split at he
    · exact absurd rfl he
    · rename_i hh; rw [if_neg hh]
  have hP : readP l = Pt.zero := readP_err (by rw [hE]; omega)
  have hqz : ∀ W, (binOp .eql 31 (.agg #[.int .i64 Pt.zero.a, .int .u32 Pt.zero.b, .int .u32 Pt.zero.i, .int .u32 Pt.zero.t, .int .u32 Pt.zero.s]) (.agg #[.int .i64 0, .int .u32 0, .int .u32 0, .int .u32 0, .int .u32 0])).run Try.prog W = .ok (.bool true) W := run_pt_eq Pt.zero Pt.zero true (Pt.eq_self _)
  have hRd := fun W (h : Below w.heap.size w W) => ptr_readX A 16 c l W hl hc ((hr.below h).more h.size) Pt.zero _ hP hE
  have HRD := Lib.hid hRd
  clear hRd hP hE
  clear he
  have hWp := fun W => ptr_writeBad p hm W
  have hCp := fun W => ptr_checkX p 8 (Pt.chk_bad hm) W
  have HCP := Lib.hid hCp
  clear hCp
  have HWP := Lib.hid hWp
  have HR := Lib.hid hr
  clear hWp hr hm hu
  have hx0 := PtBox.new w p
  have hb0 := below_new w (.cells #[.int .i64 p.a, .int .u32 p.b, .int .u32 p.i, .int .u32 p.t, .int .u32 p.s] 31)
  have HX0 := Lib.hid hx0
  have HB0 := Lib.hid hb0
  clear hx0 hb0
  go_enter Try.func10, Try.ntmps10
  go_wp2_with fail
  refine (alive10 _).mono ?_
  rintro e w1 ⟨rfl, b1⟩
  have x1 := HX0.out.below b1 HX0.out.lt
  have B1 := below_to HB0.out b1 HB0.out.size
  obtain ⟨p0, p1, p2, p3, p4⟩ := x1.cells
  go_wp2_with fail
  refine (HWP.out w1).mono ?_
  rintro e w2 ⟨rfl, b2⟩
  have x2 := x1.below b2 x1.lt
  have B2 := below_to B1 b2 B1.size
  clear p0 p1 p2 p3 p4
  obtain ⟨p0, p1, p2, p3, p4⟩ := x2.cells
  have hz2 := b2.size
  go_wp2_with fail
  refine (HCP.out w2).mono ?_
  rintro e w3 ⟨rfl, b3⟩
  have x3 := x2.below b3 x2.lt
  have B3 := below_to B2 b3 B2.size
  clear p0 p1 p2 p3 p4
  have hb4 := B3
  obtain ⟨p0, p1, p2, p3, p4⟩ := x3.cells
  have HB4 := Lib.hid hb4
  have hlt3 := x3.lt
  clear hb4 b1 b2 b3 B1 B2 B3 x1 x2 x3 hz2
  go_wp2_with fail
  refine (HRD.out _ HB4.out).mono ?_
  rintro e w4 ⟨rfl, b4⟩
  have B4 := below_to HB4.out b4 HB4.out.size
  have B5 := below_alloc B4 (.cells #[.int .i64 0, .int .u32 0, .int .u32 0, .int .u32 0, .int .u32 0] 31) (Nat.le_refl _)
  have HB5 := Lib.hid B5
  clear B5 B4 b4 p0 p1 p2 p3 p4
  go_wp2
  go_ret
  exact ⟨rfl, HB5.out⟩
set_option maxHeartbeats 1000000 in
theorem ptrBack_b_blen (p : Pt) (hu : p.U) (A : Option Addr) (n c : Nat) (l : List UInt8) (w : World) (hl : l.length = n) (hc : n ≤ c) (hr : Rd w w.heap.size 1 A n (bvs l))
    (hm : ¬ p.May)
    (hg : ¬ 10000 < (n : Int)) (hne : ((n : Int) != 16) = true) (hE : readE l = 3)
    : Calls Try.prog 10 #[.agg #[.int .i64 p.a, .int .u32 p.b, .int .u32 p.i, .int .u32 p.t, .int .u32 p.s], .slice A n c] w fun e w' => e = .returned (.bool true) ∧ Below w.heap.size w w' := by
  have hP : readP l = Pt.zero := readP_err (by rw [hE]; omega)
  have hqz : ∀ W, (binOp .eql 31 (.agg #[.int .i64 Pt.zero.a, .int .u32 Pt.zero.b, .int .u32 Pt.zero.i, .int .u32 Pt.zero.t, .int .u32 Pt.zero.s]) (.agg #[.int .i64 0, .int .u32 0, .int .u32 0, .int .u32 0, .int .u32 0])).run Try.prog W = .ok (.bool true) W := run_pt_eq Pt.zero Pt.zero true (Pt.eq_self _)
  have hRd := fun W (h : Below w.heap.size w W) => ptr_readX A n c l W hl hc ((hr.below h).more h.size) Pt.zero _ hP hE
  have HRD := Lib.hid hRd
  clear hRd hP hE
  have hWp := fun W => ptr_writeBad p hm W
  have hCp := fun W => ptr_checkX p 8 (Pt.chk_bad hm) W
  have HCP := Lib.hid hCp
  clear hCp
  have HWP := Lib.hid hWp
  have HR := Lib.hid hr
  clear hWp hr hm hu
  have hx0 := PtBox.new w p
  have hb0 := below_new w (.cells #[.int .i64 p.a, .int .u32 p.b, .int .u32 p.i, .int .u32 p.t, .int .u32 p.s] 31)
  have HX0 := Lib.hid hx0
  have HB0 := Lib.hid hb0
  clear hx0 hb0
  go_enter Try.func10, Try.ntmps10
  go_wp2_with fail
  refine (alive10 _).mono ?_
  rintro e w1 ⟨rfl, b1⟩
  have x1 := HX0.out.below b1 HX0.out.lt
  have B1 := below_to HB0.out b1 HB0.out.size
  obtain ⟨p0, p1, p2, p3, p4⟩ := x1.cells
  go_wp2_with fail
  refine (HWP.out w1).mono ?_
  rintro e w2 ⟨rfl, b2⟩
  have x2 := x1.below b2 x1.lt
  have B2 := below_to B1 b2 B1.size
  clear p0 p1 p2 p3 p4
  obtain ⟨p0, p1, p2, p3, p4⟩ := x2.cells
  have hz2 := b2.size
  go_wp2_with fail
  refine (HCP.out w2).mono ?_
  rintro e w3 ⟨rfl, b3⟩
  have x3 := x2.below b3 x2.lt
  have B3 := below_to B2 b3 B2.size
  clear p0 p1 p2 p3 p4
  have hb4 := B3
  obtain ⟨p0, p1, p2, p3, p4⟩ := x3.cells
  have HB4 := Lib.hid hb4
  have hlt3 := x3.lt
  clear hb4 b1 b2 b3 B1 B2 B3 x1 x2 x3 hz2
  go_wp2_with fail
  refine (HRD.out _ HB4.out).mono ?_
  rintro e w4 ⟨rfl, b4⟩
  have B4 := below_to HB4.out b4 HB4.out.size
  have B5 := below_alloc B4 (.cells #[.int .i64 0, .int .u32 0, .int .u32 0, .int .u32 0, .int .u32 0] 31) (Nat.le_refl _)
  have HB5 := Lib.hid B5
  clear B5 B4 b4 p0 p1 p2 p3 p4
  go_wp2
  go_ret
  exact ⟨rfl, HB5.out⟩

theorem ptrBack_walk (p : Pt) (hu : p.U) (A : Option Addr) (n c : Nat) (l : List UInt8) (w : World) (hl : l.length = n) (hc : n ≤ c) (hr : Rd w w.heap.size 1 A n (bvs l)) :
    Calls Try.prog 10 #[.agg #[.int .i64 p.a, .int .u32 p.b, .int .u32 p.i, .int .u32 p.t, .int .u32 p.s], .slice A n c] w fun e w' => e = .returned (.bool true) ∧ Below w.heap.size w w' := by
  by_cases hm : p.May
  · by_cases hg : 10000 < (n : Int)
    · exact ptrBack_m_great p hu A n c l w hl hc hr hm hg
    · by_cases he : readE l = 0
      · exact ptrBack_m_ok p hu A n c l w hl hc hr hm hg he
      · by_cases h16 : (n : Int) = 16
        · exact ptrBack_m_b16 p hu A n c l w hl hc hr hm h16 he
        · exact ptrBack_m_blen p hu A n c l w hl hc hr hm hg (by simp; omega) (readE_len (by omega))
  · by_cases hg : 10000 < (n : Int)
    · exact ptrBack_b_great p hu A n c l w hl hc hr hm hg
    · by_cases he : readE l = 0
      · exact ptrBack_b_ok p hu A n c l w hl hc hr hm hg he
      · by_cases h16 : (n : Int) = 16
        · exact ptrBack_b_b16 p hu A n c l w hl hc hr hm h16 he
        · exact ptrBack_b_blen p hu A n c l w hl hc hr hm hg (by simp; omega) (readE_len (by omega))
end Go.Proofs.Ytgcagenhfddpgaa
