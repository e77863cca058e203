/-
  The walk of PtrRows.
-/
import Derived.Test.YtgcagenhfddpgaaPtrRow
import Derived.Test.YtgcagenhfddpgaaPtrRw
import Derived.Test.YtgcagenhfddpgaaLaw10
namespace Go.Proofs.Ytgcagenhfddpgaa
open Go.RowKit
set_option linter.unusedVariables false
set_option maxRecDepth 100000
attribute [local go_sem] str_toList toList_mk

/-- The elements of a row that was read. -/
theorem pts_at {l : List Pt} (h16 : l.length ≤ 16) {k : Nat} (hk : k < 16) (h : k < (l ++ holes (16 - l.length)).length) : (l ++ holes (16 - l.length))[k] = if h : k < l.length then l[k] else Pt.zero := by
  by_cases h : k < l.length
  · rw [dif_pos h, List.getElem_append_left h]
  · rw [dif_neg h, List.getElem_append_right (by omega)]
    simp only [holes, List.getElem_replicate]
def RwRel (w3 : World) (x : Value) (wr : World) : Prop := ∃ k N : Nat, k ≤ 16 ∧ x = .int .i64 (k : Int) ∧ wr = w3.drewN N

theorem ptrRows_great_yes (A : Option Addr) (n c : Nat) (l : List Pt) (D : Option Addr) (m d : Nat) (b : List UInt8) (w : World) (hl : l.length = n) (hU : AllU l) (hr : Rd w w.heap.size 5 A n (pcs l)) (hb : b.length = m) (hd : m ≤ d) (hrb : Rd w w.heap.size 1 D m (bvs b))
    (hg : 1000 < (n : Int))
    (he : rowsE b = 0)
    : Calls Try.prog 14 #[.slice A n c, .slice D m d] w fun e w' => e = .returned (.bool true) ∧ Below w.heap.size w w' := by
  go_enter Try.func14, Try.ntmps14
  go_wp2_with fail
  refine (alive10 _).mono ?_
  rintro e w1 ⟨rfl, b1⟩
  go_wp2
  go_ret
  exact ⟨rfl, b1⟩
theorem ptrRows_great_no (A : Option Addr) (n c : Nat) (l : List Pt) (D : Option Addr) (m d : Nat) (b : List UInt8) (w : World) (hl : l.length = n) (hU : AllU l) (hr : Rd w w.heap.size 5 A n (pcs l)) (hb : b.length = m) (hd : m ≤ d) (hrb : Rd w w.heap.size 1 D m (bvs b))
    (hg : 1000 < (n : Int))
    (he : ¬ rowsE b = 0)
    : Calls Try.prog 14 #[.slice A n c, .slice D m d] w fun e w' => e = .returned (.bool true) ∧ Below w.heap.size w w' := by
  go_enter Try.func14, Try.ntmps14
  go_wp2_with fail
  refine (alive10 _).mono ?_
  rintro e w1 ⟨rfl, b1⟩
  go_wp2
  go_ret
  exact ⟨rfl, b1⟩
theorem ptrRows_greatb_yes (A : Option Addr) (n c : Nat) (l : List Pt) (D : Option Addr) (m d : Nat) (b : List UInt8) (w : World) (hl : l.length = n) (hU : AllU l) (hr : Rd w w.heap.size 5 A n (pcs l)) (hb : b.length = m) (hd : m ≤ d) (hrb : Rd w w.heap.size 1 D m (bvs b))
    (hg : decide (1000 < (n : Int)) = false)
    (hgb : 10000 < (m : Int))
    (he : rowsE b = 0)
    : Calls Try.prog 14 #[.slice A n c, .slice D m d] w fun e w' => e = .returned (.bool true) ∧ Below w.heap.size w w' := by
  go_enter Try.func14, Try.ntmps14
  go_wp2_with fail
  refine (alive10 _).mono ?_
  rintro e w1 ⟨rfl, b1⟩
  go_wp2
  go_ret
  exact ⟨rfl, b1⟩
theorem ptrRows_greatb_no (A : Option Addr) (n c : Nat) (l : List Pt) (D : Option Addr) (m d : Nat) (b : List UInt8) (w : World) (hl : l.length = n) (hU : AllU l) (hr : Rd w w.heap.size 5 A n (pcs l)) (hb : b.length = m) (hd : m ≤ d) (hrb : Rd w w.heap.size 1 D m (bvs b))
    (hg : decide (1000 < (n : Int)) = false)
    (hgb : 10000 < (m : Int))
    (he : ¬ rowsE b = 0)
    : Calls Try.prog 14 #[.slice A n c, .slice D m d] w fun e w' => e = .returned (.bool true) ∧ Below w.heap.size w w' := by
  go_enter Try.func14, Try.ntmps14
  go_wp2_with fail
  refine (alive10 _).mono ?_
  rintro e w1 ⟨rfl, b1⟩
  go_wp2
  go_ret
  exact ⟨rfl, b1⟩
theorem ptrRows_many_yes (A : Option Addr) (n c : Nat) (l : List Pt) (D : Option Addr) (m d : Nat) (b : List UInt8) (w : World) (hl : l.length = n) (hU : AllU l) (hr : Rd w w.heap.size 5 A n (pcs l)) (hb : b.length = m) (hd : m ≤ d) (hrb : Rd w w.heap.size 1 D m (bvs b))
    (hg : decide (1000 < (n : Int)) = false)
    (hgb : ¬ 10000 < (m : Int))
    (h16 : 16 < (n : Int))
    (he : rowsE b = 0)
    : Calls Try.prog 14 #[.slice A n c, .slice D m d] w fun e w' => e = .returned (.bool true) ∧ Below w.heap.size w w' := by
  have hRb := fun W (h : Below w.heap.size w W) => ptr_rows D m d b W hb hd ((hrb.below h).more h.size)
  have hkb := fun W (h : Below w.heap.size w W) => conv (hrb.below h) d
  have HKB := Lib.hid hkb
  clear hkb
  obtain ⟨hz1, hz2⟩ := row_rows he
  obtain ⟨hz3, hz4, hz5⟩ := rowsE_ok he
  have hzU : AllU (rowsP b) := by rw [hz5]; exact rowsL_U b
  have hzl : (rowsP b).length = 16 := by rw [hz5, rowsL_len]
  have hRw := fun (A : Option Addr) (c : Nat) (W : World) hr => ptr_row A 16 c (rowsP b) W hzl hzU hr
  rw [hz1, hz2, hz3] at hRw
  rw [he, hzl] at hRb
  have HRW := Lib.hid hRw
  clear hz1 hz2 hz3 hz4 hz5 hzU hzl hRw
  have HRB := Lib.hid hRb
  clear hRb he hrb
  have hRl := fun W (h : Below w.heap.size w W) => ptr_row_many A n c W h16
  have HRL := Lib.hid hRl
  clear hRl
  go_enter Try.func14, Try.ntmps14
  go_wp2_with fail
  refine (alive10 _).mono ?_
  rintro e w1 ⟨rfl, b1⟩
  go_wp2_with fail
  refine (HRL.out w1 b1).mono ?_
  rintro e w2 ⟨rfl, rfl⟩
  have B2 := b1
  go_wp2_with fail
  refine (HRB.out w1 B2).mono ?_
  rintro e w5 ⟨A5, c5, rfl, f5, b5⟩
  have B5 := below_to B2 b5 B2.size
  go_wp2_with fail
  refine (HRW.out A5 c5 w5 f5.rd).mono ?_
  rintro e w6 ⟨A6, c6, rfl, f6, b6⟩
  have B6 := below_to B5 b6 B5.size
  have k1 := conv f6.rd c6
  have k2 := HKB.out w6 B6
  go_wp2
  go_ret
  exact ⟨rfl, B6⟩
theorem ptrRows_many_no (A : Option Addr) (n c : Nat) (l : List Pt) (D : Option Addr) (m d : Nat) (b : List UInt8) (w : World) (hl : l.length = n) (hU : AllU l) (hr : Rd w w.heap.size 5 A n (pcs l)) (hb : b.length = m) (hd : m ≤ d) (hrb : Rd w w.heap.size 1 D m (bvs b))
    (hg : decide (1000 < (n : Int)) = false)
    (hgb : ¬ 10000 < (m : Int))
    (h16 : 16 < (n : Int))
    (he : ¬ rowsE b = 0)
    : Calls Try.prog 14 #[.slice A n c, .slice D m d] w fun e w' => e = .returned (.bool true) ∧ Below w.heap.size w w' := by
  have hRb := fun W (h : Below w.heap.size w W) => ptr_rows D m d b W hb hd ((hrb.below h).more h.size)
  have hkb := fun W (h : Below w.heap.size w W) => conv (hrb.below h) d
  have HKB := Lib.hid hkb
  clear hkb
  have hzn : rowsP b = [] := rowsP_err he
  have hne : (rowsE b != 0) = true := by simp [he]
  rw [hzn] at hRb
  generalize rowsE b = E at *
  have HRB := Lib.hid hRb
  clear hRb he hrb
  have hRl := fun W (h : Below w.heap.size w W) => ptr_row_many A n c W h16
  have HRL := Lib.hid hRl
  clear hRl
  go_enter Try.func14, Try.ntmps14
  go_wp2_with fail
  refine (alive10 _).mono ?_
  rintro e w1 ⟨rfl, b1⟩
  go_wp2_with fail
  refine (HRL.out w1 b1).mono ?_
  rintro e w2 ⟨rfl, rfl⟩
  have B2 := b1
  go_wp2_with fail
  refine (HRB.out w1 B2).mono ?_
  rintro e w5 ⟨A5, c5, rfl, f5, b5⟩
  go_wp2
  go_ret
  exact ⟨rfl, below_to B2 b5 B2.size⟩
theorem ptrRows_bad_yes (A : Option Addr) (n c : Nat) (l : List Pt) (D : Option Addr) (m d : Nat) (b : List UInt8) (w : World) (hl : l.length = n) (hU : AllU l) (hr : Rd w w.heap.size 5 A n (pcs l)) (hb : b.length = m) (hd : m ≤ d) (hrb : Rd w w.heap.size 1 D m (bvs b))
    (hg : decide (1000 < (n : Int)) = false)
    (hgb : ¬ 10000 < (m : Int))
    (h16 : (n : Int) ≤ 16)
    (hm : ¬ AllMay l)
    (he : rowsE b = 0)
    : Calls Try.prog 14 #[.slice A n c, .slice D m d] w fun e w' => e = .returned (.bool true) ∧ Below w.heap.size w w' := by
  have hRb := fun W (h : Below w.heap.size w W) => ptr_rows D m d b W hb hd ((hrb.below h).more h.size)
  have hkb := fun W (h : Below w.heap.size w W) => conv (hrb.below h) d
  have HKB := Lib.hid hkb
  clear hkb
  obtain ⟨hz1, hz2⟩ := row_rows he
  obtain ⟨hz3, hz4, hz5⟩ := rowsE_ok he
  have hzU : AllU (rowsP b) := by rw [hz5]; exact rowsL_U b
  have hzl : (rowsP b).length = 16 := by rw [hz5, rowsL_len]
  have hRw := fun (A : Option Addr) (c : Nat) (W : World) hr => ptr_row A 16 c (rowsP b) W hzl hzU hr
  rw [hz1, hz2, hz3] at hRw
  rw [he, hzl] at hRb
  have HRW := Lib.hid hRw
  clear hz1 hz2 hz3 hz4 hz5 hzU hzl hRw
  have HRB := Lib.hid hRb
  clear hRb he hrb
  have hE8 := rowE_bad (l := l) (by omega) hm
  have hRl := fun W (h : Below w.heap.size w W) => ptr_row A n c l W hl hU ((hr.below h).more h.size)
  rw [hE8, rowB_err (by rw [hE8]; omega)] at hRl
  have HRL := Lib.hid hRl
  clear hRl
  go_enter Try.func14, Try.ntmps14
  go_wp2_with fail
  refine (alive10 _).mono ?_
  rintro e w1 ⟨rfl, b1⟩
  go_wp2_with fail
  refine (HRL.out w1 b1).mono ?_
  rintro e w2 ⟨A2, c2, rfl, f2, b2⟩
  have B2 := below_to b1 b2 b1.size
  go_wp2_with fail
  refine (HRB.out w2 B2).mono ?_
  rintro e w5 ⟨A5, c5, rfl, f5, b5⟩
  have B5 := below_to B2 b5 B2.size
  go_wp2_with fail
  refine (HRW.out A5 c5 w5 f5.rd).mono ?_
  rintro e w6 ⟨A6, c6, rfl, f6, b6⟩
  have B6 := below_to B5 b6 B5.size
  have k1 := conv f6.rd c6
  have k2 := HKB.out w6 B6
  go_wp2
  go_ret
  exact ⟨rfl, B6⟩
theorem ptrRows_bad_no (A : Option Addr) (n c : Nat) (l : List Pt) (D : Option Addr) (m d : Nat) (b : List UInt8) (w : World) (hl : l.length = n) (hU : AllU l) (hr : Rd w w.heap.size 5 A n (pcs l)) (hb : b.length = m) (hd : m ≤ d) (hrb : Rd w w.heap.size 1 D m (bvs b))
    (hg : decide (1000 < (n : Int)) = false)
    (hgb : ¬ 10000 < (m : Int))
    (h16 : (n : Int) ≤ 16)
    (hm : ¬ AllMay l)
    (he : ¬ rowsE b = 0)
    : Calls Try.prog 14 #[.slice A n c, .slice D m d] w fun e w' => e = .returned (.bool true) ∧ Below w.heap.size w w' := by
  have hRb := fun W (h : Below w.heap.size w W) => ptr_rows D m d b W hb hd ((hrb.below h).more h.size)
  have hkb := fun W (h : Below w.heap.size w W) => conv (hrb.below h) d
  have HKB := Lib.hid hkb
  clear hkb
  have hzn : rowsP b = [] := rowsP_err he
  have hne : (rowsE b != 0) = true := by simp [he]
  rw [hzn] at hRb
  generalize rowsE b = E at *
  have HRB := Lib.hid hRb
  clear hRb he hrb
  have hE8 := rowE_bad (l := l) (by omega) hm
  have hRl := fun W (h : Below w.heap.size w W) => ptr_row A n c l W hl hU ((hr.below h).more h.size)
  rw [hE8, rowB_err (by rw [hE8]; omega)] at hRl
  have HRL := Lib.hid hRl
  clear hRl
  go_enter Try.func14, Try.ntmps14
  go_wp2_with fail
  refine (alive10 _).mono ?_
  rintro e w1 ⟨rfl, b1⟩
  go_wp2_with fail
  refine (HRL.out w1 b1).mono ?_
  rintro e w2 ⟨A2, c2, rfl, f2, b2⟩
  have B2 := below_to b1 b2 b1.size
  go_wp2_with fail
  refine (HRB.out w2 B2).mono ?_
  rintro e w5 ⟨A5, c5, rfl, f5, b5⟩
  go_wp2
  go_ret
  exact ⟨rfl, below_to B2 b5 B2.size⟩
theorem ptrRows_ok_yes (A : Option Addr) (n c : Nat) (l : List Pt) (D : Option Addr) (m d : Nat) (b : List UInt8) (w : World) (hl : l.length = n) (hU : AllU l) (hr : Rd w w.heap.size 5 A n (pcs l)) (hb : b.length = m) (hd : m ≤ d) (hrb : Rd w w.heap.size 1 D m (bvs b))
    (hg : decide (1000 < (n : Int)) = false)
    (hgb : ¬ 10000 < (m : Int))
    (h16 : (n : Int) ≤ 16)
    (hm : AllMay l)
    (he : rowsE b = 0)
    : Calls Try.prog 14 #[.slice A n c, .slice D m d] w fun e w' => e = .returned (.bool true) ∧ Below w.heap.size w w' := by
  have hRb := fun W (h : Below w.heap.size w W) => ptr_rows D m d b W hb hd ((hrb.below h).more h.size)
  have hkb := fun W (h : Below w.heap.size w W) => conv (hrb.below h) d
  have HKB := Lib.hid hkb
  clear hkb
  obtain ⟨hz1, hz2⟩ := row_rows he
  obtain ⟨hz3, hz4, hz5⟩ := rowsE_ok he
  have hzU : AllU (rowsP b) := by rw [hz5]; exact rowsL_U b
  have hzl : (rowsP b).length = 16 := by rw [hz5, rowsL_len]
  have hRw := fun (A : Option Addr) (c : Nat) (W : World) hr => ptr_row A 16 c (rowsP b) W hzl hzU hr
  rw [hz1, hz2, hz3] at hRw
  rw [he, hzl] at hRb
  have HRW := Lib.hid hRw
  clear hz1 hz2 hz3 hz4 hz5 hzU hzl hRw
  have HRB := Lib.hid hRb
  clear hRb he hrb
  have hE0 := rowE_may (l := l) (by omega) hm
  obtain ⟨hq1, hq2⟩ := rows_row hE0 hU
  obtain ⟨-, -, -, hq3⟩ := rowE_ok hE0
  have hRl := fun W (h : Below w.heap.size w W) => ptr_row A n c l W hl hU ((hr.below h).more h.size)
  have hRr := fun (A : Option Addr) (c : Nat) (W : World) hc hr => ptr_rows A 256 c (rowB l) W hq3 hc hr
  have hq4 : (l ++ holes (16 - l.length)).length = 16 := by rw [List.length_append, holes, List.length_replicate]; omega
  have hq5 := fun k hk h => pts_at (l := l) (by omega) (k := k) hk h
  rw [hE0, hq3] at hRl
  rw [hq1, hq2, hq4] at hRr
  have HRR := Lib.hid hRr
  have HQ4 := Lib.hid hq4
  have HQ5 := Lib.hid hq5
  clear hRr hq1 hq2 hq3 hq4 hq5 hE0
  generalize l ++ holes (16 - l.length) = l2 at *
  have HRD := Lib.hid hr
  clear hr
  have HRL := Lib.hid hRl
  clear hRl
  go_enter Try.func14, Try.ntmps14
  go_wp2_with fail
  refine (alive10 _).mono ?_
  rintro e w1 ⟨rfl, b1⟩
  go_wp2_with fail
  refine (HRL.out w1 b1).mono ?_
  rintro e w2 ⟨A2, c2, rfl, f2, b2⟩
  go_wp2_with fail
  refine (HRR.out A2 c2 w2 f2.nc f2.rd).mono ?_
  rintro e w3 ⟨A3, c3, rfl, f3, b3⟩
  have B3 := below_to (below_to b1 b2 b1.size) b3 (Nat.le_trans b1.size b2.size)
  have hrl := HRD.out.below B3
  have hrm := f3.rd
  have HB3 := Lib.hid B3
  have HRL3 := Lib.hid hrl
  have HRM3 := Lib.hid hrm
  clear B3 hrl hrm f3 b3 f2 b1 b2
  go_wp2
  go_loopw [10] (fun x wr => RwRel w3 x wr) (fun x _ => 16 - (intOf x).toNat)
  case atStart => exact ⟨0, 0, by omega, rfl, rfl⟩
  case round =>
   obtain ⟨k, N, hk, rfl, rfl⟩ := hrel
   by_cases hk16 : k < 16
   · have hk2 : k < l2.length := by rw [HQ4.out]; exact hk16
     obtain ⟨g2, o2, e2, _, m0, m1, m2, m3, m4⟩ := HRM3.out.at5 hk16 HQ4.out
     have hv := HQ5.out k hk16 hk2
     cases e2
     have hki : (k : Int) < 16 := by omega
     have hk0 : ¬ ((k : Int) < 0) := by omega
     by_cases hlt : k < n
     · have hkl : k < l.length := by omega
       obtain ⟨g1, o1, rfl, _, c0, c1, c2', c3', c4'⟩ := HRL3.out.at5 hlt hl
       rw [dif_pos hkl] at hv
       simp only [hv] at m0 m1 m2 m3 m4
       have hd1 : decide ((k : Int) < (n : Int)) = true := by simp; omega
       have hd2 : decide ((n : Int) ≤ (k : Int)) = false := by simp; omega
       have hd4 : decide (n ≤ k) = false := by simp; omega
       have hd3 : (k : Int) < (n : Int) := by omega
       clear hv
       generalize l[k] = p at *
       have hq := fun W => run_pt_ne p p true p.eq_self W
       go_wp2
       go_quiet (fail)
       go_wp2
       go_roundw
       case rel => exact ⟨k + 1, _, by omega, rfl, rfl⟩
       case measure => simp [intOf]; omega
     · have hkl : ¬ k < l.length := by omega
       rw [dif_neg hkl] at hv
       simp only [hv] at m0 m1 m2 m3 m4
       have hd1 : decide ((k : Int) < (n : Int)) = false := by simp; omega
       have hd2 : decide ((n : Int) ≤ (k : Int)) = true := by simp; omega
       have hd4 : decide (n ≤ k) = true := by simp; omega
       have hd3 : (n : Int) ≤ (k : Int) := by omega
       clear hv
       have hq : ∀ W, (binOp .neq 31 (.agg #[.int .i64 Pt.zero.a, .int .u32 Pt.zero.b, .int .u32 Pt.zero.i, .int .u32 Pt.zero.t, .int .u32 Pt.zero.s]) (.agg #[.int .i64 0, .int .u32 0, .int .u32 0, .int .u32 0, .int .u32 0])).run Try.prog W = .ok (.bool false) W := fun W => run_pt_ne Pt.zero Pt.zero true (Pt.eq_self _) W
       go_wp2
       go_quiet (fail)
       go_wp2
       go_roundw
       case rel => exact ⟨k + 1, _, by omega, rfl, rfl⟩
       case measure => simp [intOf]; omega
   · obtain rfl : k = 16 := by omega
     have B2 := below_drewN HB3.out N
     generalize w3.drewN N = w2 at *
     go_wp2_with fail
     refine (HRB.out w2 B2).mono ?_
     rintro e w5 ⟨A5, c5, rfl, f5, b5⟩
     have B5 := below_to B2 b5 B2.size
     go_wp2_with fail
     refine (HRW.out A5 c5 w5 f5.rd).mono ?_
     rintro e w6 ⟨A6, c6, rfl, f6, b6⟩
     have B6 := below_to B5 b6 B5.size
     have k1 := conv f6.rd c6
     have k2 := HKB.out w6 B6
     go_wp2
     go_ret
     exact ⟨rfl, B6⟩
theorem ptrRows_ok_no (A : Option Addr) (n c : Nat) (l : List Pt) (D : Option Addr) (m d : Nat) (b : List UInt8) (w : World) (hl : l.length = n) (hU : AllU l) (hr : Rd w w.heap.size 5 A n (pcs l)) (hb : b.length = m) (hd : m ≤ d) (hrb : Rd w w.heap.size 1 D m (bvs b))
    (hg : decide (1000 < (n : Int)) = false)
    (hgb : ¬ 10000 < (m : Int))
    (h16 : (n : Int) ≤ 16)
    (hm : AllMay l)
    (he : ¬ rowsE b = 0)
    : Calls Try.prog 14 #[.slice A n c, .slice D m d] w fun e w' => e = .returned (.bool true) ∧ Below w.heap.size w w' := by
  have hRb := fun W (h : Below w.heap.size w W) => ptr_rows D m d b W hb hd ((hrb.below h).more h.size)
  have hkb := fun W (h : Below w.heap.size w W) => conv (hrb.below h) d
  have HKB := Lib.hid hkb
  clear hkb
  have hzn : rowsP b = [] := rowsP_err he
  have hne : (rowsE b != 0) = true := by simp [he]
  rw [hzn] at hRb
  generalize rowsE b = E at *
  have HRB := Lib.hid hRb
  clear hRb he hrb
  have hE0 := rowE_may (l := l) (by omega) hm
  obtain ⟨hq1, hq2⟩ := rows_row hE0 hU
  obtain ⟨-, -, -, hq3⟩ := rowE_ok hE0
  have hRl := fun W (h : Below w.heap.size w W) => ptr_row A n c l W hl hU ((hr.below h).more h.size)
  have hRr := fun (A : Option Addr) (c : Nat) (W : World) hc hr => ptr_rows A 256 c (rowB l) W hq3 hc hr
  have hq4 : (l ++ holes (16 - l.length)).length = 16 := by rw [List.length_append, holes, List.length_replicate]; omega
  have hq5 := fun k hk h => pts_at (l := l) (by omega) (k := k) hk h
  rw [hE0, hq3] at hRl
  rw [hq1, hq2, hq4] at hRr
  have HRR := Lib.hid hRr
  have HQ4 := Lib.hid hq4
  have HQ5 := Lib.hid hq5
  clear hRr hq1 hq2 hq3 hq4 hq5 hE0
  generalize l ++ holes (16 - l.length) = l2 at *
  have HRD := Lib.hid hr
  clear hr
  have HRL := Lib.hid hRl
  clear hRl
  go_enter Try.func14, Try.ntmps14
  go_wp2_with fail
  refine (alive10 _).mono ?_
  rintro e w1 ⟨rfl, b1⟩
  go_wp2_with fail
  refine (HRL.out w1 b1).mono ?_
  rintro e w2 ⟨A2, c2, rfl, f2, b2⟩
  go_wp2_with fail
  refine (HRR.out A2 c2 w2 f2.nc f2.rd).mono ?_
  rintro e w3 ⟨A3, c3, rfl, f3, b3⟩
  have B3 := below_to (below_to b1 b2 b1.size) b3 (Nat.le_trans b1.size b2.size)
  have hrl := HRD.out.below B3
  have hrm := f3.rd
  have HB3 := Lib.hid B3
  have HRL3 := Lib.hid hrl
  have HRM3 := Lib.hid hrm
  clear B3 hrl hrm f3 b3 f2 b1 b2
  go_wp2
  go_loopw [10] (fun x wr => RwRel w3 x wr) (fun x _ => 16 - (intOf x).toNat)
  case atStart => exact ⟨0, 0, by omega, rfl, rfl⟩
  case round =>
   obtain ⟨k, N, hk, rfl, rfl⟩ := hrel
   by_cases hk16 : k < 16
   · have hk2 : k < l2.length := by rw [HQ4.out]; exact hk16
     obtain ⟨g2, o2, e2, _, m0, m1, m2, m3, m4⟩ := HRM3.out.at5 hk16 HQ4.out
     have hv := HQ5.out k hk16 hk2
     cases e2
     have hki : (k : Int) < 16 := by omega
     have hk0 : ¬ ((k : Int) < 0) := by omega
     by_cases hlt : k < n
     · have hkl : k < l.length := by omega
       obtain ⟨g1, o1, rfl, _, c0, c1, c2', c3', c4'⟩ := HRL3.out.at5 hlt hl
       rw [dif_pos hkl] at hv
       simp only [hv] at m0 m1 m2 m3 m4
       have hd1 : decide ((k : Int) < (n : Int)) = true := by simp; omega
       have hd2 : decide ((n : Int) ≤ (k : Int)) = false := by simp; omega
       have hd4 : decide (n ≤ k) = false := by simp; omega
       have hd3 : (k : Int) < (n : Int) := by omega
       clear hv
       generalize l[k] = p at *
       have hq := fun W => run_pt_ne p p true p.eq_self W
       go_wp2
       go_quiet (fail)
       go_wp2
       go_roundw
       case rel => exact ⟨k + 1, _, by omega, rfl, rfl⟩
       case measure => simp [intOf]; omega
     · have hkl : ¬ k < l.length := by omega
       rw [dif_neg hkl] at hv
       simp only [hv] at m0 m1 m2 m3 m4
       have hd1 : decide ((k : Int) < (n : Int)) = false := by simp; omega
       have hd2 : decide ((n : Int) ≤ (k : Int)) = true := by simp; omega
       have hd4 : decide (n ≤ k) = true := by simp; omega
       have hd3 : (n : Int) ≤ (k : Int) := by omega
       clear hv
       have hq : ∀ W, (binOp .neq 31 (.agg #[.int .i64 Pt.zero.a, .int .u32 Pt.zero.b, .int .u32 Pt.zero.i, .int .u32 Pt.zero.t, .int .u32 Pt.zero.s]) (.agg #[.int .i64 0, .int .u32 0, .int .u32 0, .int .u32 0, .int .u32 0])).run Try.prog W = .ok (.bool false) W := fun W => run_pt_ne Pt.zero Pt.zero true (Pt.eq_self _) W
       go_wp2
       go_quiet (fail)
       go_wp2
       go_roundw
       case rel => exact ⟨k + 1, _, by omega, rfl, rfl⟩
       case measure => simp [intOf]; omega
   · obtain rfl : k = 16 := by omega
     have B2 := below_drewN HB3.out N
     generalize w3.drewN N = w2 at *
     go_wp2_with fail
     refine (HRB.out w2 B2).mono ?_
     rintro e w5 ⟨A5, c5, rfl, f5, b5⟩
     go_wp2
     go_ret
     exact ⟨rfl, below_to B2 b5 B2.size⟩
theorem ptrRows_walk (A : Option Addr) (n c : Nat) (l : List Pt) (D : Option Addr) (m d : Nat) (b : List UInt8) (w : World) (hl : l.length = n) (hU : AllU l) (hr : Rd w w.heap.size 5 A n (pcs l)) (hb : b.length = m) (hd : m ≤ d) (hrb : Rd w w.heap.size 1 D m (bvs b)) :
    Calls Try.prog 14 #[.slice A n c, .slice D m d] w fun e w' => e = .returned (.bool true) ∧ Below w.heap.size w w' := by
  by_cases he : rowsE b = 0
  · by_cases hg : 1000 < (n : Int)
    · exact ptrRows_great_yes A n c l D m d b w hl hU hr hb hd hrb hg he
    · have hg' : decide (1000 < (n : Int)) = false := by simp; omega
      by_cases hgb : 10000 < (m : Int)
      · exact ptrRows_greatb_yes A n c l D m d b w hl hU hr hb hd hrb hg' hgb he
      · by_cases h16 : 16 < (n : Int)
        · exact ptrRows_many_yes A n c l D m d b w hl hU hr hb hd hrb hg' hgb h16 he
        · by_cases hm : AllMay l
          · exact ptrRows_ok_yes A n c l D m d b w hl hU hr hb hd hrb hg' hgb (by omega) hm he
          · exact ptrRows_bad_yes A n c l D m d b w hl hU hr hb hd hrb hg' hgb (by omega) hm he
  · by_cases hg : 1000 < (n : Int)
    · exact ptrRows_great_no A n c l D m d b w hl hU hr hb hd hrb hg he
    · have hg' : decide (1000 < (n : Int)) = false := by simp; omega
      by_cases hgb : 10000 < (m : Int)
      · exact ptrRows_greatb_no A n c l D m d b w hl hU hr hb hd hrb hg' hgb he
      · by_cases h16 : 16 < (n : Int)
        · exact ptrRows_many_no A n c l D m d b w hl hU hr hb hd hrb hg' hgb h16 he
        · by_cases hm : AllMay l
          · exact ptrRows_ok_no A n c l D m d b w hl hU hr hb hd hrb hg' hgb (by omega) hm he
          · exact ptrRows_bad_no A n c l D m d b w hl hU hr hb hd hrb hg' hgb (by omega) hm he
end Go.Proofs.Ytgcagenhfddpgaa
