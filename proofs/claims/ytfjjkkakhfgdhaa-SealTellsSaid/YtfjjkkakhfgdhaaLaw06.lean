/-
  The walks of layer 6's statements: alive, SealNames, SealBack, SealApart.
-/
import Derived.Test.YtfjjkkakhfgdhaaSeal
import Derived.Test.YtfjjkkakhfgdhaaLaw05
import Derived.Deep.RegionLaw
namespace Go.Proofs.Ytfjjkkakhfgdhaa
open Go.RowKit
set_option linter.unusedVariables false
set_option linter.unusedSimpArgs false
set_option maxRecDepth 100000
attribute [local go_sem] str_toList toList_mk

theorem turnL_twice (k : List UInt8) (iv : Nat) (b : List UInt8) : turnL k iv (turnL k iv b) = b := by
  unfold turnL
  rw [xorL_len, streamL_len]
  exact xorL_twice _ _ (by rw [streamL_len])

theorem wi_rng (x : Wd) : 0 ≤ wi x ∧ wi x < 4294967296 := by
  have h := x.isLt
  unfold wi
  omega
theorem alive06 (w : World) : Calls Try.prog 42 #[] w fun e w' => e = .returned (.bool true) ∧ Below w.heap.size w w' := by
  have hmk : ∀ W, (Instr.makeSlice 28 (.int .i64 16) (.int .i64 16)).run Try.prog W = .ok (.slice (some ⟨W.heap.size, 0, none⟩) 16 16) (W.alloc (.cells (bvs (noughts 16)).toArray 5)) := fun W => run_mkN .i64 .i64 16 (by omega) W
  have f0 := (fr_mkN w 16 (by omega) (Nat.le_refl w.heap.size)).alloc (.cells #[.int .u8 97, .int .u8 98, .int .u8 99] 5 (3, 4))
  have hnew := heap_alloc_new (w.alloc (.cells (bvs (noughts 16)).toArray 5)) (.cells #[.int .u8 97, .int .u8 98, .int .u8 99] 5 (3, 4))
  rw [World.size_alloc] at hnew
  have r1 := Rd.ofRow (n := 3) (cs := bvs [97, 98, 99]) hnew rfl
  clear hnew
  have hb0 := below_alloc (below_new w (.cells (bvs (noughts 16)).toArray 5)) (.cells #[.int .u8 97, .int .u8 98, .int .u8 99] 5 (3, 4)) (Nat.le_refl _)
  have hcv := Go.Lib.run_convert_bytes_const (w.alloc (.cells (bvs (noughts 16)).toArray 5)) 28 5 #[.int .u8 97, .int .u8 98, .int .u8 99] 3 3 Try.underlying28 Try.underlying5
  rw [World.size_alloc, show (#[Value.int .u8 97, Value.int .u8 98, Value.int .u8 99] : Array Value).size = 3 from rfl] at hcv
  have htl : (turnL (noughts 16) 1 [97, 98, 99]).length = 3 := turnL_len _ _ _
  have htw := turnL_twice (noughts 16) 1 [97, 98, 99]
  have hS := fun (D B : Option Addr) (d : Nat) W hrk hrb => s_seal D 16 (noughts 16) 1 (by decide) B 3 d [97, 98, 99] W (noughts_len 16) hrk rfl (by decide) hrb
  have hO := fun (D B : Option Addr) (d : Nat) W hrk hrb => s_open_ok D 16 (noughts 16) 1 (by decide) B 3 d (turnL (noughts 16) 1 [97, 98, 99]) _ W (noughts_len 16) hrk htl (by decide) hrb rfl
  have hw := wi_rng (tagS (noughts 16) 1 (turnL (noughts 16) 1 [97, 98, 99]))
  have hN := fun (D B : Option Addr) (d : Nat) W hrk hrb => s_open_no D 16 (noughts 16) 1 (by decide) B 3 d (turnL (noughts 16) 1 [97, 98, 99]) ((wi (tagS (noughts 16) 1 (turnL (noughts 16) 1 [97, 98, 99])) + 1) % 4294967296) W (noughts_len 16) hrk htl (by decide) hrb (by simp; omega)
  rw [htw] at hO
  have F0 := Lib.hid f0
  have R1 := Lib.hid r1
  have B0 := Lib.hid hb0
  have HS := Lib.hid hS
  have HO := Lib.hid hO
  have HN := Lib.hid hN
  clear f0 r1 hb0 hS hO hN htl htw
  generalize wi (tagS (noughts 16) 1 (turnL (noughts 16) 1 [97, 98, 99])) = t at *
  generalize turnL (noughts 16) 1 [97, 98, 99] = x at *
  have hwt : IntKind.u32.wrap (t + 1) = (t + 1) % 4294967296 := by rw [IntKind.wrap_u32]
  go_enter Try.func42, Try.ntmps42
  go_wp2_with fail
  refine (HS.out (some ⟨w.heap.size, 0, none⟩) (some ⟨w.heap.size + 1, 0, none⟩) 3 _ F0.out.rd R1.out).mono ?_
  rintro e w1 ⟨D, d, rfl, f1, b1⟩
  have B1 := below_to B0.out b1 B0.out.size
  have rk1 := (F0.out.rd.below b1).more b1.size
  have r1 := f1.rd
  have HRK1 := Lib.hid rk1
  have HR1 := Lib.hid r1
  have HB1 := Lib.hid B1
  clear rk1 r1 B1 f1 b1 F0 R1 B0 hmk hcv
  go_wp2_with fail
  refine (HO.out (some ⟨w.heap.size, 0, none⟩) D d w1 HRK1.out HR1.out).mono ?_
  rintro e w2 ⟨D2, d2, rfl, f2, b2⟩
  have B2 := below_to HB1.out b2 HB1.out.size
  have rk2 := (HRK1.out.below b2).more b2.size
  have r12 := (HR1.out.below b2).more b2.size
  have r2 := f2.rd
  clear f2 b2
  go_wp2_with fail
  refine (HN.out (some ⟨w.heap.size, 0, none⟩) D d w2 rk2 r12).mono ?_
  rintro e w3 ⟨rfl, b3⟩
  have k1 := conv (r2.below b3) d2
  have q1 : (str [97, 98, 99] == ⟨#[97, 98, 99]⟩) = true := by decide
  clear rk2 r12 r2
  go_wp2
  go_ret
  exact ⟨rfl, below_to B2 b3 B2.size⟩

theorem sealNames_walk (w : World) : Calls Try.prog 17 #[] w fun e w' => e = .returned (.bool true) ∧ Below w.heap.size w w' := by
  have hmk15 : ∀ W, (Instr.makeSlice 28 (.int .i64 15) (.int .i64 15)).run Try.prog W = .ok (.slice (some ⟨W.heap.size, 0, none⟩) 15 15) (W.alloc (.cells (bvs (noughts 15)).toArray 5)) := fun W => run_mkN .i64 .i64 15 (by omega) W
  have hmk16 : ∀ W, (Instr.makeSlice 28 (.int .i64 16) (.int .i64 16)).run Try.prog W = .ok (.slice (some ⟨W.heap.size, 0, none⟩) 16 16) (W.alloc (.cells (bvs (noughts 16)).toArray 5)) := fun W => run_mkN .i64 .i64 16 (by omega) W
  have hmk257 : ∀ W, (Instr.makeSlice 28 (.int .i64 257) (.int .i64 257)).run Try.prog W = .ok (.slice (some ⟨W.heap.size, 0, none⟩) 257 257) (W.alloc (.cells (bvs (noughts 257)).toArray 5)) := fun W => run_mkN .i64 .i64 257 (by omega) W
  go_enter Try.func17, Try.ntmps17
  go_wp2_with fail
  go_region_law (go_simp; go_at_call 40; refine (s_seal_h _ 16 16 1 _ 257 257 _ rfl (by decide)).mono ?_; rintro e w' ⟨rfl, hw'⟩)
  all_goals
    have B1 : Below w.heap.size w w' := by rw [← hw']; exact (below_alloc (below_new w _) _ (Nat.le_refl _)).drew
    clear hw'
    go_wp2_with fail
    go_region_law (go_simp; go_at_call 40; refine (s_seal_k _ 15 15 1 _ 257 257 _ (by decide) (by decide)).mono ?_; rintro e w2 ⟨rfl, hw2⟩)
    all_goals
      have B2 : Below w.heap.size w w2 := by rw [← hw2]; exact (below_alloc (below_alloc B1 _ (Nat.le_refl _)) _ (Nat.le_refl _)).drew
      clear hw2
      go_wp2_with fail
      go_region_law (go_simp; go_at_call 41; refine (s_open_h _ 16 16 1 _ 257 257 0 _ rfl (by decide)).mono ?_; rintro e w3 ⟨rfl, hw3⟩)
      all_goals
        have B3 : Below w.heap.size w w3 := by rw [← hw3]; exact (below_alloc (below_alloc B2 _ (Nat.le_refl _)) _ (Nat.le_refl _)).drew
        clear hw3
        go_wp2_with fail
        refine (alive06 w3).mono ?_
        rintro e w4 ⟨rfl, b4⟩
        go_wp2
        go_ret
        exact ⟨rfl, below_to B3 b4 B3.size⟩

theorem sealBack_kb (K : Option Addr) (m c : Nat) (iv : Nat) (B : Option Addr) (n d : Nat) (t : Int) (w : World)
    (h0 : 10000 < (m : Int))
    : Calls Try.prog 19 #[.slice K m c, .int .u32 (iv : Int), .slice B n d, .int .u32 t] w fun e w' => e = .returned (.bool true) ∧ Below w.heap.size w w' := by
  go_enter Try.func19, Try.ntmps19
  go_wp2_with fail
  refine (alive06 _).mono ?_
  rintro e w1 ⟨rfl, b1⟩
  go_wp2
  go_ret
  exact ⟨rfl, b1⟩
theorem sealBack_bb (K : Option Addr) (m c : Nat) (iv : Nat) (B : Option Addr) (n d : Nat) (t : Int) (w : World)
    (h0 : decide (10000 < (m : Int)) = false)
    (h1 : 10000 < (n : Int))
    : Calls Try.prog 19 #[.slice K m c, .int .u32 (iv : Int), .slice B n d, .int .u32 t] w fun e w' => e = .returned (.bool true) ∧ Below w.heap.size w w' := by
  go_enter Try.func19, Try.ntmps19
  go_wp2_with fail
  refine (alive06 _).mono ?_
  rintro e w1 ⟨rfl, b1⟩
  go_wp2
  go_ret
  exact ⟨rfl, b1⟩
theorem sealBack_k (K : Option Addr) (m c : Nat) (iv : Nat) (B : Option Addr) (n d : Nat) (t : Int) (w : World)
    (h0 : decide (10000 < (m : Int)) = false)
    (h1 : decide (10000 < (n : Int)) = false)
    (h2 : ((m : Int) == 16) = false) (h2' : ((m : Int) != 16) = true)
    : Calls Try.prog 19 #[.slice K m c, .int .u32 (iv : Int), .slice B n d, .int .u32 t] w fun e w' => e = .returned (.bool true) ∧ Below w.heap.size w w' := by
  go_enter Try.func19, Try.ntmps19
  go_wp2_with fail
  refine (alive06 _).mono ?_
  rintro e w1 ⟨rfl, b1⟩
  go_wp2_with fail
  refine (s_seal_k K m c iv B n d w1 h2 h2').mono ?_
  rintro e w2 ⟨rfl, rfl⟩
  go_wp2_with fail
  refine (s_open_k K m c iv B n d t w1 h2 h2').mono ?_
  rintro e w2 ⟨rfl, rfl⟩
  go_wp2
  go_ret
  exact ⟨rfl, b1⟩
theorem sealBack_h (K : Option Addr) (m c : Nat) (iv : Nat) (B : Option Addr) (n d : Nat) (t : Int) (w : World)
    (h1 : decide (10000 < (n : Int)) = false)
    (h2 : m = 16)
    (h3 : 256 < (n : Int))
    : Calls Try.prog 19 #[.slice K m c, .int .u32 (iv : Int), .slice B n d, .int .u32 t] w fun e w' => e = .returned (.bool true) ∧ Below w.heap.size w w' := by
  subst h2
  have HH3 := Lib.hid h3
  clear h3
  go_enter Try.func19, Try.ntmps19
  go_wp2_with fail
  refine (alive06 _).mono ?_
  rintro e w1 ⟨rfl, b1⟩
  go_wp2_with fail
  refine (s_seal_h K 16 c iv B n d w1 rfl HH3.out).mono ?_
  rintro e w2 ⟨rfl, rfl⟩
  go_wp2_with fail
  refine (s_open_h K 16 c iv B n d t w1 rfl HH3.out).mono ?_
  rintro e w2 ⟨rfl, rfl⟩
  go_wp2
  go_ret
  exact ⟨rfl, b1⟩

set_option maxHeartbeats 2000000 in
theorem sealBack_ok_yy (K : Option Addr) (c : Nat) (k : List UInt8) (iv : Nat) (hiv : (iv : Int) < 4294967296) (B : Option Addr) (n d : Nat) (b : List UInt8) (t : Int) (w : World) (hk : k.length = 16) (hrk : Rd w w.heap.size 1 K 16 (bvs k))
    (hb : b.length = n) (hn : (n : Int) ≤ 256) (hrb : Rd w w.heap.size 1 B n (bvs b))
    (hE : wi (tagS k iv (turnL k iv b)) = t)
    (hF : wi (tagS k iv b) = t)
    : Calls Try.prog 19 #[.slice K 16 c, .int .u32 (iv : Int), .slice B n d, .int .u32 t] w fun e w' => e = .returned (.bool true) ∧ Below w.heap.size w w' := by
  have h1 : decide (10000 < (n : Int)) = false := by simp; omega
  have htl : (turnL k iv b).length = n := by rw [turnL_len, hb]
  have htw := turnL_twice k iv b
  have hS1 := fun W (h : Below w.heap.size w W) => s_seal K c k iv hiv B n d b W hk ((hrk.below h).more h.size) hb hn ((hrb.below h).more h.size)
  have hO1 := fun (D : Option Addr) (e : Nat) W (h : Below w.heap.size w W) hr => s_open_ok K c k iv hiv D n e (turnL k iv b) _ W hk ((hrk.below h).more h.size) htl hn hr rfl
  have hO2 := fun (D : Option Addr) (e : Nat) W (h : Below w.heap.size w W) hr => s_open_ok K c k iv hiv D n e (turnL k iv b) t W hk ((hrk.below h).more h.size) htl hn hr hE
  have hO3 := fun W (h : Below w.heap.size w W) => s_open_ok K c k iv hiv B n d b t W hk ((hrk.below h).more h.size) hb hn ((hrb.below h).more h.size) hF
  have hS2 := fun (D : Option Addr) (e : Nat) W (h : Below w.heap.size w W) hr => s_seal K c k iv hiv D n e (turnL k iv b) W hk ((hrk.below h).more h.size) htl hn hr
  rw [htw, hF] at hS2
  have HS2 := Lib.hid hS2
  clear hS2
  rw [htw] at hO1
  rw [htw] at hO2
  rw [hE] at hO1 hS1
  have HS1 := Lib.hid hS1
  have HO1 := Lib.hid hO1
  have HO2 := Lib.hid hO2
  have HO3 := Lib.hid hO3
  have HRB := Lib.hid hrb
  clear hS1 hO1 hO2 hO3 hrk hrb hn hiv htw htl hE hF
  generalize turnL k iv b = x at *
  go_enter Try.func19, Try.ntmps19
  go_wp2_with fail
  refine (alive06 _).mono ?_
  rintro e w1 ⟨rfl, b1⟩
  go_wp2_with fail
  refine (HS1.out w1 b1).mono ?_
  rintro e w2 ⟨D2, d2, rfl, f2, b2⟩
  have B2 := below_to b1 b2 b1.size
  have r2 := f2.rd
  clear f2 b2
  go_wp2_with fail
  refine (HO1.out D2 d2 w2 B2 r2).mono ?_
  rintro e w3 ⟨D3, d3, rfl, f3, b3⟩
  have B3 := below_to B2 b3 B2.size
  have r23 := (r2.below b3).more b3.size
  have r3 := f3.rd
  clear f3 b3 r2
  go_wp2_with fail
  refine (HO2.out D2 d2 w3 B3 r23).mono ?_
  rintro e w4 ⟨D4, d4, rfl, f4, b4⟩
  have B4 := below_to B3 b4 B3.size
  have k1 := conv (r3.below b4) d3
  have k2 := conv (HRB.out.below B4) d
  clear b4 r23 r3
  clear f4
  go_wp2_with fail
  clear k1 k2
  refine (HO3.out w4 B4).mono ?_
  rintro e w5 ⟨D5, d5, rfl, f5, b5⟩
  have B5 := below_to B4 b5 B4.size
  have r5 := f5.rd
  clear f5 b5
  go_wp2_with fail
  refine (HS2.out D5 d5 w5 B5 r5).mono ?_
  rintro e w6 ⟨D6, d6, rfl, f6, b6⟩
  have B6 := below_to B5 b6 B5.size
  have k3 := conv f6.rd d6
  have k4 := conv (HRB.out.below B6) d
  clear f6 b6
  go_wp2
  go_ret
  exact ⟨rfl, B6⟩
set_option maxHeartbeats 2000000 in
theorem sealBack_ok_yn (K : Option Addr) (c : Nat) (k : List UInt8) (iv : Nat) (hiv : (iv : Int) < 4294967296) (B : Option Addr) (n d : Nat) (b : List UInt8) (t : Int) (w : World) (hk : k.length = 16) (hrk : Rd w w.heap.size 1 K 16 (bvs k))
    (hb : b.length = n) (hn : (n : Int) ≤ 256) (hrb : Rd w w.heap.size 1 B n (bvs b))
    (hE : wi (tagS k iv (turnL k iv b)) = t)
    (hF : (wi (tagS k iv b) != t) = true)
    : Calls Try.prog 19 #[.slice K 16 c, .int .u32 (iv : Int), .slice B n d, .int .u32 t] w fun e w' => e = .returned (.bool true) ∧ Below w.heap.size w w' := by
  have h1 : decide (10000 < (n : Int)) = false := by simp; omega
  have htl : (turnL k iv b).length = n := by rw [turnL_len, hb]
  have htw := turnL_twice k iv b
  have hS1 := fun W (h : Below w.heap.size w W) => s_seal K c k iv hiv B n d b W hk ((hrk.below h).more h.size) hb hn ((hrb.below h).more h.size)
  have hO1 := fun (D : Option Addr) (e : Nat) W (h : Below w.heap.size w W) hr => s_open_ok K c k iv hiv D n e (turnL k iv b) _ W hk ((hrk.below h).more h.size) htl hn hr rfl
  have hO2 := fun (D : Option Addr) (e : Nat) W (h : Below w.heap.size w W) hr => s_open_ok K c k iv hiv D n e (turnL k iv b) t W hk ((hrk.below h).more h.size) htl hn hr hE
  have hO3 := fun W (h : Below w.heap.size w W) => s_open_no K c k iv hiv B n d b t W hk ((hrk.below h).more h.size) hb hn ((hrb.below h).more h.size) hF
  rw [htw] at hO1
  rw [htw] at hO2
  rw [hE] at hO1 hS1
  have HS1 := Lib.hid hS1
  have HO1 := Lib.hid hO1
  have HO2 := Lib.hid hO2
  have HO3 := Lib.hid hO3
  have HRB := Lib.hid hrb
  clear hS1 hO1 hO2 hO3 hrk hrb hn hiv htw htl hE hF
  generalize turnL k iv b = x at *
  go_enter Try.func19, Try.ntmps19
  go_wp2_with fail
  refine (alive06 _).mono ?_
  rintro e w1 ⟨rfl, b1⟩
  go_wp2_with fail
  refine (HS1.out w1 b1).mono ?_
  rintro e w2 ⟨D2, d2, rfl, f2, b2⟩
  have B2 := below_to b1 b2 b1.size
  have r2 := f2.rd
  clear f2 b2
  go_wp2_with fail
  refine (HO1.out D2 d2 w2 B2 r2).mono ?_
  rintro e w3 ⟨D3, d3, rfl, f3, b3⟩
  have B3 := below_to B2 b3 B2.size
  have r23 := (r2.below b3).more b3.size
  have r3 := f3.rd
  clear f3 b3 r2
  go_wp2_with fail
  refine (HO2.out D2 d2 w3 B3 r23).mono ?_
  rintro e w4 ⟨D4, d4, rfl, f4, b4⟩
  have B4 := below_to B3 b4 B3.size
  have k1 := conv (r3.below b4) d3
  have k2 := conv (HRB.out.below B4) d
  clear b4 r23 r3
  clear f4
  go_wp2_with fail
  clear k1 k2
  refine (HO3.out w4 B4).mono ?_
  rintro e w5 ⟨rfl, b5⟩
  have B5 := below_to B4 b5 B4.size
  go_wp2
  go_ret
  exact ⟨rfl, B5⟩
set_option maxHeartbeats 2000000 in
theorem sealBack_ok_ny (K : Option Addr) (c : Nat) (k : List UInt8) (iv : Nat) (hiv : (iv : Int) < 4294967296) (B : Option Addr) (n d : Nat) (b : List UInt8) (t : Int) (w : World) (hk : k.length = 16) (hrk : Rd w w.heap.size 1 K 16 (bvs k))
    (hb : b.length = n) (hn : (n : Int) ≤ 256) (hrb : Rd w w.heap.size 1 B n (bvs b))
    (hE : (wi (tagS k iv (turnL k iv b)) != t) = true)
    (hF : wi (tagS k iv b) = t)
    : Calls Try.prog 19 #[.slice K 16 c, .int .u32 (iv : Int), .slice B n d, .int .u32 t] w fun e w' => e = .returned (.bool true) ∧ Below w.heap.size w w' := by
  have h1 : decide (10000 < (n : Int)) = false := by simp; omega
  have htl : (turnL k iv b).length = n := by rw [turnL_len, hb]
  have htw := turnL_twice k iv b
  have hS1 := fun W (h : Below w.heap.size w W) => s_seal K c k iv hiv B n d b W hk ((hrk.below h).more h.size) hb hn ((hrb.below h).more h.size)
  have hO1 := fun (D : Option Addr) (e : Nat) W (h : Below w.heap.size w W) hr => s_open_ok K c k iv hiv D n e (turnL k iv b) _ W hk ((hrk.below h).more h.size) htl hn hr rfl
  have hO2 := fun (D : Option Addr) (e : Nat) W (h : Below w.heap.size w W) hr => s_open_no K c k iv hiv D n e (turnL k iv b) t W hk ((hrk.below h).more h.size) htl hn hr hE
  have hO3 := fun W (h : Below w.heap.size w W) => s_open_ok K c k iv hiv B n d b t W hk ((hrk.below h).more h.size) hb hn ((hrb.below h).more h.size) hF
  have hS2 := fun (D : Option Addr) (e : Nat) W (h : Below w.heap.size w W) hr => s_seal K c k iv hiv D n e (turnL k iv b) W hk ((hrk.below h).more h.size) htl hn hr
  rw [htw, hF] at hS2
  have HS2 := Lib.hid hS2
  clear hS2
  rw [htw] at hO1
  have hne : (wi (tagS k iv (turnL k iv b)) == t) = false := by simpa using hE
  have HS1 := Lib.hid hS1
  have HO1 := Lib.hid hO1
  have HO2 := Lib.hid hO2
  have HO3 := Lib.hid hO3
  have HRB := Lib.hid hrb
  clear hS1 hO1 hO2 hO3 hrk hrb hn hiv htw htl hE hF
  generalize wi (tagS k iv (turnL k iv b)) = t' at *
  generalize turnL k iv b = x at *
  go_enter Try.func19, Try.ntmps19
  go_wp2_with fail
  refine (alive06 _).mono ?_
  rintro e w1 ⟨rfl, b1⟩
  go_wp2_with fail
  refine (HS1.out w1 b1).mono ?_
  rintro e w2 ⟨D2, d2, rfl, f2, b2⟩
  have B2 := below_to b1 b2 b1.size
  have r2 := f2.rd
  clear f2 b2
  go_wp2_with fail
  refine (HO1.out D2 d2 w2 B2 r2).mono ?_
  rintro e w3 ⟨D3, d3, rfl, f3, b3⟩
  have B3 := below_to B2 b3 B2.size
  have r23 := (r2.below b3).more b3.size
  have r3 := f3.rd
  clear f3 b3 r2
  go_wp2_with fail
  refine (HO2.out D2 d2 w3 B3 r23).mono ?_
  rintro e w4 ⟨rfl, b4⟩
  have B4 := below_to B3 b4 B3.size
  have k1 := conv (r3.below b4) d3
  have k2 := conv (HRB.out.below B4) d
  clear b4 r23 r3
  go_wp2_with fail
  clear k1 k2
  refine (HO3.out w4 B4).mono ?_
  rintro e w5 ⟨D5, d5, rfl, f5, b5⟩
  have B5 := below_to B4 b5 B4.size
  have r5 := f5.rd
  clear f5 b5
  go_wp2_with fail
  refine (HS2.out D5 d5 w5 B5 r5).mono ?_
  rintro e w6 ⟨D6, d6, rfl, f6, b6⟩
  have B6 := below_to B5 b6 B5.size
  have k3 := conv f6.rd d6
  have k4 := conv (HRB.out.below B6) d
  clear f6 b6
  go_wp2
  go_ret
  exact ⟨rfl, B6⟩
set_option maxHeartbeats 2000000 in
theorem sealBack_ok_nn (K : Option Addr) (c : Nat) (k : List UInt8) (iv : Nat) (hiv : (iv : Int) < 4294967296) (B : Option Addr) (n d : Nat) (b : List UInt8) (t : Int) (w : World) (hk : k.length = 16) (hrk : Rd w w.heap.size 1 K 16 (bvs k))
    (hb : b.length = n) (hn : (n : Int) ≤ 256) (hrb : Rd w w.heap.size 1 B n (bvs b))
    (hE : (wi (tagS k iv (turnL k iv b)) != t) = true)
    (hF : (wi (tagS k iv b) != t) = true)
    : Calls Try.prog 19 #[.slice K 16 c, .int .u32 (iv : Int), .slice B n d, .int .u32 t] w fun e w' => e = .returned (.bool true) ∧ Below w.heap.size w w' := by
  have h1 : decide (10000 < (n : Int)) = false := by simp; omega
  have htl : (turnL k iv b).length = n := by rw [turnL_len, hb]
  have htw := turnL_twice k iv b
  have hS1 := fun W (h : Below w.heap.size w W) => s_seal K c k iv hiv B n d b W hk ((hrk.below h).more h.size) hb hn ((hrb.below h).more h.size)
  have hO1 := fun (D : Option Addr) (e : Nat) W (h : Below w.heap.size w W) hr => s_open_ok K c k iv hiv D n e (turnL k iv b) _ W hk ((hrk.below h).more h.size) htl hn hr rfl
  have hO2 := fun (D : Option Addr) (e : Nat) W (h : Below w.heap.size w W) hr => s_open_no K c k iv hiv D n e (turnL k iv b) t W hk ((hrk.below h).more h.size) htl hn hr hE
  have hO3 := fun W (h : Below w.heap.size w W) => s_open_no K c k iv hiv B n d b t W hk ((hrk.below h).more h.size) hb hn ((hrb.below h).more h.size) hF
  rw [htw] at hO1
  have hne : (wi (tagS k iv (turnL k iv b)) == t) = false := by simpa using hE
  have HS1 := Lib.hid hS1
  have HO1 := Lib.hid hO1
  have HO2 := Lib.hid hO2
  have HO3 := Lib.hid hO3
  have HRB := Lib.hid hrb
  clear hS1 hO1 hO2 hO3 hrk hrb hn hiv htw htl hE hF
  generalize wi (tagS k iv (turnL k iv b)) = t' at *
  generalize turnL k iv b = x at *
  go_enter Try.func19, Try.ntmps19
  go_wp2_with fail
  refine (alive06 _).mono ?_
  rintro e w1 ⟨rfl, b1⟩
  go_wp2_with fail
  refine (HS1.out w1 b1).mono ?_
  rintro e w2 ⟨D2, d2, rfl, f2, b2⟩
  have B2 := below_to b1 b2 b1.size
  have r2 := f2.rd
  clear f2 b2
  go_wp2_with fail
  refine (HO1.out D2 d2 w2 B2 r2).mono ?_
  rintro e w3 ⟨D3, d3, rfl, f3, b3⟩
  have B3 := below_to B2 b3 B2.size
  have r23 := (r2.below b3).more b3.size
  have r3 := f3.rd
  clear f3 b3 r2
  go_wp2_with fail
  refine (HO2.out D2 d2 w3 B3 r23).mono ?_
  rintro e w4 ⟨rfl, b4⟩
  have B4 := below_to B3 b4 B3.size
  have k1 := conv (r3.below b4) d3
  have k2 := conv (HRB.out.below B4) d
  clear b4 r23 r3
  go_wp2_with fail
  clear k1 k2
  refine (HO3.out w4 B4).mono ?_
  rintro e w5 ⟨rfl, b5⟩
  have B5 := below_to B4 b5 B4.size
  go_wp2
  go_ret
  exact ⟨rfl, B5⟩
theorem sealBack_walk (K : Option Addr) (m c : Nat) (k : List UInt8) (iv : Nat) (hiv : (iv : Int) < 4294967296) (B : Option Addr) (n d : Nat) (b : List UInt8) (t : Int) (w : World) (hk : k.length = m) (hrk : Rd w w.heap.size 1 K m (bvs k))
    (hb : b.length = n) (hrb : Rd w w.heap.size 1 B n (bvs b)) :
    Calls Try.prog 19 #[.slice K m c, .int .u32 (iv : Int), .slice B n d, .int .u32 t] w fun e w' => e = .returned (.bool true) ∧ Below w.heap.size w w' := by
  by_cases h0 : 10000 < (m : Int)
  · exact sealBack_kb K m c iv B n d t w h0
  · by_cases h1 : 10000 < (n : Int)
    · exact sealBack_bb K m c iv B n d t w (by simp; omega) h1
    · by_cases h2 : m = 16
      · by_cases h3 : 256 < (n : Int)
        · exact sealBack_h K m c iv B n d t w (by simp; omega) h2 h3
        · subst h2
          by_cases hE : wi (tagS k iv (turnL k iv b)) = t
          · by_cases hF : wi (tagS k iv b) = t
            · exact sealBack_ok_yy K c k iv hiv B n d b t w hk hrk hb (by omega) hrb hE hF
            · exact sealBack_ok_yn K c k iv hiv B n d b t w hk hrk hb (by omega) hrb hE (by simpa using hF)
          · by_cases hF : wi (tagS k iv b) = t
            · exact sealBack_ok_ny K c k iv hiv B n d b t w hk hrk hb (by omega) hrb (by simpa using hE) hF
            · exact sealBack_ok_nn K c k iv hiv B n d b t w hk hrk hb (by omega) hrb (by simpa using hE) (by simpa using hF)
      · exact sealBack_k K m c iv B n d t w (by simp; omega) (by simp; omega) (by simp; omega) (by simp; omega)
end Go.Proofs.Ytfjjkkakhfgdhaa
