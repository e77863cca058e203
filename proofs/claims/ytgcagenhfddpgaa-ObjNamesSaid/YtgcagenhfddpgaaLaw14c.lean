/-
  The walk of ObjNames.
-/
import Derived.Test.YtgcagenhfddpgaaLaw14b
namespace Go.Proofs.Ytgcagenhfddpgaa
open Go.RowKit
set_option linter.unusedVariables false
set_option linter.unusedSimpArgs false
set_option maxRecDepth 100000
attribute [local go_sem] str_toList toList_mk

theorem obj_read_bad (A : Option Addr) (c : Nat) (l : List UInt8) (w : World) (hl : l.length = 256) (hc : 256 ≤ c) (hr : Rd w w.heap.size 1 A 256 (bvs l)) (h : ¬ RdOk l) :
    Calls Try.prog 40 #[.slice A 256 c] w fun e w' => e = .returned (.tuple #[.agg #[.int .u8 0, .int .i64 0, .int .i64 0, .slice none 0 0], .int .i64 8]) ∧ Below w.heap.size w w' := by
  by_cases h1 : AllMay (rowsL (padL l))
  · by_cases h2 : MidOk l
    · by_cases h3 : ObMay (byteN l 0 : Int) (byteN l 1 : Int) (numS l) (rdData l)
      · exact absurd ⟨hl, h1, h2, h3⟩ h
      · exact obj_read_chk A c l w hl hc hr h1 h2 h3
    · exact obj_read_mid A c l w hl hc hr h1 h2
  · exact obj_read_rows A c l w hl hc hr h1
theorem Rd.takeP {w : World} {B n k : Nat} {A : Option Addr} {l : List Pt} (h : Rd w B 5 A n (pcs l)) (hk : k ≤ n) : Rd w B 5 A k (pcs (l.take k)) := by
  rw [← pcs_take]
  exact h.take hk
theorem noughts_bad : ¬ RdOk (noughts 256) := by
  intro h
  have := h.2.2.2.1.1
  simp [byteN, noughts] at this
set_option maxHeartbeats 2000000 in
theorem objNames_walk (w : World) : Calls Try.prog 16 #[] w fun e w' => e = .returned (.bool true) ∧ Below w.heap.size w w' := by
  have hm1 : ∀ W, (Instr.makeSlice 23 (.int .i64 256) (.int .i64 256)).run Try.prog W = .ok (.slice (some ⟨W.heap.size, 0, none⟩) 256 256) (W.alloc (.cells (bvs (noughts 256)).toArray 5)) := fun W => run_mkN okB .i64 .i64 256 (by omega) W
  have hm2 : ∀ W, (Instr.makeSlice 23 (.int .i64 255) (.int .i64 255)).run Try.prog W = .ok (.slice (some ⟨W.heap.size, 0, none⟩) 255 255) (W.alloc (.cells (bvs (noughts 255)).toArray 5)) := fun W => run_mkN okB .i64 .i64 255 (by omega) W
  have hE8 : obE 8 2 300 (holes 15) = 8 := obE_no fun h => by have := h.1.2; omega
  have hE14 : obE 1 2 300 ((holes 15).take 14) = 8 := obE_no fun h => by have := h.2.2.2.1; rw [List.length_take, holes_len] at this; omega
  have hE0 : obE 1 2 300 (holes 15) = 0 := obE_yes empty_may
  have hc8 := fun (A : Option Addr) (W : World) hr => obj_check 8 2 300 A 15 15 (holes 15) W (holes_len 15) hr ⟨by omega, by omega⟩ 8 hE8
  have hc14 := fun (A : Option Addr) (W : World) hr => obj_check 1 2 300 A 14 15 ((holes 15).take 14) W (by rw [List.length_take, holes_len]; rfl) hr ⟨by omega, by omega⟩ 8 hE14
  have hc0 := fun (A : Option Addr) (W : World) hr => obj_check 1 2 300 A 15 15 (holes 15) W (holes_len 15) hr ⟨by omega, by omega⟩ 0 hE0
  have HC8 := Lib.hid hc8
  have HC14 := Lib.hid hc14
  have HC0 := Lib.hid hc0
  clear hE8 hE14 hE0 hc8 hc14 hc0
  go_enter Try.func16, Try.ntmps16
  go_wp2_with fail
  have b0 := below_new w (.cells (bvs (noughts 256)).toArray 5)
  refine (obj_read_bad _ 256 (noughts 256) _ (noughts_len 256) (Nat.le_refl _) (fr_mkN w 5 256 (by omega) (base := 0) (Nat.zero_le _)).rd noughts_bad).mono ?_
  rintro e w1 ⟨rfl, b1⟩
  have hb1 := below_to b0 b1 b0.size
  have hb2 := below_alloc hb1 (.cells #[.int .u8 0, .int .i64 0, .int .i64 0, .slice none 0 0] 50) (Nat.le_refl _)
  have hb3 := below_alloc hb2 (.cells (bvs (noughts 255)).toArray 5) (Nat.le_refl _)
  have HB3 := Lib.hid hb3
  clear b0 b1 hb1 hb2 hb3
  go_wp2_with fail
  refine (obj_read_len _ 255 255 _ (by decide)).mono ?_
  rintro e w2 ⟨rfl, b2⟩
  have hb4 := below_to HB3.out b2 HB3.out.size
  have hb5 := below_alloc hb4 (.cells #[.int .u8 0, .int .i64 0, .int .i64 0, .slice none 0 0] 50) (Nat.le_refl _)
  have HB5 := Lib.hid hb5
  clear b2 hb4 hb5
  go_wp2_with fail
  refine (ob_empty _).mono ?_
  rintro e w3 ⟨rfl, f3, b3⟩
  rw [World.size_alloc] at f3
  have hb6 := below_to HB5.out b3 HB5.out.size
  have HB6 := Lib.hid hb6
  have HF3 := Lib.hid f3
  clear b3 f3 hb6
  go_wp2_with fail
  refine (ob_empty _).mono ?_
  rintro e w4 ⟨rfl, f4, b4⟩
  have hb7 := below_to HB6.out b4 HB6.out.size
  have r3 := (HF3.out.rd.below b4).more b4.size
  have HB7 := Lib.hid hb7
  have HR3 := Lib.hid r3
  have HR4 := Lib.hid f4.rd
  clear b4 f4 hb7 r3
  go_wp2_with fail
  have x5 := (ObBox.new w4 8 2 300 (.slice (some ⟨w2.heap.size + 1 + 1, 0, none⟩) 15 15)).alloc (.cells #[.int .u8 1, .int .i64 2, .int .i64 300, .slice (some ⟨w3.heap.size + 1, 0, none⟩) 14 15] 50)
  have y5 := ObBox.new (w4.alloc (.cells #[.int .u8 8, .int .i64 2, .int .i64 300, .slice (some ⟨w2.heap.size + 1 + 1, 0, none⟩) 15 15] 50)) 1 2 300 (.slice (some ⟨w3.heap.size + 1, 0, none⟩) 14 15)
  rw [World.size_alloc] at y5
  have b5 := below_alloc (below_alloc HB7.out (.cells #[.int .u8 8, .int .i64 2, .int .i64 300, .slice (some ⟨w2.heap.size + 1 + 1, 0, none⟩) 15 15] 50) (Nat.le_refl _)) (.cells #[.int .u8 1, .int .i64 2, .int .i64 300, .slice (some ⟨w3.heap.size + 1, 0, none⟩) 14 15] 50) (Nat.le_refl _)
  have r3 := ((HR3.out.alloc (Nat.le_refl _) (.cells #[.int .u8 8, .int .i64 2, .int .i64 300, .slice (some ⟨w2.heap.size + 1 + 1, 0, none⟩) 15 15] 50)).alloc (by rw [World.size_alloc]; omega) (.cells #[.int .u8 1, .int .i64 2, .int .i64 300, .slice (some ⟨w3.heap.size + 1, 0, none⟩) 14 15] 50)).more (B' := w4.heap.size + 2) (by omega)
  have r4 := ((HR4.out.alloc (Nat.le_refl _) (.cells #[.int .u8 8, .int .i64 2, .int .i64 300, .slice (some ⟨w2.heap.size + 1 + 1, 0, none⟩) 15 15] 50)).alloc (by rw [World.size_alloc]; omega) (.cells #[.int .u8 1, .int .i64 2, .int .i64 300, .slice (some ⟨w3.heap.size + 1, 0, none⟩) 14 15] 50)).more (B' := w4.heap.size + 2) (by omega)
  have z5 : ((w4.alloc (.cells #[.int .u8 8, .int .i64 2, .int .i64 300, .slice (some ⟨w2.heap.size + 1 + 1, 0, none⟩) 15 15] 50)).alloc (.cells #[.int .u8 1, .int .i64 2, .int .i64 300, .slice (some ⟨w3.heap.size + 1, 0, none⟩) 14 15] 50)).heap.size = w4.heap.size + 2 := by rw [World.size_alloc, World.size_alloc]
  rw [← z5] at r3 r4
  have HX5 := Lib.hid x5
  have HY5 := Lib.hid y5
  have HB5' := Lib.hid b5
  have HR3' := Lib.hid r3
  have HR4' := Lib.hid r4
  clear x5 y5 b5 r3 r4 HR3 HR4 z5
  refine (alive14 _).mono ?_
  rintro e w6 ⟨rfl, b6⟩
  have x6 := HX5.out.below b6 HX5.out.lt
  have y6 := HY5.out.below b6 HY5.out.lt
  have hb6 := below_to HB5'.out b6 HB5'.out.size
  have r6 := (HR3'.out.below b6).more b6.size
  have s6 := (HR4'.out.below b6).more b6.size
  obtain ⟨p0, p1, p2, p3⟩ := x6.cells
  obtain ⟨q0, q1, q2, q3⟩ := y6.cells
  have HX6 := Lib.hid x6
  have HY6 := Lib.hid y6
  have HB6' := Lib.hid hb6
  have HR6 := Lib.hid r6
  have HS6 := Lib.hid s6
  clear x6 y6 b6 hb6 r6 s6 HX5 HY5 HB5' HR3' HR4'
  go_wp2_with fail
  refine (HC8.out _ w6 HR6.out).mono ?_
  rintro e w7 ⟨rfl, b7⟩
  have y7 := HY6.out.below b7 HY6.out.lt
  have hb7 := below_to HB6'.out b7 HB6'.out.size
  have s7 := (HS6.out.below b7).more b7.size
  clear p0 p1 p2 p3 q0 q1 q2 q3
  obtain ⟨q0, q1, q2, q3⟩ := y7.cells
  have s8 := s7.takeP (k := 14) (by omega)
  have HY7 := Lib.hid y7
  have HB7' := Lib.hid hb7
  have HS8 := Lib.hid s8
  clear y7 b7 hb7 s7 s8 HX6 HY6 HR6 HS6
  go_wp2_with fail
  refine (HC14.out _ w7 HS8.out).mono ?_
  rintro e w8 ⟨rfl, b8⟩
  have hb8 := below_to HB7'.out b8 HB7'.out.size
  have HB8 := Lib.hid hb8
  clear q0 q1 q2 q3 hb8 b8
  go_wp2_with fail
  refine (ob_empty _).mono ?_
  rintro e w9 ⟨rfl, f9, b9⟩
  have hb9 := below_to HB8.out b9 HB8.out.size
  have HR9 := Lib.hid f9.rd
  have HB9 := Lib.hid hb9
  clear f9 b9 hb9
  go_wp2_with fail
  refine (HC0.out _ w9 HR9.out).mono ?_
  rintro e w10 ⟨rfl, b10⟩
  have hb10 := below_to HB9.out b10 HB9.out.size
  go_wp2
  go_ret
  exact ⟨rfl, hb10⟩
end Go.Proofs.Ytgcagenhfddpgaa
