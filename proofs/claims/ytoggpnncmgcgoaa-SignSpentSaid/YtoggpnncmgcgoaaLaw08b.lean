/-
  A signature is right, plain; the walks of layer 8's statements: alive, SignNames.
-/
import Derived.Test.YtoggpnncmgcgoaaLaw08a
namespace Go.Proofs.Ytoggpnncmgcgoaa
open Go.RowKit
set_option linter.unusedVariables false
set_option linter.unusedSimpArgs false
set_option maxRecDepth 100000
attribute [local go_sem] str_toList toList_mk

/-! ### plain -/
theorem sgN_take (seed : List UInt8) (spent : Nat) (text : List UInt8) : ∀ r, (sgN seed spent text r).take 161 = UInt8.ofNat spent :: sigL seed spent text
  | 0 => by
    rw [sgN]
    exact List.take_of_length_le (by rw [List.length_cons, sigL_len]; exact Nat.le_refl _)
  | r + 1 => by
    rw [sgN, List.take_append_of_le_length (by rw [sgN_len]; omega), sgN_take seed spent text r]
theorem atL_sg (seed : List UInt8) {spent : Nat} (h : spent < 8) (text : List UInt8) : atL (sgL seed spent text) = spent := by
  have h1 := sgN_take seed spent text 3
  have h2 : (sgL seed spent text)[0]? = some (UInt8.ofNat spent) := by
    have := congrArg (fun l : List UInt8 => l[0]?) h1
    simp only [List.getElem?_cons_zero] at this
    rw [List.getElem?_take_of_lt (by omega)] at this
    exact this
  rw [atL, List.getD_eq_getElem?_getD, h2]
  exact byte_nat (by omega)
theorem partL_sg (seed : List UInt8) (spent : Nat) (text : List UInt8) : partL (sgL seed spent text) = sigL seed spent text := by
  have h1 := sgN_take seed spent text 3
  have h2 : ((sgL seed spent text).take 161).drop 1 = sigL seed spent text := by
    show ((sgN seed spent text 3).take 161).drop 1 = _
    rw [h1]
    rfl
  rw [partL, ← h2, List.drop_take]
theorem besideL_sg (seed : List UInt8) (spent : Nat) (text : List UInt8) (m r : Nat) (h : r < m) : ((sgN seed spent text m).drop (161 + 16 * r)).take 16 = nodeL seed r (sib (spent / 2 ^ r)) := by
  induction m with
  | zero => omega
  | succ m ih =>
    have hl := sgN_len seed spent text m
    rw [sgN]
    by_cases h2 : r < m
    · rw [List.drop_append_of_le_length (by omega), List.take_append_of_le_length (by rw [List.length_drop]; omega), ih h2]
    · obtain rfl : r = m := by omega
      rw [List.drop_left' hl]
      exact List.take_of_length_le (by rw [nodeL_len]; exact Nat.le_refl _)
theorem foldN_sg (seed : List UInt8) (spent : Nat) (text : List UInt8) : ∀ r, r ≤ 3 → foldN spent (pubL seed spent) (sgL seed spent text) r = nodeL seed r (spent / 2 ^ r)
  | 0, _ => by
    rw [foldN, Nat.pow_zero, Nat.div_one]
    rfl
  | r + 1, h => by
    have ih := foldN_sg seed spent text r (by omega)
    have hb : besideL (sgL seed spent text) r = nodeL seed r (sib (spent / 2 ^ r)) := besideL_sg seed spent text 3 r (by omega)
    have hup : spent / 2 ^ (r + 1) = spent / 2 ^ r / 2 := by rw [Nat.pow_succ, Nat.div_div_eq_div_mul]
    rw [foldN, ih, hb, hup, nodeL]
    by_cases hp : spent / 2 ^ r % 2 = 1
    · rw [if_pos hp, sib, if_pos hp, show spent / 2 ^ r - 1 = 2 * (spent / 2 ^ r / 2) by omega, show spent / 2 ^ r = 2 * (spent / 2 ^ r / 2) + 1 by omega]
      congr 2 <;> omega
    · rw [if_neg hp, sib, if_neg hp]
      have h1 : 2 * (spent / 2 ^ r / 2) = spent / 2 ^ r := by omega
      rw [h1]
/-- WHAT WAS SIGNED IS RIGHT. -/
theorem chk_right (seed : List UInt8) {spent : Nat} (h : spent < 8) (text : List UInt8) : chkL (nodeL seed 3 0) text (sgL seed spent text) = true := by
  rw [chkL, atL_sg seed h, partL_sg, recL_right, foldN_sg seed spent text 3 (Nat.le_refl _), Nat.div_eq_of_lt (show spent < 2 ^ 3 by omega)]
  simp [eqB]
theorem chk_abd : chkL (nodeL seed16 3 0) [97, 98, 100] (sgL seed16 0 [97, 98, 99]) = false := by
  have h := abd_else
  have b0 : besideL (sgL seed16 0 [97, 98, 99]) 0 = nodeL seed16 0 1 := by rw [besideL]; exact besideL_sg seed16 0 [97, 98, 99] 3 0 (by omega)
  have b1 : besideL (sgL seed16 0 [97, 98, 99]) 1 = nodeL seed16 1 1 := by rw [besideL]; exact besideL_sg seed16 0 [97, 98, 99] 3 1 (by omega)
  have b2 : besideL (sgL seed16 0 [97, 98, 99]) 2 = nodeL seed16 2 1 := by rw [besideL]; exact besideL_sg seed16 0 [97, 98, 99] 3 2 (by omega)
  rw [chkL, atL_sg seed16 (by omega), partL_sg]
  simp only [foldN, Nat.zero_div, Nat.zero_mod, if_neg (show ¬ (0 = 1) by decide), b0, b1, b2]
  simp only [foldL, Nat.zero_div, Nat.zero_mod, if_neg (show ¬ (0 = 1) by decide)] at h
  simp only [eqB, decide_eq_false_iff_not]
  exact h

/-! ### alive -/
theorem alive08 (w : World) : Calls Try.prog 36 #[] w fun e w' => e = .returned (.bool true) ∧ Below w.heap.size w w' := by
  have hcv := Go.Lib.run_convert_bytes_const (P := Try.prog) w 22 5 #[.int .u8 97, .int .u8 32, .int .u8 115, .int .u8 101, .int .u8 101, .int .u8 100, .int .u8 32, .int .u8 111, .int .u8 102, .int .u8 32, .int .u8 115, .int .u8 105, .int .u8 120, .int .u8 116, .int .u8 101, .int .u8 101] 16 16 Try.underlying22 Try.underlying5
  rw [show (#[.int .u8 97, .int .u8 32, .int .u8 115, .int .u8 101, .int .u8 101, .int .u8 100, .int .u8 32, .int .u8 111, .int .u8 102, .int .u8 32, .int .u8 115, .int .u8 105, .int .u8 120, .int .u8 116, .int .u8 101, .int .u8 101] : Array Value).size = 16 from rfl] at hcv
  have hcv2 := fun W => Go.Lib.run_convert_bytes_const (P := Try.prog) W 22 5 #[.int .u8 97, .int .u8 98, .int .u8 99] 3 3 Try.underlying22 Try.underlying5
  rw [show (#[.int .u8 97, .int .u8 98, .int .u8 99] : Array Value).size = 3 from rfl] at hcv2
  have hcv3 := fun W => Go.Lib.run_convert_bytes_const (P := Try.prog) W 22 5 #[.int .u8 97, .int .u8 98, .int .u8 100] 3 3 Try.underlying22 Try.underlying5
  rw [show (#[.int .u8 97, .int .u8 98, .int .u8 100] : Array Value).size = 3 from rfl] at hcv3
  have hok := chk_right seed16 (spent := 0) (by omega) [97, 98, 99]
  have hno := chk_abd
  have hpl := nodeL_len seed16 3 0
  have hsl := sgL_len seed16 0 [97, 98, 99]
  have hat := atL_sg seed16 (spent := 0) (by omega) [97, 98, 99]
  have hP := fun (S : Option Addr) (W : World) hr => x_public S 16 seed16 W rfl hr
  have hS := fun (S T : Option Addr) (W : World) hr hrt => x_sign S 16 seed16 0 T 3 3 [97, 98, 99] W rfl hr (by omega) rfl (by decide) (by decide) hrt
  have hC := fun (P T E : Option Addr) (pc ec : Nat) (W : World) (hrp : Rd W W.heap.size 1 P 16 (bvs (nodeL seed16 3 0))) hrt (hec : 209 ≤ ec) (hre : Rd W W.heap.size 1 E 209 (bvs (sgL seed16 0 [97, 98, 99]))) =>
    x_check_ok P pc (nodeL seed16 3 0) T 3 3 [97, 98, 99] E ec (sgL seed16 0 [97, 98, 99]) W hpl hrp rfl (by decide) (by decide) hrt hsl hec hre (by rw [hat]; omega)
  have hD := fun (P T E : Option Addr) (pc ec : Nat) (W : World) (hrp : Rd W W.heap.size 1 P 16 (bvs (nodeL seed16 3 0))) hrt (hec : 209 ≤ ec) (hre : Rd W W.heap.size 1 E 209 (bvs (sgL seed16 0 [97, 98, 99]))) =>
    x_check_ok P pc (nodeL seed16 3 0) T 3 3 [97, 98, 100] E ec (sgL seed16 0 [97, 98, 99]) W hpl hrp rfl (by decide) (by decide) hrt hsl hec hre (by rw [hat]; omega)
  rw [hok] at hC
  rw [hno] at hD
  have HP := Lib.hid hP
  have HS := Lib.hid hS
  have HC := Lib.hid hC
  have HD := Lib.hid hD
  clear hP hS hC hD hok hno hpl hsl hat
  generalize nodeL seed16 3 0 = PL at *
  generalize sgL seed16 0 [97, 98, 99] = SG at *
  have r0 := Rd.ofRow (n := 16) (cs := bvs seed16) (heap_alloc_new w (.cells #[.int .u8 97, .int .u8 32, .int .u8 115, .int .u8 101, .int .u8 101, .int .u8 100, .int .u8 32, .int .u8 111, .int .u8 102, .int .u8 32, .int .u8 115, .int .u8 105, .int .u8 120, .int .u8 116, .int .u8 101, .int .u8 101] 5 (16, 17))) rfl
  have b0 := below_new w (.cells #[.int .u8 97, .int .u8 32, .int .u8 115, .int .u8 101, .int .u8 101, .int .u8 100, .int .u8 32, .int .u8 111, .int .u8 102, .int .u8 32, .int .u8 115, .int .u8 105, .int .u8 120, .int .u8 116, .int .u8 101, .int .u8 101] 5 (16, 17))
  have R0 := Lib.hid r0
  have B0 := Lib.hid b0
  clear r0 b0
  generalize seed16 = SD at *
  go_enter Try.func36, Try.ntmps36
  go_wp2_with fail
  have RA := ((R0.out.alloc (Nat.le_refl _) (.cells #[.slice (some ⟨w.heap.size, 0, none⟩) 16 16, .int .i64 0] 47))).more (B' := w.heap.size + 1 + 1) (by rw [World.size_alloc]; omega)
  have P1 := Pair.new (w.alloc (.cells #[.int .u8 97, .int .u8 32, .int .u8 115, .int .u8 101, .int .u8 101, .int .u8 100, .int .u8 32, .int .u8 111, .int .u8 102, .int .u8 32, .int .u8 115, .int .u8 105, .int .u8 120, .int .u8 116, .int .u8 101, .int .u8 101] 5 (16, 17))) (.slice (some ⟨w.heap.size, 0, none⟩) 16 16) (.int .i64 0)
  have BA := below_alloc B0.out (.cells #[.slice (some ⟨w.heap.size, 0, none⟩) 16 16, .int .i64 0] 47) (Nat.le_refl _)
  rw [World.size_alloc] at P1
  obtain ⟨wa, hwa⟩ : ∃ W, W = (w.alloc (.cells #[.int .u8 97, .int .u8 32, .int .u8 115, .int .u8 101, .int .u8 101, .int .u8 100, .int .u8 32, .int .u8 111, .int .u8 102, .int .u8 32, .int .u8 115, .int .u8 105, .int .u8 120, .int .u8 116, .int .u8 101, .int .u8 101] 5 (16, 17))).alloc (.cells #[.slice (some ⟨w.heap.size, 0, none⟩) 16 16, .int .i64 0] 47) := ⟨_, rfl⟩
  have hz : wa.heap.size = w.heap.size + 1 + 1 := by rw [hwa, World.size_alloc, World.size_alloc]
  rw [← hwa] at RA P1 BA
  rw [← hz] at RA
  obtain ⟨b1, hb1⟩ : ∃ b, b = w.heap.size + 1 := ⟨_, rfl⟩
  rw [← hb1] at P1
  simp only [← hb1, ← hwa]
  have RA' := Lib.hid RA
  have HP1 := Lib.hid P1
  have BA' := Lib.hid BA
  clear hwa hz hb1 RA P1 BA R0 B0
  refine (HP.out _ wa RA'.out).mono ?_
  rintro e w1 ⟨D, d, rfl, f1, b1'⟩
  have P1 := HP1.out.low b1' HP1.out.lt
  have R1 := Lib.hid ((RA'.out.below b1').more b1'.size)
  have F1 := Lib.hid (f1.mono (base' := w.heap.size) BA'.out.size)
  have B1 := Lib.hid (below_to BA'.out b1' BA'.out.size)
  have q0 := P1.c0
  have q1 := P1.c1
  have HP1 := Lib.hid P1
  clear f1 b1' P1 RA' BA'
  have ra := Rd.ofRow (n := 3) (cs := bvs [97, 98, 99]) (heap_alloc_new w1 (.cells #[.int .u8 97, .int .u8 98, .int .u8 99] 5 (3, 4))) rfl
  have ba := below_new w1 (.cells #[.int .u8 97, .int .u8 98, .int .u8 99] 5 (3, 4))
  have RT := Lib.hid ra
  have BT := Lib.hid ba
  clear ra ba
  go_wp2_with fail
  refine (HS.out _ _ _ ((R1.out.below BT.out).more BT.out.size) RT.out).mono ?_
  rintro e w2 ⟨D2, d2, E, ec, rfl, f2, g2, b2⟩
  have bb := below_to BT.out b2 BT.out.size
  have P4 := Pair.new w2 (.slice D2 16 d2) (.int .i64 1)
  have F1 := Lib.hid ((F1.out.below bb (Nat.le_refl _)).alloc (.cells #[.slice D2 16 d2, .int .i64 1] 47))
  have G2 := Lib.hid ((g2.mono (base' := w.heap.size) (Nat.le_trans B1.out.size BT.out.size)).alloc (.cells #[.slice D2 16 d2, .int .i64 1] 47))
  have B2 := Lib.hid (below_alloc (below_to B1.out bb B1.out.size) (.cells #[.slice D2 16 d2, .int .i64 1] 47) (Nat.le_refl _))
  have hcvA := hcv2 (w2.alloc (.cells #[.slice D2 16 d2, .int .i64 1] 47))
  rw [World.size_alloc] at hcvA
  have hec := G2.out.nc
  have ra := Rd.ofRow (n := 3) (cs := bvs [97, 98, 99]) (heap_alloc_new (w2.alloc (.cells #[.slice D2 16 d2, .int .i64 1] 47)) (.cells #[.int .u8 97, .int .u8 98, .int .u8 99] 5 (3, 4))) rfl
  have ba := below_new (w2.alloc (.cells #[.slice D2 16 d2, .int .i64 1] 47)) (.cells #[.int .u8 97, .int .u8 98, .int .u8 99] 5 (3, 4))
  rw [World.size_alloc w2] at ra
  have RT := Lib.hid ra
  have BT := Lib.hid ba
  have HP4 := Lib.hid P4
  clear f2 g2 b2 bb P4 q0 q1 R1 HP1 ra ba
  go_wp2_with fail
  refine (HC.out _ _ _ _ _ _ ((F1.out.below BT.out (Nat.le_refl _)).rd) RT.out hec ((G2.out.below BT.out (Nat.le_refl _)).rd)).mono ?_
  rintro e w3 ⟨rfl, b3⟩
  have bb := below_to BT.out b3 BT.out.size
  have F1 := Lib.hid (F1.out.below bb (Nat.le_refl _))
  have G2 := Lib.hid (G2.out.below bb (Nat.le_refl _))
  have B3 := Lib.hid (below_to B2.out bb B2.out.size)
  have HP4 := Lib.hid (HP4.out.low bb HP4.out.lt)
  have ra := Rd.ofRow (n := 3) (cs := bvs [97, 98, 100]) (heap_alloc_new w3 (.cells #[.int .u8 97, .int .u8 98, .int .u8 100] 5 (3, 4))) rfl
  have ba := below_new w3 (.cells #[.int .u8 97, .int .u8 98, .int .u8 100] 5 (3, 4))
  have RT := Lib.hid ra
  have BT := Lib.hid ba
  clear ra ba b3 bb hcvA
  go_wp2_with fail
  refine (HD.out _ _ _ _ _ _ ((F1.out.below BT.out (Nat.le_refl _)).rd) RT.out hec ((G2.out.below BT.out (Nat.le_refl _)).rd)).mono ?_
  rintro e w4 ⟨rfl, b4⟩
  have bb := below_to BT.out b4 BT.out.size
  have B4 := Lib.hid (below_to B3.out bb B3.out.size)
  have P4 := HP4.out.low bb HP4.out.lt
  have z0 := P4.c0
  have z1 := P4.c1
  clear P4 bb b4
  go_wp2
  go_ret
  exact ⟨rfl, B4.out⟩

/-! ### SignNames -/
theorem signNames_walk (w : World) : Calls Try.prog 10 #[] w fun e w' => e = .returned (.bool true) ∧ Below w.heap.size w w' := by
  have hmk15 : ∀ W, (Instr.makeSlice 22 (.int .i64 15) (.int .i64 15)).run Try.prog W = .ok (.slice (some ⟨W.heap.size, 0, none⟩) 15 15) (W.alloc (.cells (bvs (noughts 15)).toArray 5)) := run_mk 15 (by omega)
  have hmk16 : ∀ W, (Instr.makeSlice 22 (.int .i64 16) (.int .i64 16)).run Try.prog W = .ok (.slice (some ⟨W.heap.size, 0, none⟩) 16 16) (W.alloc (.cells (bvs (noughts 16)).toArray 5)) := run_mk 16 (by omega)
  have hmk208 : ∀ W, (Instr.makeSlice 22 (.int .i64 208) (.int .i64 208)).run Try.prog W = .ok (.slice (some ⟨W.heap.size, 0, none⟩) 208 208) (W.alloc (.cells (bvs (noughts 208)).toArray 5)) := run_mk 208 (by omega)
  have hmk209 : ∀ W, (Instr.makeSlice 22 (.int .i64 209) (.int .i64 209)).run Try.prog W = .ok (.slice (some ⟨W.heap.size, 0, none⟩) 209 209) (W.alloc (.cells (bvs (noughts 209)).toArray 5)) := run_mk 209 (by omega)
  go_enter Try.func10, Try.ntmps10
  go_wp2_with fail
  refine (x_sign_spent _ 16 16 8 none 0 0 _ ⟨rfl, rfl⟩).mono ?_
  rintro e w1 ⟨rfl, b1⟩
  have B1 := below_to (below_new w (.cells (bvs (noughts 16)).toArray 5)) b1 (by rw [World.size_alloc]; omega)
  have HB1 := Lib.hid B1
  clear b1 B1
  go_wp2_with fail
  go_cut [4, 5] from 21 (fun s4 s5 wc => s4 = .bool false ∧ s5 = .int .i64 8 ∧ Below w.heap.size w wc)
  case first =>
    go_region_with ((go_at_call 18; refine (x_check_len _ 16 none 0 0 _ 208 208 _ (by decide)).mono ?_; rintro e w2 ⟨rfl, rfl⟩))
    all_goals
      go_wp2
      go_meet
      case rel => exact ⟨rfl, rfl, below_alloc (below_alloc ((below_alloc HB1.out _ (Nat.le_refl _)).drew) _ (Nat.le_refl _)) _ (Nat.le_refl _)⟩
  case rest =>
    obtain ⟨rfl, rfl, hb2⟩ := hcut
    have HB2 := Lib.hid hb2
    clear hb2 HB1
    have hF := fr_mkN wc 209 (by omega) (Nat.le_refl _)
    obtain ⟨u, hu, hcell⟩ := hF.cell (i := 0) (by omega)
    have hfz := hF.frozen (i := 0) (by omega)
    have hat : atL ((noughts 209).set 0 8) = 8 := by decide
    have hlen : ((noughts 209).set 0 8).length = 209 := by rw [List.length_set, noughts_len]
    have hZ : (bvs (noughts 209)).set 0 (.int .u8 8) = bvs ((noughts 209).set 0 8) := bvs_set (noughts 209) 0 8
    have hR := Rd.made wc 5 1 209 ((bvs (noughts 209)).set 0 (.int .u8 8)) (by rw [hZ, bvs_len, hlen])
    have hR2 : Rd (wc.alloc (.cells ((bvs (noughts 209)).set 0 (.int .u8 8)).toArray 5)) (wc.heap.size + 1) 1 (some ⟨wc.heap.size, 0, none⟩) 209 (bvs ((noughts 209).set 0 8)) := by rw [← hZ]; exact hR
    have hB := below_alloc HB2.out (.cells ((bvs (noughts 209)).set 0 (.int .u8 8)).toArray 5) (Nat.le_refl _)
    obtain ⟨Z, hZe⟩ : ∃ Z, Z = (noughts 209).set 0 8 := ⟨_, rfl⟩
    rw [← hZe] at hat hlen hR2
    have HR2 := Lib.hid hR2
    have HAT := Lib.hid hat
    have HLEN := Lib.hid hlen
    have HB := Lib.hid hB
    clear hF hu hat hlen hB hZ hR hR2 hZe
    go_wp2_with fail
    refine (x_check_leaf _ 16 none 0 0 _ 209 Z _ HLEN.out ((HR2.out.alloc (by rw [World.size_alloc]; exact Nat.le_refl _) _).more (by rw [World.size_alloc, World.size_alloc]; omega)) (by rw [HAT.out]; exact Nat.le_refl _)).mono ?_
    rintro e w3 ⟨rfl, hw3⟩
    have hB3 : Below w.heap.size w w3 := by rw [← hw3]; exact below_alloc HB.out _ (Nat.le_refl _)
    have HB3 := Lib.hid hB3
    clear hw3 hB3 hcell hfz
    go_wp2_with fail
    refine (x_sign_high _ 16 16 9 none 0 0 _ ⟨rfl, by omega⟩).mono ?_
    rintro e w4 ⟨rfl, b4⟩
    have HB4 := Lib.hid (below_to (below_alloc HB3.out _ (Nat.le_refl _)) b4 (below_alloc HB3.out _ (Nat.le_refl _)).size)
    clear b4
    go_wp2_with fail
    refine (x_check_pub _ 15 15 none 0 0 _ 209 209 _ (by decide)).mono ?_
    rintro e w5 ⟨rfl, hw5⟩
    have hB5 : Below w.heap.size w w5 := by rw [← hw5]; exact below_alloc (below_alloc HB4.out _ (Nat.le_refl _)) _ (Nat.le_refl _)
    have HB5 := Lib.hid hB5
    clear hw5 hB5
    go_wp2_with fail
    refine (alive08 w5).mono ?_
    rintro e w6 ⟨rfl, b6⟩
    have hB6 := below_to HB5.out b6 HB5.out.size
    clear b6
    go_wp2
    go_ret
    exact ⟨rfl, hB6⟩
end Go.Proofs.Ytoggpnncmgcgoaa
