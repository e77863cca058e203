/-
  charterhouseref10: contracts of None, May, Check, Number, Get.
-/
import Derived.Test.YtgcagenhfddpgaaPtrR
namespace Go.Proofs.Ytgcagenhfddpgaa
open Go.RowKit
set_option linter.unusedVariables false
set_option linter.unusedSimpArgs false
set_option maxRecDepth 100000

theorem q_none (p : Pt) (b : Bool) (hb : p.eq Pt.zero = b) (w : World) :
    Calls Try.prog 66 #[.agg #[.int .i64 p.a, .int .u32 p.b, .int .u32 p.i, .int .u32 p.t, .int .u32 p.s]] w fun e w' => e = .returned (.bool b) ∧ Below w.heap.size w w' := by
  have hq : ∀ W, (binOp .eql 31 (.agg #[.int .i64 p.a, .int .u32 p.b, .int .u32 p.i, .int .u32 p.t, .int .u32 p.s]) (.agg #[.int .i64 0, .int .u32 0, .int .u32 0, .int .u32 0, .int .u32 0])).run Try.prog W = .ok (.bool b) W := fun W => run_pt_eq p Pt.zero b hb W
  have hB := below_new w (.cells #[.int .i64 p.a, .int .u32 p.b, .int .u32 p.i, .int .u32 p.t, .int .u32 p.s] 31)
  obtain ⟨d0, d1, d2, d3, d4⟩ := (PtBox.new w p).cells
  clear hb
  go_enter Try.func66, Try.ntmps66
  go_wp2
  go_ret
  exact ⟨rfl, hB⟩
theorem q_may (p : Pt) (b : Bool) (hb : decide p.May = b) (w : World) :
    Calls Try.prog 56 #[.agg #[.int .i64 p.a, .int .u32 p.b, .int .u32 p.i, .int .u32 p.t, .int .u32 p.s]] w fun e w' => e = .returned (.bool b) ∧ Below w.heap.size w w' := by
  have hB := below_new w (.cells #[.int .i64 p.a, .int .u32 p.b, .int .u32 p.i, .int .u32 p.t, .int .u32 p.s] 31)
  have hX := PtBox.new w p
  obtain ⟨d0, d1, d2, d3, d4⟩ := hX.cells
  have HB := Lib.hid hB
  have HX := Lib.hid hX
  clear hB hX
  by_cases h0 : p.eq Pt.zero = true
  · have hN := fun W => q_none p true h0 W
    have hm : decide p.May = true := decide_eq_true (by rw [(Pt.eq_iff _ _).1 h0]; exact Pt.zero_may)
    rw [← hb, hm]
    have HN := Lib.hid hN
    clear hN hm hb h0
    go_enter Try.func56, Try.ntmps56
    go_wp2_with fail
    refine (HN.out _).mono ?_
    rintro e w1 ⟨rfl, b1⟩
    have hb1 := below_to HB.out b1 HB.out.size
    go_wp2
    go_ret
    exact ⟨rfl, hb1⟩
  · have h0' : p.eq Pt.zero = false := by simpa using h0
    have hN := fun W => q_none p false h0' W
    have hne : ¬ (p.a = 0 ∧ p.b = 0 ∧ p.i = 0 ∧ p.t = 0 ∧ p.s = 0) := fun h => h0 ((ptEq_iff ..).2 h)
    have hm : p.May ↔ (12 ≤ p.a ∧ p.a < 256 ∧ 1 ≤ p.b ∧ p.b ≤ 16777215) := by
      show PtMay _ _ _ _ _ ↔ _
      unfold PtMay
      omega
    have HN := Lib.hid hN
    have HM := Lib.hid hm
    have HBB := Lib.hid hb
    clear hN hm h0 h0' hne hb
    by_cases h1 : 12 ≤ p.a
    · by_cases h2 : p.a < 256
      · by_cases h3 : 1 ≤ p.b
        · by_cases h4 : p.b ≤ 16777215
          · obtain rfl : b = true := by rw [← HBB.out]; exact decide_eq_true (HM.out.2 ⟨h1, h2, h3, h4⟩)
            go_enter Try.func56, Try.ntmps56
            go_wp2_with fail
            refine (HN.out _).mono ?_
            rintro e w1 ⟨rfl, b1⟩
            have hb1 := below_to HB.out b1 HB.out.size
            clear d0 d1 d2 d3 d4
            obtain ⟨d0, d1, d2, d3, d4⟩ := (HX.out.below b1 HX.out.lt).cells
            go_wp2
            go_ret
            exact ⟨rfl, hb1⟩
          · obtain rfl : b = false := by rw [← HBB.out]; exact decide_eq_false (fun h => h4 (HM.out.1 h).2.2.2)
            have hd4 : decide (p.b ≤ 16777215) = false := decide_eq_false h4
            go_enter Try.func56, Try.ntmps56
            go_wp2_with fail
            refine (HN.out _).mono ?_
            rintro e w1 ⟨rfl, b1⟩
            have hb1 := below_to HB.out b1 HB.out.size
            clear d0 d1 d2 d3 d4
            obtain ⟨d0, d1, d2, d3, d4⟩ := (HX.out.below b1 HX.out.lt).cells
            go_wp2
            go_ret
            exact ⟨rfl, hb1⟩
        · obtain rfl : b = false := by rw [← HBB.out]; exact decide_eq_false (fun h => h3 (HM.out.1 h).2.2.1)
          go_enter Try.func56, Try.ntmps56
          go_wp2_with fail
          refine (HN.out _).mono ?_
          rintro e w1 ⟨rfl, b1⟩
          have hb1 := below_to HB.out b1 HB.out.size
          clear d0 d1 d2 d3 d4
          obtain ⟨d0, d1, d2, d3, d4⟩ := (HX.out.below b1 HX.out.lt).cells
          go_wp2
          go_ret
          exact ⟨rfl, hb1⟩
      · obtain rfl : b = false := by rw [← HBB.out]; exact decide_eq_false (fun h => h2 (HM.out.1 h).2.1)
        go_enter Try.func56, Try.ntmps56
        go_wp2_with fail
        refine (HN.out _).mono ?_
        rintro e w1 ⟨rfl, b1⟩
        have hb1 := below_to HB.out b1 HB.out.size
        clear d0 d1 d2 d3 d4
        obtain ⟨d0, d1, d2, d3, d4⟩ := (HX.out.below b1 HX.out.lt).cells
        go_wp2
        go_ret
        exact ⟨rfl, hb1⟩
    · obtain rfl : b = false := by rw [← HBB.out]; exact decide_eq_false (fun h => h1 (HM.out.1 h).1)
      go_enter Try.func56, Try.ntmps56
      go_wp2_with fail
      refine (HN.out _).mono ?_
      rintro e w1 ⟨rfl, b1⟩
      have hb1 := below_to HB.out b1 HB.out.size
      clear d0 d1 d2 d3 d4
      obtain ⟨d0, d1, d2, d3, d4⟩ := (HX.out.below b1 HX.out.lt).cells
      go_wp2
      go_ret
      exact ⟨rfl, hb1⟩
theorem q_pcheck (p : Pt) (w : World) :
    Calls Try.prog 37 #[.agg #[.int .i64 p.a, .int .u32 p.b, .int .u32 p.i, .int .u32 p.t, .int .u32 p.s]] w fun e w' => e = .returned (.int .i64 p.chk) ∧ Below w.heap.size w w' := by
  have hB := below_new w (.cells #[.int .i64 p.a, .int .u32 p.b, .int .u32 p.i, .int .u32 p.t, .int .u32 p.s] 31)
  obtain ⟨d0, d1, d2, d3, d4⟩ := (PtBox.new w p).cells
  have HB := Lib.hid hB
  clear hB
  by_cases hm : p.May
  · have HM := Lib.hid (fun W => q_may p true (decide_eq_true hm) W)
    rw [Pt.chk_zero hm]
    clear hm
    go_enter Try.func37, Try.ntmps37
    go_wp2_with fail
    refine (HM.out _).mono ?_
    rintro e w1 ⟨rfl, b1⟩
    have hb1 := below_to HB.out b1 HB.out.size
    go_wp2
    go_ret
    exact ⟨rfl, hb1⟩
  · have HM := Lib.hid (fun W => q_may p false (decide_eq_false hm) W)
    rw [Pt.chk_bad hm]
    clear hm
    go_enter Try.func37, Try.ntmps37
    go_wp2_with fail
    refine (HM.out _).mono ?_
    rintro e w1 ⟨rfl, b1⟩
    have hb1 := below_to HB.out b1 HB.out.size
    go_wp2
    go_ret
    exact ⟨rfl, hb1⟩

def NmRel (n S : Nat) (w : World) (x out i : Value) (wr : World) : Prop :=
  ∃ (k : Nat) (A : Option Addr) (c : Nat), k ≤ S ∧ x = .int .u32 ((n / 256 ^ k : Nat) : Int) ∧ i = .int .i64 (k : Int) ∧ out = .slice A k c ∧ Fr wr w.heap.size 5 1 A k c (bvs (le k n)) ∧ Below w.heap.size w wr
theorem q_number (n S : Nat) (hn : (n : Int) ≤ 4294967295) (hS : S ≤ 4) (w : World) :
    Calls Try.prog 67 #[.int .u32 (n : Int), .int .i64 (S : Int)] w fun e w' => ∃ A c, e = .returned (.slice A S c) ∧ Fr w' w.heap.size 5 1 A S c (bvs (le S n)) ∧ Below w.heap.size w w' := by
  go_enter Try.func67, Try.ntmps67
  go_wp2
  go_loopw [0, 5, 6] (fun x out i wr => NmRel n S w x out i wr) (fun _ _ i _ => S - (intOf i).toNat)
  case atStart => exact ⟨0, none, 0, by omega, by simp, rfl, rfl, Fr.none_, Below.refl _ _⟩
  case round =>
    obtain ⟨k, A3, c3, hk, rfl, rfl, rfl, hf, hb⟩ := hrel
    by_cases hlt : k < S
    · have hnext : le (k + 1) n = le k n ++ [UInt8.ofNat (n / 256 ^ k)] := le_snoc k n
      have hdv : n / 256 ^ (k + 1) = n / 256 ^ k / 256 := by rw [Nat.pow_succ, Nat.div_div_eq_div_mul]
      have hzl : n / 256 ^ k ≤ n := Nat.div_le_self _ _
      have hu9 : ((n / 256 ^ k : Nat) : Int) % 256 = ((UInt8.ofNat (n / 256 ^ k)).toNat : Int) := by
        rw [UInt8.toNat_ofNat']
        omega
      have hs : ((n / 256 ^ k : Nat) : Int) / 256 = ((n / 256 ^ (k + 1) : Nat) : Int) := by rw [hdv]; omega
      have hu8 : IntKind.u8.wrap (((n / 256 ^ k : Nat) : Int) % 256) = ((UInt8.ofNat (n / 256 ^ k)).toNat : Int) := by
        rw [IntKind.wrap_u8, UInt8.toNat_ofNat']
        omega
      generalize hz1 : n / 256 ^ (k + 1) = z1 at *
      have HZ1 := Lib.hid hz1
      clear hz1
      have h1 : (k : Int) < (S : Int) := by omega
      generalize hzz : n / 256 ^ k = z at *
      have hz32 : (z : Int) < 4294967296 := by omega
      clear hdv hzz hzl
      have HN := Lib.hid hnext
      have HS := Lib.hid hs
      clear hnext hs
      generalize UInt8.ofNat z = Z at *
      have HF1 := Lib.hid (hf.alloc (.cells (bvs [Z]).toArray 5))
      have HR1 := Lib.hid (Rd.made wr 5 1 1 (bvs [Z]) rfl)
      have HB1 := Lib.hid (below_alloc hb (.cells (bvs [Z]).toArray 5) (Nat.le_refl _))
      clear hf hb
      go_wp2_with (first
        | (at_builtin; go_loud (refine wpList_append_to rfl (.tmp 12) (.tmp 16) rfl okB rfl HF1.out rfl HR1.out (bvs_one _) (k + 1) rfl (bvs (le (k + 1) n)) (by rw [HN.out, bvs_app]) (by unfold maxLen; omega) (by omega) HB1.out.size ?_; intro D3 d3 w3 f3 g3 _)))
      have b3 := HB1.out.grown g3 HB1.out.size (fun g hg => (HF1.out.row g hg).1)
      have HF3 := Lib.hid f3
      have HB3 := Lib.hid b3
      clear f3 g3 b3
      go_wp2
      go_roundw
      case rel => exact ⟨k + 1, D3, d3, by omega, by rw [HZ1.out, ← HS.out], by simp, rfl, HF3.out, HB3.out⟩
      case measure => simp [intOf]; omega
    · obtain rfl : k = S := by omega
      have HF := Lib.hid hf
      have HB := Lib.hid hb
      clear hf hb
      generalize n / 256 ^ k = z at *
      go_wp2
      go_ret
      exact ⟨_, _, rfl, HF.out, HB.out⟩
end Go.Proofs.Ytgcagenhfddpgaa
