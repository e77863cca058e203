/-
  charterhouseref07: contract of Digits.
-/
import Derived.Test.YtoggpnncmgcgoaaRef07
namespace Go.Proofs.Ytoggpnncmgcgoaa
open Go.RowKit
set_option linter.unusedVariables false
set_option linter.unusedSimpArgs false
set_option maxRecDepth 100000

theorem nib_mod (s k : Nat) : ((s / 16 ^ k : Nat) : Int) % 16 = ((nib s k : Nat) : Int) := by
  unfold nib
  omega
def QdRel (S : Nat) (w : World) (n out left i : Value) (wr : World) : Prop :=
  ∃ k A c, k ≤ 8 ∧ i = .int .i64 (k : Nat) ∧ n = .int .i64 ((S / 16 ^ k : Nat) : Int) ∧ left = .int .i64 ((leftN S k + 15 * (8 - k) : Nat) : Int) ∧ out = .slice A k c ∧ Fr wr w.heap.size 3 1 A k c (ivs (digs S k)) ∧ Below w.heap.size w wr
set_option maxHeartbeats 1000000 in
theorem q_digits (A : Option Addr) (n c : Nat) (l : List UInt8) (w : World) (hl : l.length = n) (hn : n ≤ 1000000) (hr : Rd w w.heap.size 1 A n (bvs l)) :
    Calls Try.prog 29 #[.slice A n c] w fun e w' => ∃ D d, e = .returned (.slice D 10 d) ∧ Fr w' w.heap.size 3 1 D 10 d (ivs (digL (sumN l))) ∧ Below w.heap.size w w' := by
  have hsum := r_sum A n c l w hl hn hr
  have hw : wi (fourOf l).a = ((sumN l / 16 ^ 0 : Nat) : Int) := by rw [Nat.pow_zero, Nat.div_one]; rfl
  rw [hw] at hsum
  have hlt := sumN_lt l
  have hq0 : sumN l / 16 ^ 0 < 4294967296 := by rw [Nat.pow_zero, Nat.div_one]; exact hlt
  have HSUM := Lib.hid hsum
  clear hsum hw hr hl hn
  obtain ⟨S, hS⟩ : ∃ S, S = sumN l := ⟨_, rfl⟩
  rw [← hS]
  simp only [← hS] at HSUM hlt hq0
  clear hS
  have hw0 : wrap64 ((S / 16 ^ 0 : Nat) : Int) = ((S / 16 ^ 0 : Nat) : Int) := by unfold wrap64; omega
  obtain ⟨S0, hS0⟩ : ∃ S0, S0 = S / 16 ^ 0 := ⟨_, rfl⟩
  simp only [← hS0] at HSUM hw0 hq0
  have HS0 := Lib.hid hS0
  clear hS0
  go_enter Try.func29, Try.ntmps29
  go_wp2_with fail
  refine HSUM.out.mono ?_
  rintro e w1 ⟨rfl, b1⟩
  clear HSUM
  go_wp2
  go_loopw [3, 4, 5, 6] (fun n out left i wr => QdRel S w n out left i wr) (fun _ _ _ i _ => 8 - (intOf i).toNat)
  case atStart => exact ⟨0, none, 0, by omega, rfl, by rw [HS0.out], rfl, rfl, Fr.none_, b1⟩
  case round =>
    clear b1
    obtain ⟨k, D, d, hk, rfl, rfl, rfl, rfl, hf, hb⟩ := hrel
    have hL := leftN_le S k
    by_cases hlt8 : k < 8
    · have h0 : (k : Int) < 8 := by omega
      have hn15 := nib_le S k
      have hd0 := nib_mod S k
      have hup := nib_up S k
      have hXl : S / 16 ^ k ≤ S := Nat.div_le_self _ _
      have hleft : ((leftN S k + 15 * (8 - k) : Nat) : Int) - (nib S k : Int) = ((leftN S (k + 1) + 15 * (8 - (k + 1)) : Nat) : Int) := by
        show _ = ((leftN S k + (15 - nib S k) + 15 * (8 - (k + 1)) : Nat) : Int)
        omega
      have hLb : leftN S k + 15 * (8 - k) ≤ 120 := by omega
      have hsn : digs S (k + 1) = digs S k ++ [nib S k] := rfl
      have HSN := Lib.hid hsn
      have HUP := Lib.hid hup
      have HLEFT := Lib.hid hleft
      have HF := Lib.hid (hf.alloc (.cells (ivs [nib S k]).toArray 3))
      have HR := Lib.hid (Rd.made wr 3 1 1 (ivs [nib S k]) rfl)
      have HB := Lib.hid (below_alloc hb (.cells (ivs [nib S k]).toArray 3) (Nat.le_refl _))
      clear hsn hf hb hup hleft
      generalize S / 16 ^ k = X at *
      have ht : (X : Int).tmod 16 = (X : Int) % 16 := Int.tmod_eq_emod_of_nonneg (by omega)
      generalize nib S k = N at *
      generalize leftN S k + 15 * (8 - k) = M at *
      generalize digs S k = DG at *
      go_wp2_with (first
        | (at_builtin; refine wpList_append_to rfl (.tmp 14) (.tmp 17) rfl okI rfl HF.out rfl HR.out (ivs_one _) (k + 1) rfl (ivs (digs S (k + 1))) (by rw [HSN.out, ivs_app]) (by unfold maxLen; omega) (by omega) (by have := HB.out.size; exact this) ?_; intro D3 d3 w3 f3 g3 _))
      have b3 := HB.out.grown g3 HB.out.size (fun g hg => (HF.out.row g hg).1)
      have HF3 := Lib.hid f3
      have HB3 := Lib.hid b3
      clear f3 g3 b3 HF HR HB
      go_wp2
      go_roundw
      case rel => exact ⟨k + 1, _, _, by omega, by simp, by rw [← HUP.out], by rw [← HLEFT.out], rfl, HF3.out, HB3.out⟩
      case measure => simp [intOf]; omega
    · obtain rfl : k = 8 := by omega
      have hM : leftN S 8 + 15 * (8 - 8) = leftN S 8 := by omega
      have hdl : digL S = digs S 8 ++ [leftN S 8 % 16] ++ [leftN S 8 / 16] := by rw [digL, List.append_assoc]; rfl
      rw [hM]
      have HDL := Lib.hid hdl
      clear hdl hM
      have ht : ((leftN S 8 : Nat) : Int).tmod 16 = ((leftN S 8 % 16 : Nat) : Int) := by rw [Int.tmod_eq_emod_of_nonneg (by omega)]; omega
      have hm : ((leftN S 8 : Nat) : Int) % 16 = ((leftN S 8 % 16 : Nat) : Int) := by omega
      have hq : ((leftN S 8 : Nat) : Int) / 16 = ((leftN S 8 / 16 : Nat) : Int) := by omega
      have hL8 : leftN S 8 ≤ 120 := by omega
      generalize leftN S 8 % 16 = P at *
      generalize leftN S 8 / 16 = Q at *
      generalize leftN S 8 = M at *
      have HF := Lib.hid (hf.alloc (.cells (ivs [P]).toArray 3))
      have HR := Lib.hid (Rd.made wr 3 1 1 (ivs [P]) rfl)
      have HB := Lib.hid (below_alloc hb (.cells (ivs [P]).toArray 3) (Nat.le_refl _))
      clear hf hb
      go_wp2_with (first
        | (at_builtin; refine wpList_append_to rfl (.tmp 25) (.tmp 28) rfl okI rfl HF.out rfl HR.out (ivs_one _) 9 rfl (ivs (digs S 8 ++ [P])) (ivs_app _ _).symm (by unfold maxLen; omega) (by omega) (by have := HB.out.size; exact this) ?_; intro D3 d3 w3 f3 g3 _; have b3 := HB.out.grown g3 HB.out.size (fun g hg => (HF.out.row g hg).1); have HF3 := Lib.hid (f3.alloc (.cells (ivs [Q]).toArray 3)); have HR3 := Lib.hid (Rd.made w3 3 1 1 (ivs [Q]) rfl); have HB3 := Lib.hid (below_alloc b3 (.cells (ivs [Q]).toArray 3) (Nat.le_refl _)); clear f3 g3 b3)
        | (at_builtin; refine wpList_append_to rfl (.tmp 30) (.tmp 33) rfl okI rfl HF3.out rfl HR3.out (ivs_one _) 10 rfl (ivs (digL S)) (by rw [HDL.out]; exact (ivs_app _ _).symm) (by unfold maxLen; omega) (by omega) (by have := HB3.out.size; exact this) ?_; intro D4 d4 w4 f4 g4 _))
      have b4 := HB3.out.grown g4 HB3.out.size (fun g hg => (HF3.out.row g hg).1)
      clear g4
      go_ret
      exact ⟨_, _, rfl, f4, b4⟩
end Go.Proofs.Ytoggpnncmgcgoaa
