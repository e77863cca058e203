/-
  Contracts of package chain: Digits.
-/
import Derived.Test.YtoggpnncmgcgoaaMac
import Derived.Laws.BitsAllLaws
import Derived.Laws.BitsLemmas
namespace Go.Proofs.Ytoggpnncmgcgoaa
open Go.RowKit
set_option linter.unusedVariables false
set_option linter.unusedSimpArgs false
set_option maxRecDepth 100000

/-- Numbers, as a row of int. -/
def ivs (l : List Nat) : List Value := l.map fun n : Nat => .int .i64 (n : Int)
theorem ivs_len (l : List Nat) : (ivs l).length = l.length := by simp [ivs]
theorem ivs_app (a b : List Nat) : ivs (a ++ b) = ivs a ++ ivs b := by simp [ivs]
theorem ivs_get (l : List Nat) (j : Nat) : (ivs l)[j]? = l[j]?.map fun n : Nat => .int .i64 (n : Int) := by simp [ivs]
theorem ivs_one (l : List Nat) : ∀ u ∈ ivs l, u.oneCell' = true := by
  intro u hu
  simp only [ivs, List.mem_map] at hu
  obtain ⟨c, _, rfl⟩ := hu
  rfl
theorem info_int : (Try.prog.info? 3).map (fun i => (i.zero, i.size, i.bytes)) = some (some (.int .i64 0), 1, 8) := by kernel_rfl
theorem okI : ElemOk Try.prog 39 3 1 8 (.int .i64 0) := by
  obtain ⟨i0, hi, hz0, hz1, hz2⟩ := info_parts info_int
  exact ⟨Try.underlying39, rfl, by decide, i0, hi, hz0, hz1, hz2⟩

/-- A number's hexadecimal digits, the lowest first; what they leave to 15 each. -/
def nib (s k : Nat) : Nat := s / 16 ^ k % 16
def digs (s : Nat) : Nat → List Nat
  | 0 => []
  | k + 1 => digs s k ++ [nib s k]
def leftN (s : Nat) : Nat → Nat
  | 0 => 0
  | k + 1 => leftN s k + (15 - nib s k)
def digL (s : Nat) : List Nat := digs s 8 ++ [leftN s 8 % 16, leftN s 8 / 16]
theorem nib_le (s k : Nat) : nib s k ≤ 15 := by unfold nib; omega
theorem leftN_le (s k : Nat) : leftN s k ≤ 15 * k := by
  induction k with
  | zero => exact Nat.le_refl _
  | succ k ih => unfold leftN; omega
theorem digs_len (s k : Nat) : (digs s k).length = k := by
  induction k with
  | zero => rfl
  | succ k ih => rw [digs, List.length_append, ih]; rfl
theorem digL_len (s : Nat) : (digL s).length = 10 := by rw [digL, List.length_append, digs_len]; rfl
theorem digs_le (s k : Nat) : ∀ d ∈ digs s k, d ≤ 15 := by
  induction k with
  | zero => intro d h; cases h
  | succ k ih =>
    intro d h
    rw [digs, List.mem_append] at h
    rcases h with h | h
    · exact ih d h
    · rw [List.mem_singleton.1 h]
      exact nib_le s k
theorem digL_le (s : Nat) : ∀ d ∈ digL s, d ≤ 15 := by
  intro d h
  have := leftN_le s 8
  rw [digL, List.mem_append] at h
  rcases h with h | h
  · exact digs_le s 8 d h
  · simp only [List.mem_cons, List.not_mem_nil, or_false] at h
    omega
theorem and15 (a : Nat) : a &&& 15 = a % 16 := Nat.and_two_pow_sub_one_eq_mod a 4
theorem i64_and15 (n : Int) : bits .and .i64 n 15 = n % 16 := by
  have h15 : (BitVec.ofInt 64 15).toNat = 2 ^ 4 - 1 := by decide
  have key : (BitVec.ofInt 64 n &&& BitVec.ofInt 64 15).toNat = (n % ((2 ^ 64 : Nat) : Int)).toNat % 2 ^ 4 := by
    rw [BitVec.toNat_and, BitVec.toNat_ofInt, h15, Nat.and_two_pow_sub_one_eq_mod]
  show IntKind.i64.wrap ((BitVec.ofInt 64 n &&& BitVec.ofInt 64 15).toNat : Nat) = n % 16
  rw [key, IntKind.wrap_i64]
  omega
theorem u32_nib (s k : Nat) (hs : s < 4294967296) : bits .and .u32 ((s / 16 ^ k : Nat) : Int) 15 = ((nib s k : Nat) : Int) := by
  have h : s / 16 ^ k ≤ s := Nat.div_le_self _ _
  have := u32_and_nat (s / 16 ^ k) 15 (by omega) (by omega)
  rw [and15] at this
  exact this
theorem nib_up (s k : Nat) : ((s / 16 ^ k : Nat) : Int) / 16 = ((s / 16 ^ (k + 1) : Nat) : Int) := by
  rw [Nat.pow_succ, ← Nat.div_div_eq_div_mul]
  omega
def sumN (l : List UInt8) : Nat := (fourOf l).a.toNat
theorem sumN_lt (l : List UInt8) : sumN l < 4294967296 := (fourOf l).a.isLt

def DigRel (S : Nat) (w : World) (s left out d i : Value) (wr : World) : Prop :=
  ∃ k A c, k ≤ 8 ∧ i = .int .i64 (k : Nat) ∧ s = .int .u32 ((S / 16 ^ k : Nat) : Int) ∧ left = .int .i64 (leftN S k : Nat) ∧ out = .slice A k c ∧ Fr wr w.heap.size 3 1 A k c (ivs (digs S k)) ∧ Below w.heap.size w wr
theorem c_digits (A : Option Addr) (n c : Nat) (l : List UInt8) (w : World) (hl : l.length = n) (hn : (n : Int) ≤ 1000000) (hcap : n ≤ c) (hr : Rd w w.heap.size 1 A n (bvs l)) :
    Calls Try.prog 28 #[.slice A n c] w fun e w' => ∃ D d, e = .returned (.slice D 10 d) ∧ Fr w' w.heap.size 3 1 D 10 d (ivs (digL (sumN l))) ∧ Below w.heap.size w w' := by
  have hsum := x_sum A n c l w hl hn hcap hr
  have hw : wi (fourOf l).a = ((sumN l / 16 ^ 0 : Nat) : Int) := by rw [Nat.pow_zero, Nat.div_one]; rfl
  rw [hw] at hsum
  have hlt := sumN_lt l
  have HSUM := Lib.hid hsum
  clear hsum hw hr hl hn hcap
  generalize sumN l = S at *
  go_enter Try.func28, Try.ntmps28
  go_wp2_with fail
  refine HSUM.out.mono ?_
  rintro e w1 ⟨rfl, b1⟩
  clear HSUM
  go_wp2
  go_loopw [3, 4, 5, 6, 9] (fun s left out d i wr => DigRel S w s left out d i wr) (fun _ _ _ _ i _ => 8 - (intOf i).toNat)
  case atStart => exact ⟨0, none, 0, by omega, rfl, by rw [Nat.pow_zero, Nat.div_one], rfl, rfl, Fr.none_, b1⟩
  case round =>
    clear b1
    obtain ⟨k, D, d, hk, rfl, rfl, rfl, rfl, hf, hb⟩ := hrel
    have hL := leftN_le S k
    by_cases hlt8 : k < 8
    · have h0 : (k : Int) < 8 := by omega
      have hn15 := nib_le S k
      have hd0 := u32_nib S k hlt
      have hup := nib_up S k
      have hleft : (leftN S k : Int) + (15 - (nib S k : Int)) = ((leftN S (k + 1) : Nat) : Int) := by
        show _ = ((leftN S k + (15 - nib S k) : Nat) : Int)
        omega
      have hsn : digs S (k + 1) = digs S k ++ [nib S k] := rfl
      have hwN : wrap64 ((nib S k : Nat) : Int) = ((nib S k : Nat) : Int) := by unfold wrap64; omega
      have HSN := Lib.hid hsn
      have HUP := Lib.hid hup
      have HLEFT := Lib.hid hleft
      have HF := Lib.hid (hf.alloc (.cells (ivs [nib S k]).toArray 3))
      have HR := Lib.hid (Rd.made wr 3 1 1 (ivs [nib S k]) rfl)
      have HB := Lib.hid (below_alloc hb (.cells (ivs [nib S k]).toArray 3) (Nat.le_refl _))
      have HK := Lib.hid hk
      clear hsn hf hb hup hleft
      generalize S / 16 ^ k = X at *
      generalize nib S k = N at *
      generalize leftN S k = M at *
      generalize digs S k = DG at *
      go_wp2_with (first
        | (at_builtin; go_loud (refine wpList_append_to rfl (.tmp 14) (.tmp 16) rfl okI rfl HF.out rfl HR.out (ivs_one _) (k + 1) rfl (ivs (digs S (k + 1))) (by rw [HSN.out, ivs_app]) (by unfold maxLen; omega) (by omega) (by have := HB.out.size; exact this) ?_; intro D3 d3 w3 f3 g3 _)))
      have b3 := HB.out.grown g3 HB.out.size (fun g hg => (HF.out.row g hg).1)
      have HF3 := Lib.hid f3
      have HB3 := Lib.hid b3
      clear f3 g3 b3 HF HR HB
      go_wp2
      go_roundw
      case rel => exact ⟨k + 1, _, _, by omega, by simp, by rw [← HUP.out], by rw [← HLEFT.out], rfl, HF3.out, HB3.out⟩
      case measure => simp [intOf]; omega
    · obtain rfl : k = 8 := by omega
      have ha := i64_and15 ((leftN S 8 : Nat) : Int)
      have HF := Lib.hid (hf.alloc (.cells (ivs [leftN S 8 % 16, leftN S 8 / 16]).toArray 3))
      have HR := Lib.hid (Rd.made wr 3 1 2 (ivs [leftN S 8 % 16, leftN S 8 / 16]) rfl)
      have HB := Lib.hid (below_alloc hb (.cells (ivs [leftN S 8 % 16, leftN S 8 / 16]).toArray 3) (Nat.le_refl _))
      clear hf hb
      go_wp2_with (first
        | (at_builtin; go_loud (refine wpList_append_to rfl (.tmp 25) (.tmp 30) rfl okI rfl HF.out rfl HR.out (ivs_one _) 10 rfl (ivs (digL S)) (by rw [← ivs_app]; rfl) (by unfold maxLen; omega) (by omega) (by have := HB.out.size; exact this) ?_; intro D3 d3 w3 f3 g3 _)))
      have b3 := HB.out.grown g3 HB.out.size (fun g hg => (HF.out.row g hg).1)
      go_ret
      exact ⟨_, _, rfl, f3, b3⟩
end Go.Proofs.Ytoggpnncmgcgoaa
