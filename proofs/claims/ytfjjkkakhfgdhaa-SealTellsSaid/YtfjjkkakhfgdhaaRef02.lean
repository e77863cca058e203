/-
  charterhouseref02: contracts of plus, minus, left (under way).
-/
import Derived.Test.YtfjjkkakhfgdhaaKey
namespace Go.Proofs.Ytfjjkkakhfgdhaa
open Go.RowKit
set_option linter.unusedVariables false
set_option linter.unusedSimpArgs false
set_option maxRecDepth 100000
theorem rl_one (x : Wd) : wi (rl 1 x) = wi x * 2 % 4294967296 + wi x * 2 / 4294967296 := by
  unfold wi rl
  have hx := x.isLt
  rw [BitVec.toNat_rotateLeft, Nat.shiftLeft_eq, Nat.shiftRight_eq_div_pow]
  have h : x.toNat * 2 ^ (1 % 32) % 2 ^ 32 ||| x.toNat / 2 ^ (32 - 1 % 32) = x.toNat * 2 % 4294967296 + x.toNat * 2 / 4294967296 := by
    have h1 : x.toNat / 2147483648 < 2 ^ 1 := by omega
    have h2 := Nat.two_pow_add_eq_or_of_lt h1 (x.toNat % 2147483648)
    simp only [show 1 % 32 = 1 from rfl, show 32 - 1 = 31 from rfl]
    rw [show x.toNat * 2 ^ 1 % 2 ^ 32 = 2 ^ 1 * (x.toNat % 2147483648) by omega, show x.toNat / 2 ^ 31 = x.toNat / 2147483648 by omega, ← h2]
    omega
  rw [h]
  omega
theorem rl_succ (x : Wd) (k : Nat) : rl (k + 1) x = rl 1 (rl k x) := by
  unfold rl
  apply BitVec.eq_of_getMsbD_eq
  intro i hi
  rw [BitVec.getMsbD_rotateLeft, BitVec.getMsbD_rotateLeft, BitVec.getMsbD_rotateLeft]
  have e : (k + (1 + i) % 32) % 32 = (k + 1 + i) % 32 := by omega
  have h1 : (1 + i) % 32 < 32 := Nat.mod_lt _ (by omega)
  rw [e]
  simp [hi, h1]
theorem rl_zero (x : Wd) : rl 0 x = x := by
  unfold rl
  apply BitVec.eq_of_getMsbD_eq
  intro i hi
  rw [BitVec.getMsbD_rotateLeft]
  simp [hi, Nat.mod_eq_of_lt hi]
theorem r_plus (x y : Wd) (w : World) : Calls Try.prog 50 #[.int .u32 (wi x), .int .u32 (wi y)] w fun e w' => e = .returned (.int .u32 (wi (x + y))) ∧ w = w' := by
  obtain ⟨x0, x1⟩ := wi_lt x
  obtain ⟨y0, y1⟩ := wi_lt y
  have ha := add_w x y
  obtain ⟨z0, z1⟩ := wi_lt (x + y)
  go_enter Try.func50, Try.ntmps50
  go_wp2
  go_ret
  first | exact ⟨rfl, rfl⟩ | exact ⟨by rw [ha], rfl⟩ | skip
theorem r_minus (x y : Wd) (w : World) : Calls Try.prog 52 #[.int .u32 (wi x), .int .u32 (wi y)] w fun e w' => e = .returned (.int .u32 (wi (x - y))) ∧ w = w' := by
  obtain ⟨x0, x1⟩ := wi_lt x
  obtain ⟨y0, y1⟩ := wi_lt y
  have hs := sub_w x y
  have ha : (wi x + 4294967296 - wi y) % 4294967296 = wi (x - y) := by rw [← hs]; omega
  obtain ⟨z0, z1⟩ := wi_lt (x - y)
  go_enter Try.func52, Try.ntmps52
  go_wp2
  go_ret
  first | exact ⟨rfl, rfl⟩ | exact ⟨by rw [ha], rfl⟩ | skip
def LeftRel (x : Wd) (n : Nat) (w : World) (v i : Value) (wr : World) : Prop := ∃ k : Nat, k ≤ n ∧ i = .int .i64 k ∧ v = .int .i64 (wi (rl k x)) ∧ wr = w
theorem r_left (x : Wd) (n : Nat) (hn : n ≤ 64) (w : World) : Calls Try.prog 51 #[.int .u32 (wi x), .int .i64 (n : Int)] w fun e w' => e = .returned (.int .u32 (wi (rl n x))) ∧ w = w' := by
  obtain ⟨x0, x1⟩ := wi_lt x
  go_enter Try.func51, Try.ntmps51
  go_wp2
  go_loopw [5, 6] (fun v i wr => LeftRel x n w v i wr) (fun _ i _ => n - (intOf i).toNat)
  case atStart => exact ⟨0, Nat.zero_le _, rfl, by rw [rl_zero], rfl⟩
  case round =>
    obtain ⟨k, hk, rfl, rfl, rfl⟩ := hrel
    obtain ⟨y0, y1⟩ := wi_lt (rl k x)
    have h1 := rl_one (rl k x)
    rw [← rl_succ] at h1
    by_cases hlt : k < n
    · have j1 : (k : Int) < (n : Int) := by omega
      have H1 := Lib.hid h1
      clear h1
      generalize wi (rl k x) = y at *
      go_wp2
      go_roundw
      case rel => exact ⟨k + 1, hlt, by simp, by rw [H1.out], rfl⟩
      case measure => simp [intOf]; omega
    · have hkn : k = n := by omega
      subst k
      clear h1
      go_wp2
      go_ret
      exact ⟨rfl, rfl⟩
end Go.Proofs.Ytfjjkkakhfgdhaa
