/-
  Bytes turned by bytes, one by one: plain Lean.
-/
import Derived.Test.YtoggpnncmgcgoaaCode
namespace Go.Proofs.Ytoggpnncmgcgoaa
open Go.RowKit
set_option linter.unusedVariables false
set_option linter.unusedSimpArgs false
set_option maxRecDepth 100000

def xorL : List UInt8 → List UInt8 → List UInt8
  | [], _ => []
  | x :: s, [] => x :: s
  | x :: s, y :: b => (x ^^^ y) :: xorL s b
theorem xorL_len (s b : List UInt8) : (xorL s b).length = s.length := by
  induction s generalizing b with
  | nil => simp [xorL]
  | cons x s ih =>
    cases b with
    | nil => simp [xorL]
    | cons y b => simp [xorL, ih]
theorem xorL_get (s b : List UInt8) (i : Nat) (hs : i < s.length) (hb : i < b.length) : (xorL s b)[i]'(by rw [xorL_len]; exact hs) = s[i] ^^^ b[i] := by
  induction s generalizing b i with
  | nil => cases hs
  | cons x s ih =>
    cases b with
    | nil => cases hb
    | cons y b =>
      cases i with
      | zero => rfl
      | succ i => exact ih b i (by simpa using hs) (by simpa using hb)
theorem xorL_twice (s b : List UInt8) (h : b.length = s.length) : xorL s (xorL s b) = b := by
  refine List.ext_getElem (by rw [xorL_len, h]) fun i h1 h2 => ?_
  rw [xorL_len] at h1
  rw [xorL_get s _ i h1 (by rw [xorL_len]; exact h1), xorL_get s b i h1 h2]
  rw [← UInt8.xor_assoc, UInt8.xor_self, UInt8.zero_xor]
theorem xorL_noughts (s : List UInt8) : xorL s (List.replicate s.length 0) = s := by
  refine List.ext_getElem (xorL_len _ _) fun i h1 h2 => ?_
  rw [xorL_get s _ i h2 (by rw [List.length_replicate]; exact h2), List.getElem_replicate, UInt8.xor_zero]
theorem xorL_inj {s a b : List UInt8} (ha : a.length = s.length) (hb : b.length = s.length) (h : xorL s a = xorL s b) : a = b := by
  rw [← xorL_twice s a ha, h, xorL_twice s b hb]
/-- What stands when i bytes are turned. -/
def turnedTo (s b : List UInt8) (i : Nat) : List UInt8 := xorL s (b.take i)
theorem turnedTo_zero (s b : List UInt8) : turnedTo s b 0 = s := by
  rw [turnedTo, List.take_zero]
  cases s <;> rfl
theorem turnedTo_len (s b : List UInt8) (i : Nat) : (turnedTo s b i).length = s.length := xorL_len _ _
theorem xorL_past (s b : List UInt8) (i : Nat) (hs : i < s.length) (hb : b.length ≤ i) : (xorL s b)[i]'(by rw [xorL_len]; exact hs) = s[i] := by
  induction s generalizing b i with
  | nil => cases hs
  | cons x s ih =>
    cases b with
    | nil => rfl
    | cons y b =>
      cases i with
      | zero => simp at hb
      | succ i => exact ih b i (by simpa using hs) (by simpa using hb)
theorem turnedTo_at (s b : List UInt8) (i : Nat) (hs : i < s.length) : (turnedTo s b i)[i]'(by rw [turnedTo_len]; exact hs) = s[i] :=
  xorL_past s (b.take i) i hs (by rw [List.length_take]; omega)
theorem turnedTo_step (s b : List UInt8) (i : Nat) (hs : i < s.length) (hb : i < b.length) : (turnedTo s b i).set i (s[i] ^^^ b[i]) = turnedTo s b (i + 1) := by
  refine List.ext_getElem (by rw [List.length_set, turnedTo_len, turnedTo_len]) fun j h1 h2 => ?_
  rw [List.length_set, turnedTo_len] at h1
  rw [List.getElem_set]
  by_cases hj : i = j
  · subst hj
    rw [if_pos rfl]
    have h := xorL_get s (b.take (i + 1)) i hs (by rw [List.length_take]; omega)
    rw [List.getElem_take] at h
    exact h.symm
  · rw [if_neg hj]
    by_cases hlt : j < i
    · have e1 := xorL_get s (b.take i) j h1 (by rw [List.length_take]; omega)
      have e2 := xorL_get s (b.take (i + 1)) j h1 (by rw [List.length_take]; omega)
      rw [List.getElem_take] at e1 e2
      exact e1.trans e2.symm
    · exact (xorL_past s (b.take i) j h1 (by rw [List.length_take]; omega)).trans (xorL_past s (b.take (i + 1)) j h1 (by rw [List.length_take]; omega)).symm
theorem turnedTo_all (s b : List UInt8) (h : b.length = s.length) : turnedTo s b b.length = xorL s b := by rw [turnedTo, List.take_length]
/-- Bytes turned by a key and a number. -/
theorem xor_u8 (x y : UInt8) : bits .xor .u8 (x.toNat : Int) (y.toNat : Int) = ((x ^^^ y).toNat : Int) := by
  rw [u8_xor_nat _ _ x.toNat_lt y.toNat_lt, UInt8.toNat_xor]
end Go.Proofs.Ytoggpnncmgcgoaa
