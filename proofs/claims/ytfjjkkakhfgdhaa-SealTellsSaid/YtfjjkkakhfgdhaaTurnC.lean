/-
  Contracts of package cipher: Turn.
-/
import Derived.Test.YtfjjkkakhfgdhaaStream
namespace Go.Proofs.Ytfjjkkakhfgdhaa
open Go.RowKit
set_option linter.unusedVariables false
set_option linter.unusedSimpArgs false
set_option maxRecDepth 100000

/-- Two lists, byte by byte by exclusive or: as long as the first one. -/
def xorL : List UInt8 → List UInt8 → List UInt8
  | [], _ => []
  | x :: s, [] => x :: s
  | x :: s, y :: b => (x ^^^ y) :: xorL s b
theorem xorL_len (s b : List UInt8) : (xorL s b).length = s.length := by
  induction s generalizing b with
  | nil => simp [xorL]
  | cons x s ih =>
    cases b with
    | nil => simp [xorL]
    | cons y b => simp [xorL, ih]
theorem xorL_get (s b : List UInt8) (i : Nat) (hs : i < s.length) (hb : i < b.length) : (xorL s b)[i]'(by rw [xorL_len]; exact hs) = s[i] ^^^ b[i] := by
  induction s generalizing b i with
  | nil => cases hs
  | cons x s ih =>
    cases b with
    | nil => cases hb
    | cons y b =>
      cases i with
      | zero => rfl
      | succ i => exact ih b i (by simpa using hs) (by simpa using hb)
theorem xorL_twice (s b : List UInt8) (h : b.length = s.length) : xorL s (xorL s b) = b := by
  refine List.ext_getElem (by rw [xorL_len, h]) fun i h1 h2 => ?_
  rw [xorL_len] at h1
  rw [xorL_get s _ i h1 (by rw [xorL_len]; exact h1), xorL_get s b i h1 h2]
  rw [← UInt8.xor_assoc, UInt8.xor_self, UInt8.zero_xor]
theorem xorL_noughts (s : List UInt8) : xorL s (List.replicate s.length 0) = s := by
  refine List.ext_getElem (xorL_len _ _) fun i h1 h2 => ?_
  rw [xorL_get s _ i h2 (by rw [List.length_replicate]; exact h2), List.getElem_replicate, UInt8.xor_zero]
theorem xorL_inj {s a b : List UInt8} (ha : a.length = s.length) (hb : b.length = s.length) (h : xorL s a = xorL s b) : a = b := by
  rw [← xorL_twice s a ha, h, xorL_twice s b hb]
/-- What stands when i bytes are turned. -/
def turnedTo (s b : List UInt8) (i : Nat) : List UInt8 := xorL s (b.take i)
theorem turnedTo_zero (s b : List UInt8) : turnedTo s b 0 = s := by
  rw [turnedTo, List.take_zero]
  cases s <;> rfl
theorem turnedTo_len (s b : List UInt8) (i : Nat) : (turnedTo s b i).length = s.length := xorL_len _ _
theorem xorL_past (s b : List UInt8) (i : Nat) (hs : i < s.length) (hb : b.length ≤ i) : (xorL s b)[i]'(by rw [xorL_len]; exact hs) = s[i] := by
  induction s generalizing b i with
  | nil => cases hs
  | cons x s ih =>
    cases b with
    | nil => rfl
    | cons y b =>
      cases i with
      | zero => simp at hb
      | succ i => exact ih b i (by simpa using hs) (by simpa using hb)
theorem turnedTo_at (s b : List UInt8) (i : Nat) (hs : i < s.length) : (turnedTo s b i)[i]'(by rw [turnedTo_len]; exact hs) = s[i] :=
  xorL_past s (b.take i) i hs (by rw [List.length_take]; omega)
theorem turnedTo_step (s b : List UInt8) (i : Nat) (hs : i < s.length) (hb : i < b.length) : (turnedTo s b i).set i (s[i] ^^^ b[i]) = turnedTo s b (i + 1) := by
  refine List.ext_getElem (by rw [List.length_set, turnedTo_len, turnedTo_len]) fun j h1 h2 => ?_
  rw [List.length_set, turnedTo_len] at h1
  rw [List.getElem_set]
  by_cases hj : i = j
  · subst hj
    rw [if_pos rfl]
    have h := xorL_get s (b.take (i + 1)) i hs (by rw [List.length_take]; omega)
    rw [List.getElem_take] at h
    exact h.symm
  · rw [if_neg hj]
    by_cases hlt : j < i
    · have e1 := xorL_get s (b.take i) j h1 (by rw [List.length_take]; omega)
      have e2 := xorL_get s (b.take (i + 1)) j h1 (by rw [List.length_take]; omega)
      rw [List.getElem_take] at e1 e2
      exact e1.trans e2.symm
    · exact (xorL_past s (b.take i) j h1 (by rw [List.length_take]; omega)).trans (xorL_past s (b.take (i + 1)) j h1 (by rw [List.length_take]; omega)).symm
theorem turnedTo_all (s b : List UInt8) (h : b.length = s.length) : turnedTo s b b.length = xorL s b := by rw [turnedTo, List.take_length]
/-- Bytes turned by a key and a number. -/
def turnL (k : List UInt8) (iv : Nat) (b : List UInt8) : List UInt8 := xorL (streamL k iv b.length) b
theorem turnL_len (k : List UInt8) (iv : Nat) (b : List UInt8) : (turnL k iv b).length = b.length := by rw [turnL, xorL_len, streamL_len]

theorem c_turn_k (A : Option Addr) (m c : Nat) (iv : Nat) (B : Option Addr) (n d : Nat) (w : World)
    (h1 : ((m : Int) != 16) = true)
    : Calls Try.prog 36 #[.slice A m c, .int .u32 (iv : Int), .slice B n d] w fun e w' => e = .returned (.tuple #[.slice none 0 0, .int .i64 2]) ∧ w = w' := by
  go_enter Try.func36, Try.ntmps36
  go_wp2
  go_ret2
  exact ⟨rfl, rfl⟩
theorem c_turn_h (A : Option Addr) (m c : Nat) (iv : Nat) (B : Option Addr) (n d : Nat) (w : World)
    (h1 : m = 16)
    (h2 : 4096 < (n : Int))
    : Calls Try.prog 36 #[.slice A m c, .int .u32 (iv : Int), .slice B n d] w fun e w' => e = .returned (.tuple #[.slice none 0 0, .int .i64 3]) ∧ w = w' := by
  subst h1
  go_enter Try.func36, Try.ntmps36
  go_wp2
  go_ret2
  exact ⟨rfl, rfl⟩

def TurRel (s b : List UInt8) (g : Nat) (d : Nat) (w1 : World) (base : Nat) (x : Value) (wr : World) : Prop :=
  ∃ i : Nat, i ≤ b.length ∧ x = .int .i64 (i : Int) ∧ Fr wr base 5 1 (some ⟨g, 0, none⟩) b.length d (bvs (turnedTo s b i)) ∧ Below base w1 wr
theorem xor_u8 (x y : UInt8) : bits .xor .u8 (x.toNat : Int) (y.toNat : Int) = ((x ^^^ y).toNat : Int) := by
  rw [u8_xor_nat _ _ x.toNat_lt y.toNat_lt, UInt8.toNat_xor]

set_option maxHeartbeats 1000000 in
theorem c_turn (A : Option Addr) (c : Nat) (k : List UInt8) (iv : Nat) (hiv : (iv : Int) < 4294967296) (B : Option Addr) (n d : Nat) (b : List UInt8) (w : World) (hk : k.length = 16) (hrk : Rd w w.heap.size 1 A 16 (bvs k))
    (hb : b.length = n) (hn : (n : Int) ≤ 4096) (hrb : Rd w w.heap.size 1 B n (bvs b)) :
    Calls Try.prog 36 #[.slice A 16 c, .int .u32 (iv : Int), .slice B n d] w fun e w' => ∃ D d', e = .returned (.tuple #[.slice D n d', .int .i64 0]) ∧ Fr w' w.heap.size 5 1 D n d' (bvs (turnL k iv b)) ∧ Below w.heap.size w w' := by
  have hs := c_stream A c k iv n hiv hn w hk hrk
  have hn1 : decide (4096 < (n : Int)) = false := by simp; omega
  have hsl := streamL_len k iv n
  have htl : turnL k iv b = xorL (streamL k iv n) b := by rw [turnL, hb]
  rw [htl]
  have HS := Lib.hid hs
  have HN := Lib.hid hn
  clear hs hiv hrk htl hn
  generalize streamL k iv n = s at *
  go_enter Try.func36, Try.ntmps36
  go_wp2_with fail
  refine HS.out.mono ?_
  rintro e w1 ⟨D, d1, rfl, f1, b1⟩
  have hrb1 := hrb.below b1
  go_wp2
  rcases Nat.eq_zero_or_pos n with h0 | hpos
  · subst h0
    have hb0 : b = [] := List.eq_nil_of_length_eq_zero hb
    have hs0 : s = [] := List.eq_nil_of_length_eq_zero hsl
    subst hb0 hs0
    go_loopw [30] (fun x wr => x = .int .i64 0 ∧ w1 = wr) (fun x _ => 0)
    case atStart => exact ⟨rfl, rfl⟩
    case round =>
      obtain ⟨rfl, rfl⟩ := hrel
      go_wp2
      go_ret2
      exact ⟨_, _, rfl, f1, b1⟩
  · obtain ⟨g, rfl, hg1, hg2⟩ := f1.form (by have := f1.nc; omega)
    subst hb
    have hn9 : (b.length : Int) ≤ 1000000000 := by have := HN.out; omega
    go_loopw [30] (fun x wr => TurRel s b g d1 w1 w.heap.size x wr) (fun x _ => b.length - (intOf x).toNat)
    case atStart => exact ⟨0, Nat.zero_le _, rfl, by rw [turnedTo_zero]; exact f1, Below.refl _ _⟩
    case round =>
      obtain ⟨i, hi, rfl, hf, hbl⟩ := hrel
      by_cases hlt : i < b.length
      · obtain ⟨bb, off, u, rfl, hbb, hu, hcb⟩ := (hrb1.below hbl).at_ hlt
        have hu2 : u = .int .u8 (b[i].toNat : Int) := by
          rw [bvs_get, List.getElem?_eq_getElem hlt] at hu
          injection hu with hu
          exact hu.symm
        subst hu2
        obtain ⟨v, hv, hcv⟩ := hf.cell (i := i) hlt
        have hv2 : v = .int .u8 (s[i].toNat : Int) := by
          rw [bvs_get, List.getElem?_eq_getElem (by rw [turnedTo_len]; omega), turnedTo_at s b i (by omega)] at hv
          injection hv with hv
          exact hv.symm
        subst hv2
        have hfz := hf.frozen (i := i) hlt
        have hst := turnedTo_step s b i (by omega) hlt
        have h0 : ¬ ((i : Int) < 0) := by omega
        have h1 : (i : Int) < (b.length : Int) := by omega
        have HF := Lib.hid hf
        have HST := Lib.hid hst
        have HBL := Lib.hid hbl
        clear hf hst hbl hu hv
        go_wp2
        go_roundw
        case rel =>
          refine ⟨i + 1, hlt, rfl, ?_, HBL.out.setCell (p := ⟨g, i, none⟩) hg1 _⟩
          rw [← HST.out]
          have h := HF.out.set (by have := HF.out.nc; omega) i (bv (s[i] ^^^ b[i]))
          have e0 : Value.int .u8 (bits .xor .u8 (s[i].toNat : Int) (b[i].toNat : Int)) = bv (s[i] ^^^ b[i]) := by
            unfold bv
            rw [xor_u8]
          have e : bvs ((turnedTo s b i).set i (s[i] ^^^ b[i])) = (bvs (turnedTo s b i)).set i (bv (s[i] ^^^ b[i])) := by simp [bvs, List.map_set]
          rw [e, e0]
          exact h
        case measure => simp [intOf]; omega
      · obtain rfl : i = b.length := by omega
        rw [turnedTo_all s b (by omega)] at hf
        go_wp2
        go_ret2
        exact ⟨_, _, rfl, hf, b1.trans (hbl)⟩
end Go.Proofs.Ytfjjkkakhfgdhaa
