/-
  Objects as blocks, in plain Lean: reading and writing.
-/
import Derived.Test.YtgcagenhfddpgaaObjC
namespace Go.Proofs.Ytgcagenhfddpgaa
set_option linter.unusedVariables false
set_option linter.unusedSimpArgs false
set_option maxRecDepth 100000

def padL (b : List UInt8) : List UInt8 := b.drop 16 ++ noughts 16
def rdData (b : List UInt8) : List Pt := (rowsL (padL b)).take 15
def byteN (b : List UInt8) (i : Nat) : Nat := (b.getD i 0).toNat
def numS (b : List UInt8) : Int := (num ((b.drop 2).take 2) : Int)
def MidOk (b : List UInt8) : Prop := (b.drop 4).take 12 = noughts 12
def RdOk (b : List UInt8) : Prop := b.length = 256 ∧ AllMay (rowsL (padL b)) ∧ MidOk b ∧ ObMay (byteN b 0 : Int) (byteN b 1 : Int) (numS b) (rdData b)
theorem padL_len {b : List UInt8} (h : b.length = 256) : (padL b).length = 256 := by
  rw [padL, List.length_append, List.length_drop, noughts_len, h]
theorem rdData_len (b : List UInt8) : (rdData b).length = 15 := by
  rw [rdData, List.length_take, rowsL_len]
  rfl
theorem rdData_U (b : List UInt8) : AllU (rdData b) := fun p hp => rowsL_U (padL b) p (List.mem_of_mem_take hp)
/-- The last pointer of a padded row is a hole. -/
theorem rows_last {b : List UInt8} (h : b.length = 256) : rowsL (padL b) = rdData b ++ [Pt.zero] := by
  have hz : rd16 (piece16 (padL b) 15) = Pt.zero := by
    have : piece16 (padL b) 15 = noughts 16 := by
      rw [piece16, padL, List.drop_append, List.drop_drop, List.drop_of_length_le (by omega), List.length_drop, h]
      rfl
    rw [this]
    decide
  have e : rowsL (padL b) = upto (fun k => rd16 (piece16 (padL b) k)) 15 ++ [rd16 (piece16 (padL b) 15)] := upto_succ _ _
  rw [rdData, e, List.take_left' (by rw [upto_length]), hz]
theorem joined_rdData {b : List UInt8} (h : b.length = 256) : joined (rdData b) = b.drop 16 := by
  have e := joined_rowsL (padL_len h)
  rw [rows_last h, joined_app] at e
  have e2 : joined [Pt.zero] = noughts 16 := by decide
  rw [e2] at e
  exact List.append_cancel_right e
theorem allMay_last {b : List UInt8} (h : b.length = 256) : AllMay (rowsL (padL b)) ↔ AllMay (rdData b) := by
  rw [rows_last h]
  constructor
  · intro hm p hp
    exact hm p (List.mem_append_left _ hp)
  · intro hm p hp
    rcases List.mem_append.1 hp with hp | hp
    · exact hm p hp
    · rw [List.mem_singleton.1 hp]; exact Pt.zero_may

/-- What is read is written as just this block. -/
theorem block_back {b : List UInt8} (h : RdOk b) : obB (byteN b 0 : Int) (byteN b 1 : Int) (numS b) (rdData b) = b := by
  obtain ⟨hl, -, hm, ho⟩ := h
  rw [obB_yes ho]
  match b, hl, hm with
  | b0 :: b1 :: b2 :: b3 :: r, hl, hm =>
    have e0 : byteOf (byteN (b0 :: b1 :: b2 :: b3 :: r) 0 : Int) = b0 := by simp [byteOf, byteN]
    have e1 : byteOf (byteN (b0 :: b1 :: b2 :: b3 :: r) 1 : Int) = b1 := by simp [byteOf, byteN]
    have e2 : le 2 (numS (b0 :: b1 :: b2 :: b3 :: r)).toNat = [b2, b3] := by
      simp only [numS, List.drop_succ_cons, List.drop_zero, Int.toNat_natCast]
      exact le_num [b2, b3]
    rw [blockL, e0, e1, e2, joined_rdData hl]
    unfold MidOk at hm
    rw [← hm]
    show b0 :: b1 :: b2 :: b3 :: (r.take 12 ++ r.drop 12) = _
    rw [List.take_append_drop]
/-- What is written is read as it was. -/
theorem read_block {K L S : Int} {l : List Pt} (h : ObMay K L S l) (hu : AllU l) : RdOk (obB K L S l) ∧ (byteN (obB K L S l) 0 : Int) = K ∧ (byteN (obB K L S l) 1 : Int) = L ∧ numS (obB K L S l) = S ∧ rdData (obB K L S l) = l := by
  have hl := obB_len h
  have e := obB_yes h
  have k1 := byteOf_toNat (n := K) (by have := h.1; omega) (by have := h.1; omega)
  have k2 := byteOf_toNat (n := L) (by have := h.2.1; omega) (by have := h.2.1; omega)
  have hS := h.2.2.1
  have e0 : (byteN (obB K L S l) 0 : Int) = K := by rw [e]; exact k1
  have e1 : (byteN (obB K L S l) 1 : Int) = L := by rw [e]; exact k2
  have e2 : numS (obB K L S l) = S := by
    rw [e]
    unfold numS blockL
    have : List.take 2 (List.drop 2 ([byteOf K, byteOf L] ++ le 2 S.toNat ++ (noughts 12 ++ joined l))) = le 2 S.toNat := by
      rw [List.append_assoc]
      show List.take 2 (le 2 S.toNat ++ (noughts 12 ++ joined l)) = _
      exact List.take_left' (le_len _ _)
    rw [this, num_le]
    have : S.toNat < 256 ^ 2 := by omega
    rw [Nat.mod_eq_of_lt this]
    omega
  have e3 : (obB K L S l).drop 16 = joined l := by
    rw [e]
    unfold blockL
    rw [← List.append_assoc]
    exact List.drop_left' (by rw [List.length_append, List.length_append, le_len, noughts_len]; rfl)
  have e4 : MidOk (obB K L S l) := by
    rw [e]
    unfold MidOk blockL
    rw [List.drop_left' (by rw [List.length_append, le_len]; rfl)]
    exact List.take_left' (noughts_len 12)
  have e5 : rowsL (padL (obB K L S l)) = l ++ [Pt.zero] := by
    have : padL (obB K L S l) = joined (l ++ [Pt.zero]) := by
      rw [padL, e3, joined_app]
      rfl
    rw [this]
    refine rowsL_joined (by rw [List.length_append, h.2.2.2.1]; rfl) ?_ ?_
    · intro p hp
      rcases List.mem_append.1 hp with hp | hp
      · exact h.2.2.2.2 p hp
      · rw [List.mem_singleton.1 hp]; exact Pt.zero_may
    · intro p hp
      rcases List.mem_append.1 hp with hp | hp
      · exact hu p hp
      · rw [List.mem_singleton.1 hp]; exact Pt.zero_U
  have e6 : rdData (obB K L S l) = l := by
    rw [rdData, e5]
    exact List.take_left' h.2.2.2.1
  refine ⟨⟨hl, (allMay_last hl).2 ?_, e4, ?_⟩, e0, e1, e2, e6⟩
  · rw [e6]; exact h.2.2.2.2
  · rw [e0, e1, e2, e6]; exact h
end Go.Proofs.Ytgcagenhfddpgaa
