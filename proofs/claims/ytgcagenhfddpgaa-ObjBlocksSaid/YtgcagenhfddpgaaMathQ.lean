/-
  What pointers, rows of them, and reading them come to, in plain Lean.
-/
import Derived.Test.YtgcagenhfddpgaaPtrB
import Derived.Test.YtgcagenhfddpgaaRoom
namespace Go.Proofs.Ytgcagenhfddpgaa
set_option linter.unusedVariables false
set_option maxRecDepth 100000

def InU (x : Int) : Prop := 0 ≤ x ∧ x ≤ 4294967295
/-- The numbers of a pointer fit their kinds. -/
def Pt.U (p : Pt) : Prop := InU p.b ∧ InU p.i ∧ InU p.t ∧ InU p.s
def Pt.May (p : Pt) : Prop := PtMay p.a p.b p.i p.t p.s
instance (p : Pt) : Decidable p.May := by unfold Pt.May; infer_instance
def Pt.bytes (p : Pt) : List UInt8 := pb p.a p.b p.i p.t p.s
def Pt.chk (p : Pt) : Int := if p.May then 0 else 8
def Pt.eq (p q : Pt) : Bool := ptEq p.a p.b p.i p.t p.s q.a q.b q.i q.t q.s
theorem Pt.eq_iff (p q : Pt) : p.eq q = true ↔ p = q := by
  unfold Pt.eq
  rw [ptEq_iff]
  constructor
  · rintro ⟨h1, h2, h3, h4, h5⟩
    exact Pt.ext_ h1 h2 h3 h4 h5
  · rintro rfl
    exact ⟨rfl, rfl, rfl, rfl, rfl⟩
theorem Pt.eq_self (p : Pt) : p.eq p = true := (Pt.eq_iff p p).2 rfl
instance : DecidableEq Pt := fun p q => decidable_of_iff _ (Pt.eq_iff p q)
theorem Pt.eq_beq (p q : Pt) : p.eq q = decide (p = q) := by
  rw [Bool.eq_iff_iff, Pt.eq_iff, decide_eq_true_iff]
theorem Pt.bytes_len (p : Pt) : p.bytes.length = 16 := pb_len ..
theorem Pt.zero_may : Pt.zero.May := .inl ⟨rfl, rfl, rfl, rfl, rfl⟩
theorem Pt.zero_bytes : Pt.zero.bytes = List.replicate 16 0 := by decide
theorem Pt.zero_U : Pt.zero.U := ⟨⟨by decide, by decide⟩, ⟨by decide, by decide⟩, ⟨by decide, by decide⟩, by decide, by decide⟩
theorem Pt.chk_zero {p : Pt} (h : p.May) : p.chk = 0 := if_pos h
theorem Pt.chk_bad {p : Pt} (h : ¬ p.May) : p.chk = 8 := if_neg h

/-- Sixteen bytes as a pointer. -/
def rd16 (l : List UInt8) : Pt := ⟨num (l.take 1), num ((l.drop 1).take 3), num ((l.drop 4).take 4), num ((l.drop 8).take 4), num ((l.drop 12).take 4)⟩
theorem num_small (l : List UInt8) (k : Nat) (h : l.length ≤ k) : num l < 256 ^ k := Nat.lt_of_lt_of_le (num_lt l) (Nat.pow_le_pow_right (by omega) h)
theorem take_len_le {α : Type} (l : List α) (k : Nat) : (l.take k).length ≤ k := by rw [List.length_take]; omega
theorem rd16_U (l : List UInt8) : (rd16 l).U := by
  have h1 := num_small _ 3 (take_len_le (l.drop 1) 3)
  have h2 := num_small _ 4 (take_len_le (l.drop 4) 4)
  have h3 := num_small _ 4 (take_len_le (l.drop 8) 4)
  have h4 := num_small _ 4 (take_len_le (l.drop 12) 4)
  unfold Pt.U InU rd16
  dsimp only
  omega
theorem rd16_a (l : List UInt8) : 0 ≤ (rd16 l).a ∧ (rd16 l).a ≤ 255 := by
  have h1 := num_small _ 1 (take_len_le l 1)
  unfold rd16
  dsimp only
  omega
theorem piece_join {α : Type} (l : List α) (i k : Nat) : (l.drop i).take k ++ l.drop (i + k) = l.drop i := by
  have h := List.take_append_drop k (l.drop i)
  rwa [List.drop_drop] at h
theorem bytes_rd16 {l : List UInt8} (h : l.length = 16) : (rd16 l).bytes = l := by
  have e : ∀ i k, i + k ≤ 16 → le k ((num ((l.drop i).take k) : Int)).toNat = (l.drop i).take k := by
    intro i k hk
    have hl : ((l.drop i).take k).length = k := by rw [List.length_take, List.length_drop]; omega
    have := le_num ((l.drop i).take k)
    rw [hl] at this
    rw [Int.toNat_natCast]
    exact this
  have e0 := e 0 1 (by omega)
  rw [List.drop_zero] at e0
  unfold Pt.bytes rd16 pb
  dsimp only
  rw [e0, e 1 3 (by omega), e 4 4 (by omega), e 8 4 (by omega), e 12 4 (by omega)]
  rw [List.take_of_length_le (l := l.drop 12) (by rw [List.length_drop]; omega), piece_join l 8 4, piece_join l 4 4, piece_join l 1 3, List.take_append_drop]
theorem rd16_bytes {p : Pt} (hm : p.May) (hu : p.U) : rd16 p.bytes = p := by
  obtain ⟨h1, h2, h3, h4⟩ := ptMay_range hm
  obtain ⟨_, hi, ht, hs⟩ := hu
  unfold InU at hi ht hs
  have e0 : (pb p.a p.b p.i p.t p.s).take 1 = le 1 p.a.toNat := by
    unfold pb
    exact List.take_left' (le_len 1 _)
  unfold rd16 Pt.bytes
  rw [e0, pb_birth, pb_iv, pb_tag, pb_sum]
  simp only [num_le]
  refine Pt.ext_ ?_ ?_ ?_ ?_ ?_ <;> dsimp only <;> omega

/-- What reading bytes answers. -/
def readE (l : List UInt8) : Int := if l.length ≠ 16 then 3 else (rd16 l).chk
def readP (l : List UInt8) : Pt := if l.length = 16 ∧ (rd16 l).May then rd16 l else Pt.zero
theorem readE_len {l : List UInt8} (h : l.length ≠ 16) : readE l = 3 := if_pos h
theorem readP_len {l : List UInt8} (h : l.length ≠ 16) : readP l = Pt.zero := if_neg (fun hh => h hh.1)
theorem readE_16 {l : List UInt8} (h : l.length = 16) : readE l = (rd16 l).chk := if_neg (not_not_intro h)
theorem readP_may {l : List UInt8} (h : l.length = 16) (hm : (rd16 l).May) : readP l = rd16 l := if_pos ⟨h, hm⟩
theorem readP_bad {l : List UInt8} (hm : ¬ (rd16 l).May) : readP l = Pt.zero := if_neg (fun hh => hm hh.2)
theorem readE_ok {l : List UInt8} (h : readE l = 0) : l.length = 16 ∧ (rd16 l).May ∧ readP l = rd16 l := by
  unfold readE at h
  by_cases h1 : l.length = 16
  · rw [if_neg (not_not_intro h1)] at h
    unfold Pt.chk at h
    by_cases h2 : (rd16 l).May
    · exact ⟨h1, h2, readP_may h1 h2⟩
    · rw [if_neg h2] at h
      omega
  · rw [if_pos h1] at h
    omega
theorem readP_err {l : List UInt8} (h : readE l ≠ 0) : readP l = Pt.zero := by
  unfold readP
  refine if_neg (fun hh => h ?_)
  rw [readE_16 hh.1, Pt.chk_zero hh.2]
theorem readP_U (l : List UInt8) : (readP l).U := by
  unfold readP
  split
  · exact rd16_U l
  · exact Pt.zero_U
theorem read_bytes {p : Pt} (hm : p.May) (hu : p.U) : readE p.bytes = 0 ∧ readP p.bytes = p := by
  have h := rd16_bytes hm hu
  rw [readE_16 p.bytes_len, readP_may p.bytes_len (by rw [h]; exact hm), h]
  exact ⟨Pt.chk_zero hm, rfl⟩

/-! ### rows -/
def joined : List Pt → List UInt8
  | [] => []
  | p :: l => p.bytes ++ joined l
theorem joined_app (l m : List Pt) : joined (l ++ m) = joined l ++ joined m := by
  induction l with
  | nil => rfl
  | cons p l ih => simp [joined, ih]
theorem joined_len (l : List Pt) : (joined l).length = 16 * l.length := by
  induction l with
  | nil => rfl
  | cons p l ih => simp only [joined, List.length_append, Pt.bytes_len, ih, List.length_cons]; omega
def AllMay (l : List Pt) : Prop := ∀ p ∈ l, p.May
def AllU (l : List Pt) : Prop := ∀ p ∈ l, p.U
instance (l : List Pt) : Decidable (AllMay l) := by unfold AllMay; infer_instance
def holes (n : Nat) : List Pt := List.replicate n Pt.zero
theorem joined_holes (n : Nat) : joined (holes n) = List.replicate (16 * n) 0 := by
  induction n with
  | zero => rfl
  | succ n ih =>
    rw [holes, List.replicate_succ, joined, Pt.zero_bytes]
    rw [holes] at ih
    rw [ih, List.replicate_append_replicate]
    congr 1
    omega
theorem allMay_holes (n : Nat) : AllMay (holes n) := by
  intro p hp
  rw [(List.mem_replicate.1 hp).2]
  exact Pt.zero_may
theorem allU_holes (n : Nat) : AllU (holes n) := by
  intro p hp
  rw [(List.mem_replicate.1 hp).2]
  exact Pt.zero_U
/-- The row of up to sixteen. -/
def rowL (l : List Pt) : List UInt8 := joined (l ++ holes (16 - l.length))
def rowE (l : List Pt) : Int := if 16 < l.length then 4 else if AllMay l then 0 else 8
def rowB (l : List Pt) : List UInt8 := if rowE l = 0 then rowL l else []
theorem rowL_len {l : List Pt} (h : l.length ≤ 16) : (rowL l).length = 256 := by
  rw [rowL, joined_len, List.length_append, holes, List.length_replicate]
  omega
theorem rowE_ok {l : List Pt} (h : rowE l = 0) : l.length ≤ 16 ∧ AllMay l ∧ rowB l = rowL l ∧ (rowB l).length = 256 := by
  have hb : rowB l = rowL l := if_pos h
  unfold rowE at h
  by_cases h1 : 16 < l.length
  · rw [if_pos h1] at h; omega
  · rw [if_neg h1] at h
    by_cases h2 : AllMay l
    · exact ⟨by omega, h2, hb, by rw [hb]; exact rowL_len (by omega)⟩
    · rw [if_neg h2] at h; omega
theorem rowE_may {l : List Pt} (h : l.length ≤ 16) (hm : AllMay l) : rowE l = 0 := by
  unfold rowE
  rw [if_neg (by omega), if_pos hm]
theorem rowE_bad {l : List Pt} (h : l.length ≤ 16) (hm : ¬ AllMay l) : rowE l = 8 := by
  unfold rowE
  rw [if_neg (by omega), if_neg hm]
theorem rowE_many {l : List Pt} (h : 16 < l.length) : rowE l = 4 := if_pos h
theorem rowB_err {l : List Pt} (h : rowE l ≠ 0) : rowB l = [] := if_neg h
theorem rowB_may {l : List Pt} (h : l.length ≤ 16) (hm : AllMay l) : rowB l = rowL l := if_pos (rowE_may h hm)
/-- The piece at a place. -/
def piece16 (b : List UInt8) (k : Nat) : List UInt8 := (b.drop (16 * k)).take 16
theorem piece16_len {b : List UInt8} {k : Nat} (h : 16 * k + 16 ≤ b.length) : (piece16 b k).length = 16 := by
  rw [piece16, List.length_take, List.length_drop]
  omega
theorem piece16_joined (l : List Pt) (k : Nat) (h : k < l.length) : piece16 (joined l) k = (l[k]).bytes := by
  induction l generalizing k with
  | nil => cases h
  | cons p l ih =>
    cases k with
    | zero => exact List.take_left' (Pt.bytes_len p)
    | succ k =>
      have := ih k (by simpa using h)
      unfold piece16 at this ⊢
      rw [joined, show 16 * (k + 1) = p.bytes.length + 16 * k by rw [Pt.bytes_len]; omega, ← List.drop_drop, List.drop_left, List.getElem_cons_succ]
      exact this
/-- What sixteen pieces are as pointers. -/
def rowsL (b : List UInt8) : List Pt := upto (fun k => rd16 (piece16 b k)) 16
theorem upto_get {α : Type} (f : Nat → α) (n k : Nat) (h : k < (upto f n).length) : (upto f n)[k] = f k := by simp [upto]
theorem rowsL_len (b : List UInt8) : (rowsL b).length = 16 := upto_length _ _
def rowsE (b : List UInt8) : Int := if b.length ≠ 256 then 3 else if AllMay (rowsL b) then 0 else 8
def rowsP (b : List UInt8) : List Pt := if rowsE b = 0 then rowsL b else []
theorem rowsE_ok {b : List UInt8} (h : rowsE b = 0) : b.length = 256 ∧ AllMay (rowsL b) ∧ rowsP b = rowsL b := by
  have hb : rowsP b = rowsL b := if_pos h
  unfold rowsE at h
  by_cases h1 : b.length = 256
  · rw [if_neg (not_not_intro h1)] at h
    by_cases h2 : AllMay (rowsL b)
    · exact ⟨h1, h2, hb⟩
    · rw [if_neg h2] at h; omega
  · rw [if_pos h1] at h; omega
theorem rowsE_len {b : List UInt8} (h : b.length ≠ 256) : rowsE b = 3 := if_pos h
theorem rowsE_may {b : List UInt8} (h : b.length = 256) (hm : AllMay (rowsL b)) : rowsE b = 0 := by
  unfold rowsE
  rw [if_neg (not_not_intro h), if_pos hm]
theorem rowsE_bad {b : List UInt8} (h : b.length = 256) (hm : ¬ AllMay (rowsL b)) : rowsE b = 8 := by
  unfold rowsE
  rw [if_neg (not_not_intro h), if_neg hm]
theorem rowsP_err {b : List UInt8} (h : rowsE b ≠ 0) : rowsP b = [] := if_neg h
theorem rowsP_may {b : List UInt8} (h : b.length = 256) (hm : AllMay (rowsL b)) : rowsP b = rowsL b := if_pos (rowsE_may h hm)
theorem rowsL_U (b : List UInt8) : AllU (rowsL b) := by
  intro p hp
  obtain ⟨k, _, rfl⟩ := List.mem_map.1 hp
  exact rd16_U _
theorem rowsL_joined {l : List Pt} (h : l.length = 16) (hm : AllMay l) (hu : AllU l) : rowsL (joined l) = l := by
  refine List.ext_getElem (by rw [rowsL_len, h]) fun k h1 h2 => ?_
  have e : (rowsL (joined l))[k] = rd16 (piece16 (joined l) k) := upto_get (fun k => rd16 (piece16 (joined l) k)) 16 k h1
  rw [e, piece16_joined l k h2]
  exact rd16_bytes (hm _ (List.getElem_mem h2)) (hu _ (List.getElem_mem h2))
theorem joined_rowsL_upto (b : List UInt8) (n : Nat) (h : 16 * n ≤ b.length) : joined (upto (fun k => rd16 (piece16 b k)) n) = b.take (16 * n) := by
  induction n with
  | zero => simp [upto, joined]
  | succ n ih =>
    rw [upto_succ, joined_app, ih (by omega), joined, joined, List.append_nil, bytes_rd16 (piece16_len (by omega)), piece16, show 16 * (n + 1) = 16 * n + 16 by omega, List.take_add]
theorem joined_rowsL {b : List UInt8} (h : b.length = 256) : joined (rowsL b) = b := by
  rw [rowsL, joined_rowsL_upto b 16 (by omega), List.take_of_length_le (by omega)]
/-- A row is read as its pointers, and none behind them. -/
theorem rows_row {l : List Pt} (h : rowE l = 0) (hu : AllU l) : rowsE (rowB l) = 0 ∧ rowsP (rowB l) = l ++ holes (16 - l.length) := by
  obtain ⟨h1, h2, h3, h4⟩ := rowE_ok h
  have hlen : (l ++ holes (16 - l.length)).length = 16 := by rw [List.length_append, holes, List.length_replicate]; omega
  have hm : AllMay (l ++ holes (16 - l.length)) := fun p hp => (List.mem_append.1 hp).elim (h2 p) (allMay_holes _ p)
  have hU : AllU (l ++ holes (16 - l.length)) := fun p hp => (List.mem_append.1 hp).elim (hu p) (allU_holes _ p)
  have e : rowsL (rowB l) = l ++ holes (16 - l.length) := by rw [h3, rowL, rowsL_joined hlen hm hU]
  have e0 : rowsE (rowB l) = 0 := rowsE_may h4 (by rw [e]; exact hm)
  exact ⟨e0, by rw [(rowsE_ok e0).2.2, e]⟩
/-- What is read is written as that row. -/
theorem row_rows {b : List UInt8} (h : rowsE b = 0) : rowE (rowsP b) = 0 ∧ rowB (rowsP b) = b := by
  obtain ⟨h1, h2, h3⟩ := rowsE_ok h
  rw [h3]
  have e0 : rowE (rowsL b) = 0 := rowE_may (by rw [rowsL_len]; omega) h2
  refine ⟨e0, ?_⟩
  rw [(rowE_ok e0).2.2.1, rowL, rowsL_len]
  show joined (rowsL b ++ []) = b
  rw [List.append_nil, joined_rowsL h1]
end Go.Proofs.Ytgcagenhfddpgaa
