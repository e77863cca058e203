/-
  Numbers as bytes, in plain mathematics: the bytes of a number (le), the number of bytes (num), and what follows. No program stands here.
-/
namespace Go.Proofs.Ytgcagenhfddpgaa

/-- So many bytes of a number, the lowest first. -/
def le : Nat → Nat → List UInt8
  | 0, _ => []
  | k + 1, n => UInt8.ofNat n :: le k (n / 256)
theorem le_len (k n : Nat) : (le k n).length = k := by
  induction k generalizing n with
  | zero => rfl
  | succ k ih => simp [le, ih]
theorem le_snoc (k n : Nat) : le (k + 1) n = le k n ++ [UInt8.ofNat (n / 256 ^ k)] := by
  induction k generalizing n with
  | zero => simp [le]
  | succ k ih => rw [le, ih, le, List.cons_append, Nat.div_div_eq_div_mul, Nat.pow_succ, Nat.mul_comm]
theorem le_take (k m n : Nat) (h : k ≤ m) : (le m n).take k = le k n := by
  induction k generalizing m n with
  | zero => simp [le]
  | succ k ih =>
    obtain ⟨m, rfl⟩ : ∃ m', m = m' + 1 := ⟨m - 1, by omega⟩
    rw [le, le, List.take_succ_cons, ih m _ (by omega)]

/-- The number of bytes. -/
def num : List UInt8 → Nat
  | [] => 0
  | c :: l => c.toNat + 256 * num l
theorem num_lt (l : List UInt8) : num l < 256 ^ l.length := by
  induction l with
  | nil => simp [num]
  | cons c l ih =>
    have := c.toNat_lt
    rw [num, List.length_cons, Nat.pow_succ]
    omega
theorem num_le (k n : Nat) : num (le k n) = n % 256 ^ k := by
  induction k generalizing n with
  | zero => simp [le, num, Nat.mod_one]
  | succ k ih =>
    rw [le, num, ih, Nat.pow_succ, Nat.mul_comm (256 ^ k) 256, Nat.mod_mul]
    simp
theorem le_num (l : List UInt8) : le l.length (num l) = l := by
  induction l with
  | nil => rfl
  | cons c l ih =>
    have hc := c.toNat_lt
    rw [List.length_cons, le, num]
    have h1 : (c.toNat + 256 * num l) / 256 = num l := by omega
    rw [h1, ih]
    congr 1
    apply UInt8.toNat_inj.1
    rw [UInt8.toNat_ofNat']
    omega
theorem num_inj {a b : List UInt8} (hl : a.length = b.length) (h : num a = num b) : a = b := by
  rw [← le_num a, ← le_num b, hl, h]
theorem le_inj {k m n : Nat} (hm : m < 256 ^ k) (hn : n < 256 ^ k) (h : le k m = le k n) : m = n := by
  have := congrArg num h
  rwa [num_le, num_le, Nat.mod_eq_of_lt hm, Nat.mod_eq_of_lt hn] at this

/-- What a loop from behind makes of pairs (place, byte). -/
def back (l : List (Nat × UInt8)) : Nat := l.foldl (fun n x => 256 * n + x.2.toNat) 0
theorem back_snoc (l : List (Nat × UInt8)) (x : Nat × UInt8) : back (l ++ [x]) = 256 * back l + x.2.toNat := by simp [back, List.foldl_append]
theorem back_lt (l : List (Nat × UInt8)) : back l < 256 ^ l.length := by
  suffices h : ∀ (r : List (Nat × UInt8)), back r.reverse < 256 ^ r.length by
    have := h l.reverse
    simpa using this
  intro r
  induction r with
  | nil => simp [back]
  | cons x r ih =>
    have := x.2.toNat_lt
    rw [List.reverse_cons, back_snoc, List.length_cons, Nat.pow_succ]
    omega

/-- What has come when k rounds are over. -/
def upto {α : Type} (f : Nat → α) (k : Nat) : List α := (List.range k).map f
theorem upto_succ {α : Type} (f : Nat → α) (k : Nat) : upto f (k + 1) = upto f k ++ [f k] := by simp [upto, List.range_succ]
theorem upto_length {α : Type} (f : Nat → α) (k : Nat) : (upto f k).length = k := by simp [upto]

/-- The pairs of a list, from behind. -/
def pairs (l : List UInt8) (j : Nat) : Nat × UInt8 := (l.length - 1 - j, l[l.length - 1 - j]?.getD 0)
theorem back_pairs (l : List UInt8) (j : Nat) (h : j ≤ l.length) : back (upto (pairs l) j) = num (l.drop (l.length - j)) := by
  induction j with
  | zero => simp [upto, back, num]
  | succ j ih =>
    have hlt : l.length - (j + 1) < l.length := by omega
    rw [upto_succ, back_snoc, ih (by omega), List.drop_eq_getElem_cons hlt, num]
    have e1 : l.length - (j + 1) + 1 = l.length - j := by omega
    have e2 : l.length - 1 - j = l.length - (j + 1) := by omega
    have e3 : (pairs l j).2 = l[l.length - (j + 1)] := by
      simp only [pairs, e2, List.getElem?_eq_getElem hlt, Option.getD_some]
    rw [e1, e3]
    omega
theorem back_all (l : List UInt8) : back (upto (pairs l) l.length) = num l := by rw [back_pairs l _ (Nat.le_refl _)]; simp

theorem le_get (S k n : Nat) (h : k < S) : (le S n)[k]? = some (UInt8.ofNat (n / 256 ^ k)) := by
  induction k generalizing S n with
  | zero =>
    obtain ⟨S, rfl⟩ : ∃ s, S = s + 1 := ⟨S - 1, by omega⟩
    simp [le]
  | succ k ih =>
    obtain ⟨S, rfl⟩ : ∃ s, S = s + 1 := ⟨S - 1, by omega⟩
    rw [le, List.getElem?_cons_succ, ih S _ (by omega), Nat.div_div_eq_div_mul, Nat.pow_succ, Nat.mul_comm]
/-- The digit at a place. -/
def dig (n k : Nat) : Nat := n / 256 ^ k % 256
theorem dig_div (n k : Nat) : n / 256 ^ k = 256 * (n / 256 ^ (k + 1)) + dig n k := by
  rw [Nat.pow_succ, ← Nat.div_div_eq_div_mul, dig]
  omega
theorem dig_byte (n k : Nat) : (UInt8.ofNat (n / 256 ^ k)).toNat = dig n k := by rw [UInt8.toNat_ofNat', dig]
theorem dig_lt (n k : Nat) : dig n k < 256 := Nat.mod_lt _ (by omega)
theorem dig_same {n m k : Nat} (h : n / 256 ^ (k + 1) = m / 256 ^ (k + 1)) (hd : dig n k = dig m k) : n / 256 ^ k = m / 256 ^ k := by
  rw [dig_div n, dig_div m, h, hd]
theorem lt_of_div {n m d : Nat} (h : n / d < m / d) : n < m := by
  rcases Nat.lt_or_ge n m with h1 | h1
  · exact h1
  · have := Nat.div_le_div_right (c := d) h1
    omega
theorem dig_gt {n m k : Nat} (h : n / 256 ^ (k + 1) = m / 256 ^ (k + 1)) (hd : dig n k ≠ dig m k) : (dig m k < dig n k) ↔ m < n := by
  have h1 := dig_div n k
  have h2 := dig_div m k
  constructor
  · intro hlt
    exact lt_of_div (d := 256 ^ k) (by omega)
  · intro hlt
    have := Nat.div_le_div_right (c := 256 ^ k) (Nat.le_of_lt hlt)
    omega
end Go.Proofs.Ytgcagenhfddpgaa
