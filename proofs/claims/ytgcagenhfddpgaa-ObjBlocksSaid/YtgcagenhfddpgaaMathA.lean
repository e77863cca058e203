/-
  Numbers as bytes, in plain mathematics: the bytes of a number (le), the number of bytes (num), and what follows. No program stands here.
-/
namespace Go.Proofs.Ytgcagenhfddpgaa

/-- So many bytes of a number, the lowest first. -/
def le : Nat → Nat → List UInt8
  | 0, _ => []
  | k + 1, n => UInt8.ofNat n :: le k (n / 256)
theorem le_len (k n : Nat) : (le k n).length = k := by
  induction k generalizing n with
  | zero => rfl
  | succ k ih => simp [le, ih]
theorem le_snoc (k n : Nat) : le (k + 1) n = le k n ++ [UInt8.ofNat (n / 256 ^ k)] := by
  induction k generalizing n with
  | zero => simp [le]
  | succ k ih => rw [le, ih, le, List.cons_append, Nat.div_div_eq_div_mul, Nat.pow_succ, Nat.mul_comm]
theorem le_take (k m n : Nat) (h : k ≤ m) : (le m n).take k = le k n := by
  induction k generalizing m n with
  | zero => simp [le]
  | succ k ih =>
    obtain ⟨m, rfl⟩ : ∃ m', m = m' + 1 := ⟨m - 1, by omega⟩
    rw [le, le, List.take_succ_cons, ih m _ (by omega)]

/-- The number of bytes. -/
def num : List UInt8 → Nat
  | [] => 0
  | c :: l => c.toNat + 256 * num l
theorem num_lt (l : List UInt8) : num l < 256 ^ l.length := by
  induction l with
  | nil => simp [num]
  | cons c l ih =>
    have := c.toNat_lt
    rw [num, List.length_cons, Nat.pow_succ]
    omega
theorem num_app (a b : List UInt8) : num (a ++ b) = num a + 256 ^ a.length * num b := by
  induction a with
  | nil => simp [num]
  | cons c a ih =>
    rw [List.cons_append, num, num, ih, List.length_cons, Nat.pow_succ, Nat.mul_add, Nat.mul_comm (256 ^ a.length) 256, Nat.mul_assoc]
    omega
theorem num_le (k n : Nat) : num (le k n) = n % 256 ^ k := by
  induction k generalizing n with
  | zero => simp [le, num, Nat.mod_one]
  | succ k ih =>
    rw [le, num, ih, Nat.pow_succ, Nat.mul_comm (256 ^ k) 256, Nat.mod_mul]
    simp
theorem le_num (l : List UInt8) : le l.length (num l) = l := by
  induction l with
  | nil => rfl
  | cons c l ih =>
    have hc := c.toNat_lt
    rw [List.length_cons, le, num]
    have h1 : (c.toNat + 256 * num l) / 256 = num l := by omega
    rw [h1, ih]
    congr 1
    apply UInt8.toNat_inj.1
    rw [UInt8.toNat_ofNat']
    omega
theorem num_inj {a b : List UInt8} (hl : a.length = b.length) (h : num a = num b) : a = b := by
  rw [← le_num a, ← le_num b, hl, h]
theorem le_inj {k m n : Nat} (hm : m < 256 ^ k) (hn : n < 256 ^ k) (h : le k m = le k n) : m = n := by
  have := congrArg num h
  rwa [num_le, num_le, Nat.mod_eq_of_lt hm, Nat.mod_eq_of_lt hn] at this

/-- What a loop from behind makes of pairs (place, byte). -/
def back (l : List (Nat × UInt8)) : Nat := l.foldl (fun n x => 256 * n + x.2.toNat) 0
theorem back_snoc (l : List (Nat × UInt8)) (x : Nat × UInt8) : back (l ++ [x]) = 256 * back l + x.2.toNat := by simp [back, List.foldl_append]
theorem back_lt (l : List (Nat × UInt8)) : back l < 256 ^ l.length := by
  suffices h : ∀ (r : List (Nat × UInt8)), back r.reverse < 256 ^ r.length by
    have := h l.reverse
    simpa using this
  intro r
  induction r with
  | nil => simp [back]
  | cons x r ih =>
    have := x.2.toNat_lt
    rw [List.reverse_cons, back_snoc, List.length_cons, Nat.pow_succ]
    omega

/-- What has come when k rounds are over. -/
def upto {α : Type} (f : Nat → α) (k : Nat) : List α := (List.range k).map f
theorem upto_succ {α : Type} (f : Nat → α) (k : Nat) : upto f (k + 1) = upto f k ++ [f k] := by simp [upto, List.range_succ]
theorem upto_length {α : Type} (f : Nat → α) (k : Nat) : (upto f k).length = k := by simp [upto]

/-- The pairs of a list, from behind. -/
def pairs (l : List UInt8) (j : Nat) : Nat × UInt8 := (l.length - 1 - j, l[l.length - 1 - j]?.getD 0)
theorem back_pairs (l : List UInt8) (j : Nat) (h : j ≤ l.length) : back (upto (pairs l) j) = num (l.drop (l.length - j)) := by
  induction j with
  | zero => simp [upto, back, num]
  | succ j ih =>
    have hlt : l.length - (j + 1) < l.length := by omega
    rw [upto_succ, back_snoc, ih (by omega), List.drop_eq_getElem_cons hlt, num]
    have e1 : l.length - (j + 1) + 1 = l.length - j := by omega
    have e2 : l.length - 1 - j = l.length - (j + 1) := by omega
    have e3 : (pairs l j).2 = l[l.length - (j + 1)] := by
      simp only [pairs, e2, List.getElem?_eq_getElem hlt, Option.getD_some]
    rw [e1, e3]
    omega
theorem back_all (l : List UInt8) : back (upto (pairs l) l.length) = num l := by rw [back_pairs l _ (Nat.le_refl _)]; simp

theorem le_get (S k n : Nat) (h : k < S) : (le S n)[k]? = some (UInt8.ofNat (n / 256 ^ k)) := by
  induction k generalizing S n with
  | zero =>
    obtain ⟨S, rfl⟩ : ∃ s, S = s + 1 := ⟨S - 1, by omega⟩
    simp [le]
  | succ k ih =>
    obtain ⟨S, rfl⟩ : ∃ s, S = s + 1 := ⟨S - 1, by omega⟩
    rw [le, List.getElem?_cons_succ, ih S _ (by omega), Nat.div_div_eq_div_mul, Nat.pow_succ, Nat.mul_comm]
/-- The digit at a place. -/
def dig (n k : Nat) : Nat := n / 256 ^ k % 256
theorem dig_div (n k : Nat) : n / 256 ^ k = 256 * (n / 256 ^ (k + 1)) + dig n k := by
  rw [Nat.pow_succ, ← Nat.div_div_eq_div_mul, dig]
  omega
theorem dig_byte (n k : Nat) : (UInt8.ofNat (n / 256 ^ k)).toNat = dig n k := by rw [UInt8.toNat_ofNat', dig]
theorem dig_lt (n k : Nat) : dig n k < 256 := Nat.mod_lt _ (by omega)
theorem dig_same {n m k : Nat} (h : n / 256 ^ (k + 1) = m / 256 ^ (k + 1)) (hd : dig n k = dig m k) : n / 256 ^ k = m / 256 ^ k := by
  rw [dig_div n, dig_div m, h, hd]
theorem lt_of_div {n m d : Nat} (h : n / d < m / d) : n < m := by
  rcases Nat.lt_or_ge n m with h1 | h1
  · exact h1
  · have := Nat.div_le_div_right (c := d) h1
    omega
theorem dig_gt {n m k : Nat} (h : n / 256 ^ (k + 1) = m / 256 ^ (k + 1)) (hd : dig n k ≠ dig m k) : (dig m k < dig n k) ↔ m < n := by
  have h1 := dig_div n k
  have h2 := dig_div m k
  constructor
  · intro hlt
    exact lt_of_div (d := 256 ^ k) (by omega)
  · intro hlt
    have := Nat.div_le_div_right (c := 256 ^ k) (Nat.le_of_lt hlt)
    omega

/-! ### what Put and Get answer -/
/-- 256 to a size from 1 to 4. -/
def room (s : Int) : Int := (256 ^ s.toNat : Nat)
/-- May a number be put in so many bytes? -/
def PutOk (n s : Int) : Prop := 0 < s ∧ s ≤ 4 ∧ 0 ≤ n ∧ n < room s
theorem putOk_lt {n s : Int} (h : PutOk n s) : n.toNat < 256 ^ s.toNat := by
  obtain ⟨_, _, h0, hb⟩ := h
  unfold room at hb
  omega
theorem room_mono {s t : Int} (h : s ≤ t) : room s ≤ room t := by
  unfold room
  have : 256 ^ s.toNat ≤ 256 ^ t.toNat := Nat.pow_le_pow_right (by omega) (by omega)
  omega

instance (n s : Int) : Decidable (PutOk n s) := by unfold PutOk; infer_instance
def putL (n s : Int) : List UInt8 := if PutOk n s then le s.toNat n.toNat else []
def putE (n s : Int) : Int := if PutOk n s then 0 else 2
/-- Is there a number of that size at that place? -/
def GetArg (n : Nat) (a s : Int) : Prop := 0 < s ∧ s ≤ 4 ∧ 0 ≤ a ∧ a ≤ (n : Int)
instance (n : Nat) (a s : Int) : Decidable (GetArg n a s) := by unfold GetArg; infer_instance
def getV (l : List UInt8) (a s : Int) : Int := if GetArg l.length a s ∧ a + s ≤ (l.length : Int) then (num ((l.drop a.toNat).take s.toNat) : Int) else 0
def getE (l : List UInt8) (a s : Int) : Int := if ¬ GetArg l.length a s then 2 else if (l.length : Int) < a + s then 8 else 0

theorem putL_yes {n s : Int} (h : PutOk n s) : putL n s = le s.toNat n.toNat := by unfold putL; rw [if_pos h]
theorem putE_yes {n s : Int} (h : PutOk n s) : putE n s = 0 := by unfold putE; rw [if_pos h]
theorem putE_no {n s : Int} (h : ¬ PutOk n s) : putE n s = 2 := by unfold putE; rw [if_neg h]
theorem getE_zero {l : List UInt8} {a s : Int} (h : getE l a s = 0) : GetArg l.length a s ∧ a + s ≤ (l.length : Int) := by
  unfold getE at h
  by_cases h1 : GetArg l.length a s
  · rw [if_neg (not_not_intro h1)] at h
    by_cases h2 : (l.length : Int) < a + s
    · rw [if_pos h2] at h
      omega
    · exact ⟨h1, by omega⟩
  · rw [if_pos h1] at h
    omega
theorem getV_err {l : List UInt8} {a s : Int} (h : getE l a s ≠ 0) : getV l a s = 0 := by
  unfold getV
  refine if_neg fun hh => h ?_
  unfold getE
  rw [if_neg (not_not_intro hh.1), if_neg (by omega)]
/-- What is put is got, whatever stands around it. -/
theorem get_put {n s : Int} (h : PutOk n s) (x y : List UInt8) : getV (x ++ putL n s ++ y) x.length s = n ∧ getE (x ++ putL n s ++ y) x.length s = 0 := by
  obtain ⟨h1, h2, h3, h4⟩ := h
  have hl : (putL n s).length = s.toNat := by rw [putL_yes ⟨h1, h2, h3, h4⟩, le_len]
  have hlen : (x ++ putL n s ++ y).length = x.length + s.toNat + y.length := by simp [hl, Nat.add_assoc]
  have ha : GetArg (x ++ putL n s ++ y).length (x.length : Int) s := ⟨h1, h2, by omega, by omega⟩
  constructor
  · unfold getV
    rw [if_pos ⟨ha, by omega⟩, Int.toNat_natCast, List.append_assoc, List.drop_left, List.take_left' hl, putL_yes ⟨h1, h2, h3, h4⟩, num_le, Nat.mod_eq_of_lt (putOk_lt ⟨h1, h2, h3, h4⟩)]
    omega
  · unfold getE
    rw [if_neg (not_not_intro ha), if_neg (by omega)]
/-- What is got is put as these bytes. -/
theorem put_get {l : List UInt8} {a s : Int} (h : getE l a s = 0) : PutOk (getV l a s) s ∧ putL (getV l a s) s = (l.drop a.toNat).take s.toNat := by
  obtain ⟨⟨h1, h2, h3, h4⟩, h5⟩ := getE_zero h
  have hv : getV l a s = (num ((l.drop a.toNat).take s.toNat) : Int) := by
    unfold getV
    exact if_pos ⟨⟨h1, h2, h3, h4⟩, h5⟩
  have hl : ((l.drop a.toNat).take s.toNat).length = s.toNat := by rw [List.length_take, List.length_drop]; omega
  have hlt := num_lt ((l.drop a.toNat).take s.toNat)
  rw [hl] at hlt
  have hp : PutOk (getV l a s) s := by
    rw [hv]
    refine ⟨h1, h2, by omega, ?_⟩
    unfold room
    omega
  refine ⟨hp, ?_⟩
  rw [putL_yes hp, hv, Int.toNat_natCast]
  have := le_num ((l.drop a.toNat).take s.toNat)
  rw [hl] at this
  exact this
end Go.Proofs.Ytgcagenhfddpgaa
