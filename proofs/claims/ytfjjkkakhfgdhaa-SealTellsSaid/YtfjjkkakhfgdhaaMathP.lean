/-
  Plain: the four words tell texts apart that differ in one piece.
-/
import Derived.Test.YtfjjkkakhfgdhaaFour
namespace Go.Proofs.Ytfjjkkakhfgdhaa
set_option linter.unusedVariables false
set_option linter.unusedSimpArgs false

theorem word_inj {a b : List UInt8} (ha : 4 ≤ a.length) (hb : 4 ≤ b.length) (h : word a = word b) : a.take 4 = b.take 4 := by
  have h1 : wi (word a) = wi (word b) := by rw [h]
  rw [wi_word, wi_word] at h1
  exact num_inj (by simp; omega) (by omega)
theorem xor_inj {a x y : Wd} (h : a ^^^ x = a ^^^ y) : x = y := by
  have : a ^^^ (a ^^^ x) = a ^^^ (a ^^^ y) := by rw [h]
  simpa [← BitVec.xor_assoc] using this
theorem xor_inj' {a x y : Wd} (h : x ^^^ a = y ^^^ a) : x = y := by
  rw [BitVec.xor_comm x, BitVec.xor_comm y] at h
  exact xor_inj h
theorem step_inj {P : List UInt8} {x y : W4} (h : step P x = step P y) : x = y := by
  have := often_inj 4 h
  simp only [W4.mk.injEq] at this
  exact W4.ext_ (xor_inj' this.1) this.2.1 (xor_inj' this.2.2.1) this.2.2.2
theorem step_piece {P Q : List UInt8} {x : W4} (hP : P.length = 8) (hQ : Q.length = 8) (h : step P x = step Q x) : P = Q := by
  have := often_inj 4 h
  simp only [W4.mk.injEq] at this
  have h1 := word_inj (by omega) (by omega) (xor_inj this.1)
  have h2 := word_inj (by simp; omega) (by simp; omega) (xor_inj this.2.2.1)
  rw [List.take_of_length_le (by simp; omega), List.take_of_length_le (by simp; omega)] at h2
  rw [← List.take_append_drop 4 P, ← List.take_append_drop 4 Q, h1, h2]
/-- Piece i. -/
def pc (L : List UInt8) (i : Nat) : List UInt8 := (L.drop (8 * i)).take 8
theorem mixed_same {L M : List UInt8} : ∀ r : Nat, (∀ i, i < r → pc L i = pc M i) → mixed L r = mixed M r
  | 0, _ => rfl
  | r + 1, h => by
    show step (pc L r) (mixed L r) = step (pc M r) (mixed M r)
    rw [h r (by omega), mixed_same r (fun i hi => h i (by omega))]
theorem mixed_back {L M : List UInt8} : ∀ (k r : Nat), (∀ i, r ≤ i → i < r + k → pc L i = pc M i) → mixed L (r + k) = mixed M (r + k) → mixed L r = mixed M r
  | 0, r, _, h => h
  | k + 1, r, hp, h => by
    have h' : step (pc L (r + k)) (mixed L (r + k)) = step (pc M (r + k)) (mixed M (r + k)) := h
    rw [hp (r + k) (by omega) (by omega)] at h'
    exact mixed_back k r (fun i h1 h2 => hp i h1 (by omega)) (step_inj h')
theorem mixed_piece {L M : List UInt8} {m r : Nat} (hr : r < m) (hL : L.length = 8 * m) (hM : M.length = 8 * m) (hp : ∀ i, i < m → i ≠ r → pc L i = pc M i) (h : mixed L m = mixed M m) : pc L r = pc M r := by
  have h1 : mixed L (r + 1) = mixed M (r + 1) := by
    refine mixed_back (m - (r + 1)) (r + 1) (fun i h1 h2 => hp i (by omega) (by omega)) ?_
    rw [show r + 1 + (m - (r + 1)) = m by omega]
    exact h
  have h2 := mixed_same r (fun i hi => hp i (by omega) (by omega))
  have h3 : step (pc L r) (mixed L r) = step (pc M r) (mixed M r) := h1
  rw [h2] at h3
  exact step_piece (by simp [pc]; omega) (by simp [pc]; omega) h3
theorem w4_inj {x y : W4} (ha : wi x.a = wi y.a) (hb : wi x.b = wi y.b) (hc : wi x.c = wi y.c) (hd : wi x.d = wi y.d) : x = y :=
  W4.ext_ (wi_inj ha) (wi_inj hb) (wi_inj hc) (wi_inj hd)
/-- Texts of one length that differ in piece r alone, if at all, have the same four words just where they are the same. -/
theorem four_piece {l k : List UInt8} {r : Nat} (hlen : l.length = k.length) (hr : 8 * r < l.length) (hp : ∀ j : Nat, j / 8 ≠ r → l[j]? = k[j]?) (h : fourOf l = fourOf k) : l = k := by
  have hm : r < (l.length + 8) / 8 := by omega
  have h1 : mixed (padded l) ((l.length + 8) / 8) = mixed (padded k) ((l.length + 8) / 8) := by
    unfold fourOf at h
    have h2 := often_inj 8 h
    simp only [W4.mk.injEq, hlen] at h2
    rw [← hlen] at h2
    exact W4.ext_ h2.1 (xor_inj' h2.2.1) h2.2.2.1 h2.2.2.2
  have hpad : ∀ j : Nat, j / 8 ≠ r → (padded l)[j]? = (padded k)[j]? := by
    intro j hj
    unfold padded
    rw [List.append_assoc, List.append_assoc]
    by_cases hjl : j < l.length
    · rw [List.getElem?_append_left hjl, List.getElem?_append_left (by omega)]
      exact hp j hj
    · rw [List.getElem?_append_right (show l.length ≤ j by omega), List.getElem?_append_right (show k.length ≤ j by omega), hlen]
  have hpc : ∀ i, i < (l.length + 8) / 8 → i ≠ r → pc (padded l) i = pc (padded k) i := by
    intro i _ hi
    apply List.ext_getElem?
    intro j
    unfold pc
    by_cases hj : j < 8
    · rw [List.getElem?_take_of_lt hj, List.getElem?_take_of_lt hj, List.getElem?_drop, List.getElem?_drop]
      exact hpad _ (by omega)
    · rw [List.getElem?_eq_none (by simp; omega), List.getElem?_eq_none (by simp; omega)]
  have h3 := mixed_piece hm (padded_len l) (by rw [hlen]; exact padded_len k) hpc h1
  have h4 : padded l = padded k := by
    apply List.ext_getElem?
    intro j
    by_cases hj : j / 8 = r
    · have h5 : (pc (padded l) r)[j - 8 * r]? = (pc (padded k) r)[j - 8 * r]? := by rw [h3]
      unfold pc at h5
      rw [List.getElem?_take_of_lt (by omega), List.getElem?_take_of_lt (by omega), List.getElem?_drop, List.getElem?_drop, show 8 * r + (j - 8 * r) = j by omega] at h5
      exact h5
    · exact hpad j hj
  have h6 : (padded l).take l.length = (padded k).take l.length := by rw [h4]
  unfold padded at h6
  rw [List.append_assoc, List.append_assoc, List.take_append_of_le_length (by omega), List.take_append_of_le_length (by omega), List.take_of_length_le (by omega), List.take_of_length_le (by omega)] at h6
  exact h6
theorem eight_of {l : List Int} {n : Nat} (hl : l.length = n) (h : ∀ m ∈ l, 0 ≤ m ∧ m ≤ 255) : ∃ bs : List UInt8, bs.length = n ∧ Value.agg (l.map (Value.int .u8)).toArray = .agg (bvs bs).toArray := by
  refine ⟨l.map (fun m => UInt8.ofNat m.toNat), by simpa using hl, ?_⟩
  congr 2
  unfold bvs
  rw [List.map_map]
  apply List.map_congr_left
  intro m hm
  have := h m hm
  simp only [Function.comp, bv, UInt8.toNat_ofNat']
  congr 1
  omega
end Go.Proofs.Ytfjjkkakhfgdhaa
