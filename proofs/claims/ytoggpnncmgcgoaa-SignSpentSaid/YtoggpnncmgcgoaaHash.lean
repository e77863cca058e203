/-
  Plain: keys, chains and the tree counted by numbers alone, which the kernel does quickly; the example's text 'abd' has another root. (Written by hand and by tools/hashc.py.)
-/
import Derived.Test.YtoggpnncmgcgoaaLaw07
namespace Go.Proofs.Ytoggpnncmgcgoaa
set_option linter.unusedVariables false
set_option linter.unusedSimpArgs false
set_option maxRecDepth 100000
/-! ### the four words by numbers alone: what the kernel counts quickly -/
def r15 (x : Nat) : Nat := Nat.lor (Nat.mod (Nat.mul x 32768) 4294967296) (Nat.div x 131072)
def r11 (x : Nat) : Nat := Nat.lor (Nat.mod (Nat.mul x 2048) 4294967296) (Nat.div x 2097152)
def r9 (x : Nat) : Nat := Nat.lor (Nat.mod (Nat.mul x 512) 4294967296) (Nat.div x 8388608)
def r6 (x : Nat) : Nat := Nat.lor (Nat.mod (Nat.mul x 64) 4294967296) (Nat.div x 67108864)
theorem r15_eq (x : Wd) : r15 x.toNat = (rl 15 x).toNat := by
  unfold rl
  rw [BitVec.toNat_rotateLeft, Nat.shiftLeft_eq, Nat.shiftRight_eq_div_pow]
  rfl
theorem r11_eq (x : Wd) : r11 x.toNat = (rl 11 x).toNat := by
  unfold rl
  rw [BitVec.toNat_rotateLeft, Nat.shiftLeft_eq, Nat.shiftRight_eq_div_pow]
  rfl
theorem r9_eq (x : Wd) : r9 x.toNat = (rl 9 x).toNat := by
  unfold rl
  rw [BitVec.toNat_rotateLeft, Nat.shiftLeft_eq, Nat.shiftRight_eq_div_pow]
  rfl
theorem r6_eq (x : Wd) : r6 x.toNat = (rl 6 x).toNat := by
  unfold rl
  rw [BitVec.toNat_rotateLeft, Nat.shiftLeft_eq, Nat.shiftRight_eq_div_pow]
  rfl
theorem plus_eq (x y : Wd) : Nat.mod (Nat.add x.toNat y.toNat) 4294967296 = (x + y).toNat := by rw [BitVec.toNat_add]; rfl
theorem lux_eq (x y : Wd) : Nat.xor x.toNat y.toNat = (x ^^^ y).toNat := by rw [BitVec.toNat_xor]; rfl
/-- One turn, and on with the four words. -/
def T1 (k : Nat → Nat → Nat → Nat → Nat) (a b c d : Nat) : Nat :=
  (fun a => (fun d => (fun c => (fun b => (fun a => (fun d => (fun c => (fun b => k a b c d) (r6 (Nat.xor b c))) (Nat.mod (Nat.add c d) 4294967296)) (r9 (Nat.xor d a))) (Nat.mod (Nat.add a b) 4294967296)) (r11 (Nat.xor b c))) (Nat.mod (Nat.add c d) 4294967296)) (r15 (Nat.xor d a))) (Nat.mod (Nat.add a b) 4294967296)
def at4 (k : Nat → Nat → Nat → Nat → Nat) (x : W4) : Nat := k x.a.toNat x.b.toNat x.c.toNat x.d.toNat
theorem T1_eq (k : Nat → Nat → Nat → Nat → Nat) (x : W4) : at4 (T1 k) x = at4 k (turn x) := by
  simp only [at4, T1, plus_eq, lux_eq, r15_eq, r11_eq, r9_eq, r6_eq, turn, half]
def T4 (k : Nat → Nat → Nat → Nat → Nat) : Nat → Nat → Nat → Nat → Nat := T1 (T1 (T1 (T1 k)))
theorem T4_eq (k : Nat → Nat → Nat → Nat → Nat) (x : W4) : at4 (T4 k) x = at4 k (often 4 x) := by
  show at4 (T1 _) x = _
  rw [T1_eq, T1_eq, T1_eq, T1_eq]
  rfl
def pk (a b c d : Nat) : Nat := Nat.add a (Nat.mul 4294967296 (Nat.add b (Nat.mul 4294967296 (Nat.add c (Nat.mul 4294967296 d)))))
/-- The pieces of a text as one number, one behind the other; then the end. -/
def goN (len : Nat) (m : Nat) : Nat → Nat → Nat → Nat → Nat → Nat :=
  Nat.rec (fun _ a b c d => T4 (T4 pk) a (Nat.xor b len) c d) (fun _ ih T a b c d => T4 (ih (Nat.div T 18446744073709551616)) (Nat.xor a (Nat.mod T 4294967296)) b (Nat.xor c (Nat.mod (Nat.div T 4294967296) 4294967296)) d) m
theorem num_take (l : List UInt8) (k : Nat) : num (l.take k) = num l % 256 ^ k := by
  by_cases h : k ≤ l.length
  · have h1 := num_app (l.take k) (l.drop k)
    rw [List.take_append_drop, List.length_take, Nat.min_eq_left h] at h1
    have h2 := num_lt (l.take k)
    rw [List.length_take, Nat.min_eq_left h] at h2
    rw [h1, Nat.add_mul_mod_self_left, Nat.mod_eq_of_lt h2]
  · have h2 := num_lt l
    have h3 : 256 ^ l.length ≤ 256 ^ k := Nat.pow_le_pow_right (by omega) (by omega)
    rw [List.take_of_length_le (by omega), Nat.mod_eq_of_lt (by omega)]
theorem num_drop (l : List UInt8) (k : Nat) : num (l.drop k) = num l / 256 ^ k := by
  by_cases h : k ≤ l.length
  · have h1 := num_app (l.take k) (l.drop k)
    rw [List.take_append_drop, List.length_take, Nat.min_eq_left h] at h1
    have h2 := num_lt (l.take k)
    rw [List.length_take, Nat.min_eq_left h] at h2
    rw [h1, Nat.add_mul_div_left _ _ (Nat.pow_pos (by omega)), Nat.div_eq_of_lt h2, Nat.zero_add]
  · have h2 := num_lt l
    have h3 : 256 ^ l.length ≤ 256 ^ k := Nat.pow_le_pow_right (by omega) (by omega)
    rw [List.drop_eq_nil_of_le (by omega), Nat.div_eq_of_lt (by omega)]
    rfl
theorem word_nat (l : List UInt8) : (word l).toNat = num l % 4294967296 := by
  unfold word
  rw [BitVec.toNat_ofNat, num_take]
  omega
/-- What is left to do with a text from piece i on. -/
theorem goN_eq (L : List UInt8) (len : Nat) (hlen : len < 4294967296) : ∀ (k i : Nat), goN len k (num (L.drop (8 * i))) (mixed L i).a.toNat (mixed L i).b.toNat (mixed L i).c.toNat (mixed L i).d.toNat =
    at4 pk (often 8 ⟨(mixed L (i + k)).a, (mixed L (i + k)).b ^^^ BitVec.ofNat 32 len, (mixed L (i + k)).c, (mixed L (i + k)).d⟩)
  | 0, i => by
    show T4 (T4 pk) _ (Nat.xor _ len) _ _ = _
    have h1 : len = (BitVec.ofNat 32 len).toNat := by rw [BitVec.toNat_ofNat, Nat.mod_eq_of_lt hlen]
    have h2 : Nat.xor (mixed L i).b.toNat len = ((mixed L i).b ^^^ BitVec.ofNat 32 len).toNat := by
      rw [← lux_eq, ← h1]
    rw [h2]
    show at4 (T4 (T4 pk)) ⟨(mixed L i).a, (mixed L i).b ^^^ BitVec.ofNat 32 len, (mixed L i).c, (mixed L i).d⟩ = _
    rw [T4_eq, T4_eq]
    rfl
  | k + 1, i => by
    have ih := goN_eq L len hlen k (i + 1)
    show T4 (goN len k (num (L.drop (8 * i)) / 18446744073709551616)) (Nat.xor _ (num (L.drop (8 * i)) % 4294967296)) _ (Nat.xor _ (num (L.drop (8 * i)) / 4294967296 % 4294967296)) _ = _
    have e1 : num (L.drop (8 * i)) / 18446744073709551616 = num (L.drop (8 * (i + 1))) := by
      rw [show 8 * (i + 1) = 8 * i + 8 by omega, ← List.drop_drop, num_drop _ 8]
    have e2 : num (L.drop (8 * i)) % 4294967296 = (word ((L.drop (8 * i)).take 8)).toNat := by
      rw [word_nat, num_take]
      omega
    have e3 : num (L.drop (8 * i)) / 4294967296 % 4294967296 = (word (((L.drop (8 * i)).take 8).drop 4)).toNat := by
      rw [word_nat, num_drop _ 4, num_take]
      omega
    rw [e1, e2, e3, lux_eq, lux_eq]
    show at4 (T4 (goN len k (num (L.drop (8 * (i + 1)))))) ⟨(mixed L i).a ^^^ word ((L.drop (8 * i)).take 8), (mixed L i).b, (mixed L i).c ^^^ word (((L.drop (8 * i)).take 8).drop 4), (mixed L i).d⟩ = _
    rw [T4_eq]
    rw [show i + (k + 1) = i + 1 + k by omega]
    exact ih
theorem num_padded (l : List UInt8) : num (padded l) = num l + 256 ^ l.length := by
  have hz : ∀ n, num (List.replicate n 0) = 0 := by
    intro n
    induction n with
    | zero => rfl
    | succ n ih => rw [List.replicate_succ, num, ih]; rfl
  rw [padded, num_app, num_app, hz, Nat.mul_zero, Nat.add_zero]
  rw [show num [1] = 1 from rfl, Nat.mul_one]
theorem num_keyOf (x : W4) : num (keyOf x) = at4 pk x := by
  have ha := x.a.isLt
  have hb := x.b.isLt
  have hc := x.c.isLt
  have hd := x.d.isLt
  unfold keyOf
  rw [List.append_assoc, List.append_assoc, num_app, num_app, num_app]
  simp only [le_len, num_le, wi, Int.toNat_natCast]
  show _ = x.a.toNat + 4294967296 * (x.b.toNat + 4294967296 * (x.c.toNat + 4294967296 * x.d.toNat))
  omega
/-- THE KEY of a text, by numbers. -/
theorem num_key (l : List UInt8) (hl : l.length < 4294967296) : num (keyOf (fourOf l)) = goN l.length ((l.length + 8) / 8) (num l + 256 ^ l.length) 1 2 3 4 := by
  rw [num_keyOf, ← num_padded]
  have h := goN_eq (padded l) l.length hl ((l.length + 8) / 8) 0
  rw [Nat.mul_zero, List.drop_zero, Nat.zero_add] at h
  exact h.symm
/-! ### chains by numbers -/
def N128 : Nat := 340282366920938463463374607431768211456
def stepNum (leaf place v n : Nat) : Nat := goN 19 3 (Nat.add v (Nat.mul 340282366920938463463374607431768211456 (Nat.add leaf (Nat.mul 256 (Nat.add place (Nat.mul 256 (Nat.add n 256))))))) 1 2 3 4
def firstNum (leaf place v : Nat) : Nat := goN 18 3 (Nat.add v (Nat.mul 340282366920938463463374607431768211456 (Nat.add leaf (Nat.mul 256 (Nat.add place 256))))) 1 2 3 4
def onNum (leaf place v f k : Nat) : Nat := Nat.rec v (fun k ih => stepNum leaf place ih (Nat.add f k)) k
theorem byte_nat {n : Nat} (h : n < 256) : (UInt8.ofNat n).toNat = n := by
  rw [UInt8.toNat_ofNat']
  exact Nat.mod_eq_of_lt h
theorem num_stepB {leaf place n : Nat} {v : List UInt8} (hv : v.length = 16) (hl : leaf < 256) (hp : place < 256) (hn : n < 256) : num (stepB leaf place v n) = stepNum leaf place (num v) n := by
  show num (keyOf (fourOf _)) = _
  have hlen : (v ++ [UInt8.ofNat leaf, UInt8.ofNat place, UInt8.ofNat n]).length = 19 := by rw [List.length_append, hv]; rfl
  rw [num_key _ (by omega), hlen, num_app, hv]
  simp only [num, byte_nat hl, byte_nat hp, byte_nat hn]
  unfold stepNum
  refine congrArg (fun T => goN 19 3 T 1 2 3 4) ?_
  show num v + 256 ^ 16 * _ + 256 ^ 19 = num v + 340282366920938463463374607431768211456 * (leaf + 256 * (place + 256 * (n + 256)))
  omega
theorem num_firstL {leaf place : Nat} {v : List UInt8} (hv : v.length = 16) (hl : leaf < 256) (hp : place < 256) : num (firstL v leaf place) = firstNum leaf place (num v) := by
  show num (keyOf (fourOf _)) = _
  have hlen : (v ++ [UInt8.ofNat leaf, UInt8.ofNat place]).length = 18 := by rw [List.length_append, hv]; rfl
  rw [num_key _ (by omega), hlen, num_app, hv]
  simp only [num, byte_nat hl, byte_nat hp]
  unfold firstNum
  refine congrArg (fun T => goN 18 3 T 1 2 3 4) ?_
  show num v + 256 ^ 16 * _ + 256 ^ 18 = num v + 340282366920938463463374607431768211456 * (leaf + 256 * (place + 256))
  omega
theorem num_onN {leaf place f : Nat} {v : List UInt8} (hv : v.length = 16) (hl : leaf < 256) (hp : place < 256) : ∀ k, f + k ≤ 256 → num (onN leaf place v f k) = onNum leaf place (num v) f k
  | 0, _ => rfl
  | k + 1, h => by
    show num (stepB leaf place (onN leaf place v f k) (f + k)) = stepNum leaf place (onNum leaf place (num v) f k) (f + k)
    rw [num_stepB (onN_len hv k) hl hp (by omega), num_onN hv hl hp k (by omega)]
/-- A signature's values as one number. -/
def sigNum (seed leaf : Nat) (ds : List Nat) (m : Nat) : Nat := Nat.rec 0 (fun k ih => Nat.add ih (Nat.mul (Nat.pow 340282366920938463463374607431768211456 k) (onNum leaf k (firstNum leaf k seed) 0 (ds.getD k 0)))) m
theorem pow16 (k : Nat) : 256 ^ (16 * k) = 340282366920938463463374607431768211456 ^ k := by rw [Nat.pow_mul]
theorem num_sigN {seed : List UInt8} {leaf : Nat} {ds : List Nat} (hs : seed.length = 16) (hl : leaf < 256) (hd : ∀ k, k < 10 → ds.getD k 0 ≤ 15) : ∀ m, m ≤ 10 → num (sigN seed leaf ds m) = sigNum (num seed) leaf ds m
  | 0, _ => rfl
  | m + 1, h => by
    show num (sigN seed leaf ds m ++ _) = sigNum (num seed) leaf ds m + 340282366920938463463374607431768211456 ^ m * onNum leaf m (firstNum leaf m (num seed)) 0 (ds.getD m 0)
    rw [num_app, sigN_len, num_sigN hs hl hd m (by omega), num_onN (firstL_len _ _ _) hl (by omega) _ (by have := hd m (by omega); omega), num_firstL hs hl (by omega), pow16]
def lastNum (leaf v : Nat) : Nat := goN 161 21 (Nat.add v (Nat.mul (Nat.pow 340282366920938463463374607431768211456 10) (Nat.add leaf 256))) 1 2 3 4
theorem num_lastL {leaf : Nat} {l : List UInt8} (hl : l.length = 160) (h : leaf < 256) : num (lastL leaf l) = lastNum leaf (num l) := by
  show num (keyOf (fourOf _)) = _
  have hlen : (l ++ [UInt8.ofNat leaf]).length = 161 := by rw [List.length_append, hl]; rfl
  rw [num_key _ (by omega), hlen, num_app, hl]
  simp only [num, byte_nat h]
  unfold lastNum
  refine congrArg (fun T => goN 161 21 T 1 2 3 4) ?_
  show num l + 256 ^ 160 * _ + 256 ^ 161 = num l + 340282366920938463463374607431768211456 ^ 10 * (leaf + 256)
  rw [← pow16 10, Nat.pow_succ 256 160]
  rw [Nat.mul_zero, Nat.add_zero, Nat.mul_add]
  omega
theorem num_pubL {seed : List UInt8} {leaf : Nat} (hs : seed.length = 16) (h : leaf < 256) : num (pubL seed leaf) = lastNum leaf (sigNum (num seed) leaf full 10) := by
  rw [pubL, num_lastL (sigN_len _ _ _ _) h, num_sigN hs h (fun k hk => by rw [full, List.getD_eq_getElem?_getD, List.getElem?_replicate]; split <;> decide) 10 (Nat.le_refl _)]
/-- A text's sum by numbers. -/
theorem sum_num (l : List UInt8) (hl : l.length < 4294967296) : sumN l = goN l.length ((l.length + 8) / 8) (num l + 256 ^ l.length) 1 2 3 4 % 4294967296 := by
  rw [← num_key l hl, num_keyOf]
  show _ = ((fourOf l).a.toNat + 4294967296 * _) % 4294967296
  rw [Nat.add_mul_mod_self_left, Nat.mod_eq_of_lt (fourOf l).a.isLt]
  rfl
theorem sum_abc : digL (sumN [97, 98, 99]) = [4, 15, 11, 7, 13, 13, 1, 11, 13, 2] := by
  rw [sum_num _ (by decide)]
  decide +kernel
theorem sum_abd : digL (sumN [97, 98, 100]) = [7, 14, 0, 1, 8, 12, 4, 14, 12, 3] := by
  rw [sum_num _ (by decide)]
  decide +kernel
/-- What is recovered of another text's signature, as one number. -/
def recNum (seed leaf : Nat) (es ds : List Nat) (m : Nat) : Nat := Nat.rec 0 (fun k ih => Nat.add ih (Nat.mul (Nat.pow 340282366920938463463374607431768211456 k) (onNum leaf k (onNum leaf k (firstNum leaf k seed) 0 (es.getD k 0)) (ds.getD k 0) (Nat.sub 15 (ds.getD k 0))))) m
theorem num_recN {seed : List UInt8} {leaf : Nat} {es ds : List Nat} (hs : seed.length = 16) (hl : leaf < 256) (hd : ∀ k, k < 10 → ds.getD k 0 ≤ 15) (he : ∀ k, k < 10 → es.getD k 0 ≤ 15) : ∀ m, m ≤ 10 → num (recN leaf (sigN seed leaf es 10) ds m) = recNum (num seed) leaf es ds m
  | 0, _ => rfl
  | m + 1, h => by
    show num (recN leaf (sigN seed leaf es 10) ds m ++ _) = recNum (num seed) leaf es ds m + 340282366920938463463374607431768211456 ^ m * onNum leaf m (onNum leaf m (firstNum leaf m (num seed)) 0 (es.getD m 0)) (ds.getD m 0) (15 - ds.getD m 0)
    have h1 := hd m (by omega)
    have h2 := he m (by omega)
    rw [num_app, recN_len (sigN_len _ _ _ _) m (by omega), num_recN hs hl hd he m (by omega), num_onN (part_len (sigN_len _ _ _ _) (by omega)) hl (by omega) _ (by omega), sigN_part seed leaf es 10 m (by omega),
      num_onN (firstL_len _ _ _) hl (by omega) _ (by omega), num_firstL hs hl (by omega), pow16]
theorem digits_le {ds : List Nat} (h : (List.range 10).all (fun k => decide (ds.getD k 0 ≤ 15)) = true) : ∀ k, k < 10 → ds.getD k 0 ≤ 15 := fun k hk => by
  have := List.all_eq_true.1 h k (List.mem_range.2 hk)
  simpa using this
/-- What is recovered of the text 'abd' by the signature of 'abc'. -/
theorem num_rec_abd : num (recL 0 [97, 98, 100] (sigL seed16 0 [97, 98, 99])) = lastNum 0 (recNum (num seed16) 0 [4, 15, 11, 7, 13, 13, 1, 11, 13, 2] [7, 14, 0, 1, 8, 12, 4, 14, 12, 3] 10) := by
  rw [recL, sigL, sum_abc, sum_abd, num_lastL (recN_len (sigN_len _ _ _ _) 10 (Nat.le_refl _)) (by omega), num_recN rfl (by omega) (digits_le (by decide)) (digits_le (by decide)) 10 (Nat.le_refl _)]
/-! ### the tree by numbers -/
/-- The node above two. -/
def aboveL (h : Nat) (l r : List UInt8) : List UInt8 := keyB (UInt8.ofNat (128 + h) :: (l ++ r))
theorem aboveL_len (h : Nat) (l r : List UInt8) : (aboveL h l r).length = 16 := keyB_len _
def aboveNum (h l r : Nat) : Nat := goN 33 5 (Nat.add (Nat.add 128 h) (Nat.mul 256 (Nat.add l (Nat.mul 340282366920938463463374607431768211456 (Nat.add r 340282366920938463463374607431768211456))))) 1 2 3 4
theorem num_aboveL {h : Nat} {l r : List UInt8} (hl : l.length = 16) (hr : r.length = 16) (hh : h < 128) : num (aboveL h l r) = aboveNum h (num l) (num r) := by
  show num (keyOf (fourOf _)) = _
  have hlen : (UInt8.ofNat (128 + h) :: (l ++ r)).length = 33 := by rw [List.length_cons, List.length_append, hl, hr]
  rw [num_key _ (by omega), hlen, num, num_app, hl, byte_nat (by omega)]
  unfold aboveNum
  refine congrArg (fun T => goN 33 5 T 1 2 3 4) ?_
  show 128 + h + 256 * (num l + 256 ^ 16 * num r) + 256 ^ 33 = 128 + h + 256 * (num l + 340282366920938463463374607431768211456 * (num r + 340282366920938463463374607431768211456))
  omega
/-- A seed's nodes, by height and place. -/
def nodeL (seed : List UInt8) : Nat → Nat → List UInt8
  | 0, p => pubL seed p
  | h + 1, p => aboveL h (nodeL seed h (2 * p)) (nodeL seed h (2 * p + 1))
theorem nodeL_len (seed : List UInt8) (h p : Nat) : (nodeL seed h p).length = 16 := by
  cases h with
  | zero => exact pubL_len _ _
  | succ h => exact aboveL_len _ _ _
/-- A node, and those beside it, up to the root: at the place, from a height on. -/
def foldL : Nat → Nat → List UInt8 → List (List UInt8) → List UInt8
  | _, _, node, [] => node
  | at_, h, node, b :: l => foldL (at_ / 2) (h + 1) (if at_ % 2 = 1 then aboveL h b node else aboveL h node b) l
/-! ### the example's tree, counted -/
theorem num_p0 : num (pubL seed16 0) = 149017575777172516713466997922144091564 := by
  rw [num_pubL rfl (by decide)]
  decide +kernel
theorem num_p1 : num (pubL seed16 1) = 133685080125375638646497975507860559348 := by
  rw [num_pubL rfl (by decide)]
  decide +kernel
theorem num_p2 : num (pubL seed16 2) = 92836817520747565928051606284845087305 := by
  rw [num_pubL rfl (by decide)]
  decide +kernel
theorem num_p3 : num (pubL seed16 3) = 173892422960645996582216592600393031516 := by
  rw [num_pubL rfl (by decide)]
  decide +kernel
theorem num_p4 : num (pubL seed16 4) = 169682882503693980783299743187053853114 := by
  rw [num_pubL rfl (by decide)]
  decide +kernel
theorem num_p5 : num (pubL seed16 5) = 145096150219729483841275164497566675699 := by
  rw [num_pubL rfl (by decide)]
  decide +kernel
theorem num_p6 : num (pubL seed16 6) = 42735990713247182408255859296786666808 := by
  rw [num_pubL rfl (by decide)]
  decide +kernel
theorem num_p7 : num (pubL seed16 7) = 91503232009733321946460851394585265361 := by
  rw [num_pubL rfl (by decide)]
  decide +kernel
theorem num_n10 : num (nodeL seed16 1 0) = 74398406962418095478408828989313758272 := by
  show num (aboveL 0 (nodeL seed16 0 0) (nodeL seed16 0 1)) = _
  rw [num_aboveL (nodeL_len _ _ _) (nodeL_len _ _ _) (by decide)]
  show aboveNum 0 (num (pubL seed16 0)) (num (pubL seed16 1)) = _
  rw [num_p0, num_p1]
  decide +kernel
theorem num_n11 : num (nodeL seed16 1 1) = 165633550185873357757923063184863937216 := by
  show num (aboveL 0 (nodeL seed16 0 2) (nodeL seed16 0 3)) = _
  rw [num_aboveL (nodeL_len _ _ _) (nodeL_len _ _ _) (by decide)]
  show aboveNum 0 (num (pubL seed16 2)) (num (pubL seed16 3)) = _
  rw [num_p2, num_p3]
  decide +kernel
theorem num_n12 : num (nodeL seed16 1 2) = 32136938344410261548053311128685342203 := by
  show num (aboveL 0 (nodeL seed16 0 4) (nodeL seed16 0 5)) = _
  rw [num_aboveL (nodeL_len _ _ _) (nodeL_len _ _ _) (by decide)]
  show aboveNum 0 (num (pubL seed16 4)) (num (pubL seed16 5)) = _
  rw [num_p4, num_p5]
  decide +kernel
theorem num_n13 : num (nodeL seed16 1 3) = 203864144267145311809897177865946872479 := by
  show num (aboveL 0 (nodeL seed16 0 6) (nodeL seed16 0 7)) = _
  rw [num_aboveL (nodeL_len _ _ _) (nodeL_len _ _ _) (by decide)]
  show aboveNum 0 (num (pubL seed16 6)) (num (pubL seed16 7)) = _
  rw [num_p6, num_p7]
  decide +kernel
theorem num_n20 : num (nodeL seed16 2 0) = 226288807809112535847903143325040096416 := by
  show num (aboveL 1 (nodeL seed16 1 0) (nodeL seed16 1 1)) = _
  rw [num_aboveL (nodeL_len _ _ _) (nodeL_len _ _ _) (by decide)]
  show aboveNum 1 (num (nodeL seed16 1 0)) (num (nodeL seed16 1 1)) = _
  rw [num_n10, num_n11]
  decide +kernel
theorem num_n21 : num (nodeL seed16 2 1) = 162591354546285430296514927900385771832 := by
  show num (aboveL 1 (nodeL seed16 1 2) (nodeL seed16 1 3)) = _
  rw [num_aboveL (nodeL_len _ _ _) (nodeL_len _ _ _) (by decide)]
  show aboveNum 1 (num (nodeL seed16 1 2)) (num (nodeL seed16 1 3)) = _
  rw [num_n12, num_n13]
  decide +kernel
theorem num_n30 : num (nodeL seed16 3 0) = 335300776812778603758499461952381160089 := by
  show num (aboveL 2 (nodeL seed16 2 0) (nodeL seed16 2 1)) = _
  rw [num_aboveL (nodeL_len _ _ _) (nodeL_len _ _ _) (by decide)]
  show aboveNum 2 (num (nodeL seed16 2 0)) (num (nodeL seed16 2 1)) = _
  rw [num_n20, num_n21]
  decide +kernel
theorem num_rec : num (recL 0 [97, 98, 100] (sigL seed16 0 [97, 98, 99])) = 206712695102479866827778957751676836576 := by
  rw [num_rec_abd]
  decide +kernel
/-- The text 'abd' has another root by the signature of 'abc'. -/
theorem abd_else : foldL 0 0 (recL 0 [97, 98, 100] (sigL seed16 0 [97, 98, 99])) [nodeL seed16 0 1, nodeL seed16 1 1, nodeL seed16 2 1] ≠ nodeL seed16 3 0 := by
  intro h
  have h1 := congrArg num h
  rw [num_n30] at h1
  simp only [foldL, Nat.zero_mod, Nat.zero_div, if_neg (show ¬ (0 = 1) by decide)] at h1
  rw [num_aboveL (aboveL_len _ _ _) (nodeL_len _ _ _) (by decide), num_aboveL (aboveL_len _ _ _) (nodeL_len _ _ _) (by decide), num_aboveL (recL_len _ _ _) (nodeL_len _ _ _) (by decide), num_rec, show num (nodeL seed16 0 1) = _ from num_p1, num_n11, num_n21] at h1
  revert h1
  decide +kernel
end Go.Proofs.Ytoggpnncmgcgoaa
