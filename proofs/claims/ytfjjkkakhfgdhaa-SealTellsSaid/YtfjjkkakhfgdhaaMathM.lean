/-
  The four words of mix, in plain mathematics: a half turn, a turn, and the way back. No program stands here.
-/
import Derived.Laws.BitsAllLaws
namespace Go.Proofs.Ytfjjkkakhfgdhaa

abbrev Wd := BitVec 32
/-- A word as an integer; a word turned: names that nothing unfolds by itself. -/
def wi (x : Wd) : Int := (x.toNat : Int)
def rl (k : Nat) (x : Wd) : Wd := x.rotateLeft k
theorem wi_lt (x : Wd) : 0 ≤ wi x ∧ wi x < 4294967296 := by
  have := x.isLt
  unfold wi
  omega

theorem or_rot15 (x : Wd) : bits .or .u32 (wi x * 32768 % 4294967296) (wi x / 131072) = wi (rl 15 x) := by
  unfold wi rl
  have hx := x.isLt
  have e1 : ((x.toNat : Int) * 32768 % 4294967296) = ((x.toNat * 32768 % 4294967296 : Nat) : Int) := by omega
  have e2 : ((x.toNat : Int) / 131072) = ((x.toNat / 131072 : Nat) : Int) := by omega
  rw [e1, e2, u32_or_nat _ _ (by omega) (by omega), BitVec.toNat_rotateLeft, Nat.shiftLeft_eq, Nat.shiftRight_eq_div_pow]
theorem or_rot11 (x : Wd) : bits .or .u32 (wi x * 2048 % 4294967296) (wi x / 2097152) = wi (rl 11 x) := by
  unfold wi rl
  have hx := x.isLt
  have e1 : ((x.toNat : Int) * 2048 % 4294967296) = ((x.toNat * 2048 % 4294967296 : Nat) : Int) := by omega
  have e2 : ((x.toNat : Int) / 2097152) = ((x.toNat / 2097152 : Nat) : Int) := by omega
  rw [e1, e2, u32_or_nat _ _ (by omega) (by omega), BitVec.toNat_rotateLeft, Nat.shiftLeft_eq, Nat.shiftRight_eq_div_pow]
theorem or_rot9 (x : Wd) : bits .or .u32 (wi x * 512 % 4294967296) (wi x / 8388608) = wi (rl 9 x) := by
  unfold wi rl
  have hx := x.isLt
  have e1 : ((x.toNat : Int) * 512 % 4294967296) = ((x.toNat * 512 % 4294967296 : Nat) : Int) := by omega
  have e2 : ((x.toNat : Int) / 8388608) = ((x.toNat / 8388608 : Nat) : Int) := by omega
  rw [e1, e2, u32_or_nat _ _ (by omega) (by omega), BitVec.toNat_rotateLeft, Nat.shiftLeft_eq, Nat.shiftRight_eq_div_pow]
theorem or_rot6 (x : Wd) : bits .or .u32 (wi x * 64 % 4294967296) (wi x / 67108864) = wi (rl 6 x) := by
  unfold wi rl
  have hx := x.isLt
  have e1 : ((x.toNat : Int) * 64 % 4294967296) = ((x.toNat * 64 % 4294967296 : Nat) : Int) := by omega
  have e2 : ((x.toNat : Int) / 67108864) = ((x.toNat / 67108864 : Nat) : Int) := by omega
  rw [e1, e2, u32_or_nat _ _ (by omega) (by omega), BitVec.toNat_rotateLeft, Nat.shiftLeft_eq, Nat.shiftRight_eq_div_pow]
theorem or_rot17 (x : Wd) : bits .or .u32 (wi x * 131072 % 4294967296) (wi x / 32768) = wi (rl 17 x) := by
  unfold wi rl
  have hx := x.isLt
  have e1 : ((x.toNat : Int) * 131072 % 4294967296) = ((x.toNat * 131072 % 4294967296 : Nat) : Int) := by omega
  have e2 : ((x.toNat : Int) / 32768) = ((x.toNat / 32768 : Nat) : Int) := by omega
  rw [e1, e2, u32_or_nat _ _ (by omega) (by omega), BitVec.toNat_rotateLeft, Nat.shiftLeft_eq, Nat.shiftRight_eq_div_pow]
theorem or_rot21 (x : Wd) : bits .or .u32 (wi x * 2097152 % 4294967296) (wi x / 2048) = wi (rl 21 x) := by
  unfold wi rl
  have hx := x.isLt
  have e1 : ((x.toNat : Int) * 2097152 % 4294967296) = ((x.toNat * 2097152 % 4294967296 : Nat) : Int) := by omega
  have e2 : ((x.toNat : Int) / 2048) = ((x.toNat / 2048 : Nat) : Int) := by omega
  rw [e1, e2, u32_or_nat _ _ (by omega) (by omega), BitVec.toNat_rotateLeft, Nat.shiftLeft_eq, Nat.shiftRight_eq_div_pow]
theorem or_rot23 (x : Wd) : bits .or .u32 (wi x * 8388608 % 4294967296) (wi x / 512) = wi (rl 23 x) := by
  unfold wi rl
  have hx := x.isLt
  have e1 : ((x.toNat : Int) * 8388608 % 4294967296) = ((x.toNat * 8388608 % 4294967296 : Nat) : Int) := by omega
  have e2 : ((x.toNat : Int) / 512) = ((x.toNat / 512 : Nat) : Int) := by omega
  rw [e1, e2, u32_or_nat _ _ (by omega) (by omega), BitVec.toNat_rotateLeft, Nat.shiftLeft_eq, Nat.shiftRight_eq_div_pow]
theorem or_rot26 (x : Wd) : bits .or .u32 (wi x * 67108864 % 4294967296) (wi x / 64) = wi (rl 26 x) := by
  unfold wi rl
  have hx := x.isLt
  have e1 : ((x.toNat : Int) * 67108864 % 4294967296) = ((x.toNat * 67108864 % 4294967296 : Nat) : Int) := by omega
  have e2 : ((x.toNat : Int) / 64) = ((x.toNat / 64 : Nat) : Int) := by omega
  rw [e1, e2, u32_or_nat _ _ (by omega) (by omega), BitVec.toNat_rotateLeft, Nat.shiftLeft_eq, Nat.shiftRight_eq_div_pow]
theorem rot_rot (x : Wd) (r k : Nat) (h : (r + k) % 32 = 0) : (x.rotateLeft r).rotateLeft k = x := by
  apply BitVec.eq_of_getMsbD_eq
  intro i hi
  rw [BitVec.getMsbD_rotateLeft, BitVec.getMsbD_rotateLeft]
  have e : (r + (k + i) % 32) % 32 = i := by omega
  have h1 : (k + i) % 32 < 32 := Nat.mod_lt _ (by omega)
  rw [e]
  simp [hi, h1]

/-- Four words. -/
structure W4 where
  a : Wd
  b : Wd
  c : Wd
  d : Wd
theorem W4.ext_ {x y : W4} (h1 : x.a = y.a) (h2 : x.b = y.b) (h3 : x.c = y.c) (h4 : x.d = y.d) : x = y := by
  cases x; cases y; simp_all
theorem rl_rl (x : Wd) (r k : Nat) (h : (r + k) % 32 = 0) : rl k (rl r x) = x := rot_rot x r k h
/-- Half of a turn. -/
def half (far near : Nat) (x : W4) : W4 :=
  ⟨x.a + x.b, rl near (x.b ^^^ (x.c + rl far (x.d ^^^ (x.a + x.b)))), x.c + rl far (x.d ^^^ (x.a + x.b)), rl far (x.d ^^^ (x.a + x.b))⟩
/-- Half of the way back, by the rotations that undo. -/
def flah (far near : Nat) (x : W4) : W4 :=
  ⟨x.a - (rl near x.b ^^^ x.c), rl near x.b ^^^ x.c, x.c - x.d, rl far x.d ^^^ x.a⟩
theorem flah_half (f n f' n' : Nat) (hf : (f + f') % 32 = 0) (hn : (n + n') % 32 = 0) (x : W4) : flah f' n' (half f n x) = x := by
  apply W4.ext_ <;> simp only [flah, half, rl_rl _ _ _ hf, rl_rl _ _ _ hn, BitVec.xor_assoc, BitVec.xor_self, BitVec.xor_zero, BitVec.add_sub_cancel]
theorem half_flah (f n f' n' : Nat) (hf : (f' + f) % 32 = 0) (hn : (n' + n) % 32 = 0) (x : W4) : half f n (flah f' n' x) = x := by
  apply W4.ext_ <;> simp only [flah, half, BitVec.sub_add_cancel, BitVec.xor_assoc, BitVec.xor_self, BitVec.xor_zero, rl_rl _ _ _ hf, rl_rl _ _ _ hn]
def turn (x : W4) : W4 := half 9 6 (half 15 11 x)
def unturn (x : W4) : W4 := flah 17 21 (flah 23 26 x)
theorem unturn_turn (x : W4) : unturn (turn x) = x := by
  unfold unturn turn
  rw [flah_half 9 6 23 26 (by omega) (by omega), flah_half 15 11 17 21 (by omega) (by omega)]
theorem turn_unturn (x : W4) : turn (unturn x) = x := by
  unfold unturn turn
  rw [half_flah 15 11 17 21 (by omega) (by omega), half_flah 9 6 23 26 (by omega) (by omega)]
/-- So many turns. -/
def often : Nat → W4 → W4
  | 0, x => x
  | n + 1, x => often n (turn x)
theorem often_succ (n : Nat) (x : W4) : often (n + 1) x = turn (often n x) := by
  induction n generalizing x with
  | zero => rfl
  | succ n ih => rw [often, ih, often]
theorem often_inj (n : Nat) {x y : W4} (h : often n x = often n y) : x = y := by
  induction n generalizing x y with
  | zero => exact h
  | succ n ih =>
    have := ih h
    rw [← unturn_turn x, this, unturn_turn]
theorem add_w (x y : Wd) : (wi x + wi y) % 4294967296 = wi (x + y) := by
  unfold wi
  rw [BitVec.toNat_add]
  omega
theorem xor_w (x y : Wd) : bits .xor .u32 (wi x) (wi y) = wi (x ^^^ y) := by
  unfold wi
  rw [u32_xor_nat _ _ x.isLt y.isLt, BitVec.toNat_xor]
theorem sub_w (x y : Wd) : (wi x - wi y) % 4294967296 = wi (x - y) := by
  have := y.isLt
  unfold wi
  rw [BitVec.toNat_sub]
  omega
theorem wi_inj {x y : Wd} (h : wi x = wi y) : x = y := by
  unfold wi at h
  exact BitVec.eq_of_toNat_eq (by omega)
theorem wi_of {a : Int} (h : 0 ≤ a ∧ a < 4294967296) : ∃ x : Wd, a = wi x := by
  refine ⟨BitVec.ofNat 32 a.toNat, ?_⟩
  unfold wi
  rw [BitVec.toNat_ofNat]
  omega
theorem four_of {l : List Int} (hl : l.length = 4) (h : ∀ m ∈ l, 0 ≤ m ∧ m < 4294967296) : ∃ x : W4, Value.agg (l.map (Value.int .u32)).toArray = .agg #[.int .u32 (wi x.a), .int .u32 (wi x.b), .int .u32 (wi x.c), .int .u32 (wi x.d)] := by
  match l, hl with
  | [a, b, c, d], _ =>
    obtain ⟨xa, ha⟩ := wi_of (h a (by simp))
    obtain ⟨xb, hb⟩ := wi_of (h b (by simp))
    obtain ⟨xc, hc⟩ := wi_of (h c (by simp))
    obtain ⟨xd, hd⟩ := wi_of (h d (by simp))
    exact ⟨⟨xa, xb, xc, xd⟩, by rw [ha, hb, hc, hd]; rfl⟩
end Go.Proofs.Ytfjjkkakhfgdhaa
