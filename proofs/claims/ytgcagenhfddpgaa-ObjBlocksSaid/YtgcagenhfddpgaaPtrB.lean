/-
  Contracts of package ptr: Write.
-/
import Derived.Test.YtgcagenhfddpgaaPtrA
namespace Go.Proofs.Ytgcagenhfddpgaa
open Go.RowKit
set_option linter.unusedVariables false
set_option maxRecDepth 100000

/-- The bytes of a pointer that may be. -/
def pb (a b i t s : Int) : List UInt8 := le 1 a.toNat ++ (le 3 b.toNat ++ (le 4 i.toNat ++ (le 4 t.toNat ++ le 4 s.toNat)))
theorem pb_len (a b i t s : Int) : (pb a b i t s).length = 16 := by simp [pb, le_len]
/-- What stands when k numbers are laid. -/
def pbUpto (a b i t s : Int) : Nat → List UInt8
  | 0 => []
  | 1 => le 1 a.toNat
  | 2 => le 1 a.toNat ++ le 3 b.toNat
  | 3 => le 1 a.toNat ++ le 3 b.toNat ++ le 4 i.toNat
  | 4 => le 1 a.toNat ++ le 3 b.toNat ++ le 4 i.toNat ++ le 4 t.toNat
  | _ => le 1 a.toNat ++ le 3 b.toNat ++ le 4 i.toNat ++ le 4 t.toNat ++ le 4 s.toNat
theorem pbUpto_all (a b i t s : Int) : pbUpto a b i t s 5 = pb a b i t s := by simp [pbUpto, pb]
theorem ptMay_range {a b i t s : Int} (h : PtMay a b i t s) : 0 ≤ a ∧ a ≤ 255 ∧ 0 ≤ b ∧ b ≤ 16777215 := by unfold PtMay at h; omega

def WrRel (a b i t s : Int) (w2 : World) (v x : Value) (wr : World) : Prop :=
  ∃ (k n c : Nat) (A : Option Addr), k ≤ 5 ∧ x = .int .i64 (k : Int) ∧ v = .slice A n c ∧ n = (pbUpto a b i t s k).length ∧ Fr wr w2.heap.size 5 1 A n c (bvs (pbUpto a b i t s k)) ∧ Below w2.heap.size w2 wr

theorem ptr_write_bad (a b i t s : Int) (w : World) (h : ¬ PtMay a b i t s) : Calls Try.prog 22 #[.agg #[.int .i64 a, .int .u32 b, .int .u32 i, .int .u32 t, .int .u32 s]] w fun e w' => e = .returned (.tuple #[.slice none 0 0, .int .i64 8]) ∧ Below w.heap.size w w' := by
  have hc : chk a b i t s = 8 := if_neg h
  have HC := Lib.hid hc
  clear h hc
  go_enter Try.func22, Try.ntmps22
  go_wp2_with fail
  refine (ptr_check a b i t s _).mono ?_
  rintro e w1 ⟨rfl, b1⟩
  rw [HC.out]
  have b01 : Below w.heap.size w w1 := ((Below.refl _ w).alloc (Nat.le_refl _) _).trans (b1.mono (by simp))
  go_wp2
  go_ret2
  exact ⟨rfl, b01⟩

theorem ptr_write_ok (a b i t s : Int) (w : World) (h : PtMay a b i t s) (hi : 0 ≤ i ∧ i ≤ 4294967295) (ht : 0 ≤ t ∧ t ≤ 4294967295) (hs : 0 ≤ s ∧ s ≤ 4294967295) :
    Calls Try.prog 22 #[.agg #[.int .i64 a, .int .u32 b, .int .u32 i, .int .u32 t, .int .u32 s]] w fun e w' => ∃ A c, e = .returned (.tuple #[.slice A 16 c, .int .i64 0]) ∧ Fr w' w.heap.size 5 1 A 16 c (bvs (pb a b i t s)) ∧ Below w.heap.size w w' := by
  have hc : chk a b i t s = 0 := if_pos h
  have HC := Lib.hid hc
  have hr := ptMay_range h
  clear h hc
  have ix0 : ∀ W, (Instr.index 77 (.agg #[.int .i64 1, .int .i64 3, .int .i64 4, .int .i64 4, .int .i64 4]) (.int .i64 0)).run Try.prog W = .ok (.int .i64 1) W := fun _ => by kernel_rfl
  have ix1 : ∀ W, (Instr.index 77 (.agg #[.int .i64 1, .int .i64 3, .int .i64 4, .int .i64 4, .int .i64 4]) (.int .i64 1)).run Try.prog W = .ok (.int .i64 3) W := fun _ => by kernel_rfl
  have ix2 : ∀ W, (Instr.index 77 (.agg #[.int .i64 1, .int .i64 3, .int .i64 4, .int .i64 4, .int .i64 4]) (.int .i64 2)).run Try.prog W = .ok (.int .i64 4) W := fun _ => by kernel_rfl
  have ix3 : ∀ W, (Instr.index 77 (.agg #[.int .i64 1, .int .i64 3, .int .i64 4, .int .i64 4, .int .i64 4]) (.int .i64 3)).run Try.prog W = .ok (.int .i64 4) W := fun _ => by kernel_rfl
  have ix4 : ∀ W, (Instr.index 77 (.agg #[.int .i64 1, .int .i64 3, .int .i64 4, .int .i64 4, .int .i64 4]) (.int .i64 4)).run Try.prog W = .ok (.int .i64 4) W := fun _ => by kernel_rfl
  obtain ⟨ha0, ha1, hb0, hb1⟩ := hr
  obtain ⟨hi0, hi1⟩ := hi
  obtain ⟨ht0, ht1⟩ := ht
  obtain ⟨hs0, hs1⟩ := hs
  go_enter Try.func22, Try.ntmps22
  go_wp2_with fail
  refine (ptr_check a b i t s _).mono ?_
  rintro e w1 ⟨rfl, b1⟩
  rw [HC.out]
  have b01 : Below w.heap.size w w1 := ((Below.refl _ w).alloc (Nat.le_refl _) _).trans (b1.mono (by simp))
  have hz : w.heap.size + 1 ≤ w1.heap.size := by have := b1.size; simpa using this
  have hbox : w1.heap[w.heap.size]? = some (.cells #[.int .i64 a, .int .u32 b, .int .u32 i, .int .u32 t, .int .u32 s] 31 (0, 0)) := (b1.block _ (by simp)).trans (heap_alloc_new w _)
  have c0 : w1.cell? ⟨w.heap.size, 0, none⟩ = some (.int .i64 a) := by simp [World.cell?, hbox]
  have c1 : w1.cell? ⟨w.heap.size, 1, none⟩ = some (.int .u32 b) := by simp [World.cell?, hbox]
  have c2 : w1.cell? ⟨w.heap.size, 2, none⟩ = some (.int .u32 i) := by simp [World.cell?, hbox]
  have c3 : w1.cell? ⟨w.heap.size, 3, none⟩ = some (.int .u32 t) := by simp [World.cell?, hbox]
  have c4 : w1.cell? ⟨w.heap.size, 4, none⟩ = some (.int .u32 s) := by simp [World.cell?, hbox]
  clear hbox b1
  go_wp2_with fail
  refine (ptr_sizes _).mono ?_
  rintro e w2 ⟨rfl, b2⟩
  have hnb : w1.heap.size < w2.heap.size := by have := b2.size; simp at this; omega
  have hbox2 : w2.heap[w1.heap.size]? = some (.cells #[.int .i64 a, .int .i64 b, .int .i64 i, .int .i64 t, .int .i64 s] 77 (0, 0)) := (b2.block _ (by simp)).trans (heap_alloc_new w1 _)
  have d0 : w2.cell? ⟨w1.heap.size, 0, none⟩ = some (.int .i64 a) := by simp [World.cell?, hbox2]
  have d1 : w2.cell? ⟨w1.heap.size, 1, none⟩ = some (.int .i64 b) := by simp [World.cell?, hbox2]
  have d2 : w2.cell? ⟨w1.heap.size, 2, none⟩ = some (.int .i64 i) := by simp [World.cell?, hbox2]
  have d3 : w2.cell? ⟨w1.heap.size, 3, none⟩ = some (.int .i64 t) := by simp [World.cell?, hbox2]
  have d4 : w2.cell? ⟨w1.heap.size, 4, none⟩ = some (.int .i64 s) := by simp [World.cell?, hbox2]
  have b02 : Below w.heap.size w w2 := (b01.alloc (Nat.le_trans (Nat.le_succ _) hz) _).trans (b2.mono (by simp; omega))
  clear hbox2 b2 c0 c1 c2 c3 c4
  have D0 := Lib.hid d0
  clear d0
  have d0 := D0.out
  go_wp2
  go_loopw [2, 31] (fun v x wr => WrRel a b i t s w2 v x wr) (fun _ x _ => 5 - (intOf x).toNat)
  case atStart => exact ⟨0, 0, 0, none, by omega, rfl, rfl, rfl, Fr.none_, Below.refl _ _⟩
  case round =>
    obtain ⟨k, n, c, A, hk, rfl, rfl, hn, hfr, hbel⟩ := hrel
    obtain rfl | rfl | rfl | rfl | rfl | rfl : k = 0 ∨ k = 1 ∨ k = 2 ∨ k = 3 ∨ k = 4 ∨ k = 5 := by omega
    · have hcell : wr.cell? ⟨w1.heap.size, 0, none⟩ = some (.int .i64 a) := (hbel.cell (p := ⟨w1.heap.size, 0, none⟩) hnb).trans d0
      obtain rfl : n = 0 := by rw [hn]; rfl
      clear hn
      go_wp2_with (first
        | (go_at_call 20; refine (put_ok1 a wr ha0 (by omega)).mono ?_; rintro e w3 ⟨A3, c3, rfl, f3, b3⟩)
        | (at_builtin; refine wpList_append_to rfl (.tmp 43) (.tmp 44) rfl okB rfl (hfr.below b3 (Nat.le_refl _)) rfl f3.rd (bvs_one _) 1 rfl _ (bvs_app _ _).symm (by unfold maxLen; omega) (by omega) (Nat.le_trans hbel.size b3.size) ?_; intro D4 c4' w4 f4 g4 _))
      go_roundw
      case rel => exact ⟨1, 1, c4', D4, by omega, rfl, rfl, by simp [pbUpto, le_len], f4, (hbel.trans (b3.mono hbel.size)).grown g4 (Nat.le_trans hbel.size b3.size) (fun g hg => (hfr.row g hg).1)⟩
      case measure => simp [intOf]
    · have hcell : wr.cell? ⟨w1.heap.size, 1, none⟩ = some (.int .i64 b) := (hbel.cell (p := ⟨w1.heap.size, 1, none⟩) hnb).trans d1
      obtain rfl : n = 1 := by rw [hn]; simp [pbUpto, le_len]
      clear hn
      go_wp2_with (first
        | (go_at_call 20; refine (put_ok3 b wr hb0 (by omega)).mono ?_; rintro e w3 ⟨A3, c3, rfl, f3, b3⟩)
        | (at_builtin; refine wpList_append_to rfl (.tmp 43) (.tmp 44) rfl okB rfl (hfr.below b3 (Nat.le_refl _)) rfl f3.rd (bvs_one _) 4 rfl _ (bvs_app _ _).symm (by unfold maxLen; omega) (by omega) (Nat.le_trans hbel.size b3.size) ?_; intro D4 c4' w4 f4 g4 _))
      go_roundw
      case rel => exact ⟨2, 4, c4', D4, by omega, rfl, rfl, by simp [pbUpto, le_len], f4, (hbel.trans (b3.mono hbel.size)).grown g4 (Nat.le_trans hbel.size b3.size) (fun g hg => (hfr.row g hg).1)⟩
      case measure => simp [intOf]
    · have hcell : wr.cell? ⟨w1.heap.size, 2, none⟩ = some (.int .i64 i) := (hbel.cell (p := ⟨w1.heap.size, 2, none⟩) hnb).trans d2
      obtain rfl : n = 4 := by rw [hn]; simp [pbUpto, le_len]
      clear hn
      go_wp2_with (first
        | (go_at_call 20; refine (put_ok4 i wr hi0 (by omega)).mono ?_; rintro e w3 ⟨A3, c3, rfl, f3, b3⟩)
        | (at_builtin; refine wpList_append_to rfl (.tmp 43) (.tmp 44) rfl okB rfl (hfr.below b3 (Nat.le_refl _)) rfl f3.rd (bvs_one _) 8 rfl _ (bvs_app _ _).symm (by unfold maxLen; omega) (by omega) (Nat.le_trans hbel.size b3.size) ?_; intro D4 c4' w4 f4 g4 _))
      go_roundw
      case rel => exact ⟨3, 8, c4', D4, by omega, rfl, rfl, by simp [pbUpto, le_len], f4, (hbel.trans (b3.mono hbel.size)).grown g4 (Nat.le_trans hbel.size b3.size) (fun g hg => (hfr.row g hg).1)⟩
      case measure => simp [intOf]
    · have hcell : wr.cell? ⟨w1.heap.size, 3, none⟩ = some (.int .i64 t) := (hbel.cell (p := ⟨w1.heap.size, 3, none⟩) hnb).trans d3
      obtain rfl : n = 8 := by rw [hn]; simp [pbUpto, le_len]
      clear hn
      go_wp2_with (first
        | (go_at_call 20; refine (put_ok4 t wr ht0 (by omega)).mono ?_; rintro e w3 ⟨A3, c3, rfl, f3, b3⟩)
        | (at_builtin; refine wpList_append_to rfl (.tmp 43) (.tmp 44) rfl okB rfl (hfr.below b3 (Nat.le_refl _)) rfl f3.rd (bvs_one _) 12 rfl _ (bvs_app _ _).symm (by unfold maxLen; omega) (by omega) (Nat.le_trans hbel.size b3.size) ?_; intro D4 c4' w4 f4 g4 _))
      go_roundw
      case rel => exact ⟨4, 12, c4', D4, by omega, rfl, rfl, by simp [pbUpto, le_len], f4, (hbel.trans (b3.mono hbel.size)).grown g4 (Nat.le_trans hbel.size b3.size) (fun g hg => (hfr.row g hg).1)⟩
      case measure => simp [intOf]
    · have hcell : wr.cell? ⟨w1.heap.size, 4, none⟩ = some (.int .i64 s) := (hbel.cell (p := ⟨w1.heap.size, 4, none⟩) hnb).trans d4
      obtain rfl : n = 12 := by rw [hn]; simp [pbUpto, le_len]
      clear hn
      go_wp2_with (first
        | (go_at_call 20; refine (put_ok4 s wr hs0 (by omega)).mono ?_; rintro e w3 ⟨A3, c3, rfl, f3, b3⟩)
        | (at_builtin; refine wpList_append_to rfl (.tmp 43) (.tmp 44) rfl okB rfl (hfr.below b3 (Nat.le_refl _)) rfl f3.rd (bvs_one _) 16 rfl _ (bvs_app _ _).symm (by unfold maxLen; omega) (by omega) (Nat.le_trans hbel.size b3.size) ?_; intro D4 c4' w4 f4 g4 _))
      go_roundw
      case rel => exact ⟨5, 16, c4', D4, by omega, rfl, rfl, by simp [pbUpto, le_len], f4, (hbel.trans (b3.mono hbel.size)).grown g4 (Nat.le_trans hbel.size b3.size) (fun g hg => (hfr.row g hg).1)⟩
      case measure => simp [intOf]
    · rw [pbUpto_all] at hfr hn
      rw [pb_len] at hn
      subst hn
      go_wp2
      go_ret2
      exact ⟨_, _, rfl, hfr.mono b02.size, b02.trans (hbel.mono b02.size)⟩

def wrL (a b i t s : Int) : List UInt8 := if PtMay a b i t s then pb a b i t s else []
theorem ptr_write_any (a b i t s : Int) (w : World) (hi : 0 ≤ i ∧ i ≤ 4294967295) (ht : 0 ≤ t ∧ t ≤ 4294967295) (hs : 0 ≤ s ∧ s ≤ 4294967295) :
    Calls Try.prog 22 #[.agg #[.int .i64 a, .int .u32 b, .int .u32 i, .int .u32 t, .int .u32 s]] w fun e w' => ∃ A c, e = .returned (.tuple #[.slice A (wrL a b i t s).length c, .int .i64 (chk a b i t s)]) ∧ Fr w' w.heap.size 5 1 A (wrL a b i t s).length c (bvs (wrL a b i t s)) ∧ Below w.heap.size w w' := by
  unfold wrL chk
  by_cases h : PtMay a b i t s
  · rw [if_pos h, if_pos h, pb_len]
    exact ptr_write_ok a b i t s w h hi ht hs
  · rw [if_neg h, if_neg h]
    refine (ptr_write_bad a b i t s w h).mono ?_
    rintro e w' ⟨rfl, hb⟩
    exact ⟨none, 0, rfl, Fr.none_, hb⟩

/-! ### what the bytes tell -/
theorem le_beq {k m n : Nat} (hm : m < 256 ^ k) (hn : n < 256 ^ k) : (le k m == le k n) = (m == n) := by
  rw [Bool.eq_iff_iff, beq_iff_eq, beq_iff_eq]
  exact ⟨le_inj hm hn, fun h => by rw [h]⟩
theorem toNat_beq {m n : Int} (hm : 0 ≤ m) (hn : 0 ≤ n) : (m.toNat == n.toNat) = (m == n) := by
  rw [Bool.eq_iff_iff, beq_iff_eq, beq_iff_eq]
  omega
theorem le_beq' {k : Nat} {m n : Int} (hm : 0 ≤ m) (hm' : m < (256 ^ k : Nat)) (hn : 0 ≤ n) (hn' : n < (256 ^ k : Nat)) : (le k m.toNat == le k n.toNat) = (m == n) := by
  rw [le_beq (by omega) (by omega), toNat_beq hm hn]
/-- A piece of a row of cells. -/
theorem Rd.sub {w : World} {B n g off : Nat} {xs : List Value} (h : Rd w B 1 (some ⟨g, off, none⟩) n xs) (l m : Nat) (hl : l + m ≤ n) : Rd w B 1 (some ⟨g, off + l, none⟩) m ((xs.drop l).take m) := by
  refine ⟨by rw [List.length_take, List.length_drop, h.1]; omega, fun hm => ?_⟩
  obtain ⟨b, o, he, hb, hc⟩ := h.2 (by omega)
  injection he with he
  injection he with e1 e2
  subst e1 e2
  refine ⟨g, off + l, rfl, hb, fun j u hu => ?_⟩
  rw [List.getElem?_take] at hu
  split at hu
  · rw [List.getElem?_drop] at hu
    have := hc _ u hu
    rwa [← Nat.add_assoc] at this
  · cases hu
theorem pb_at (a b i t s : Int) : (pb a b i t s)[0]? = some (UInt8.ofNat a.toNat) := by simp [pb, le]
theorem pb_birth (a b i t s : Int) : ((pb a b i t s).drop 1).take 3 = le 3 b.toNat := by
  unfold pb
  rw [List.drop_left' (le_len 1 _), List.take_left' (le_len 3 _)]
theorem pb_iv (a b i t s : Int) : ((pb a b i t s).drop 4).take 4 = le 4 i.toNat := by
  unfold pb
  rw [← List.append_assoc, List.drop_left' (by simp [le_len]), List.take_left' (le_len 4 _)]
theorem pb_tag (a b i t s : Int) : ((pb a b i t s).drop 8).take 4 = le 4 t.toNat := by
  unfold pb
  rw [← List.append_assoc, ← List.append_assoc, List.drop_left' (by simp [le_len]), List.take_left' (le_len 4 _)]
theorem pb_sum (a b i t s : Int) : ((pb a b i t s).drop 12).take 4 = le 4 s.toNat := by
  unfold pb
  rw [← List.append_assoc, ← List.append_assoc, ← List.append_assoc, List.drop_left' (by simp [le_len]), List.take_of_length_le (by rw [le_len]; omega)]
/-- Pointers whose numbers fit have the same bytes just where they are the same. -/
theorem pb_beq {a b i t s a' b' i' t' s' : Int} (h1 : 0 ≤ a ∧ a ≤ 255) (h2 : 0 ≤ b ∧ b ≤ 16777215) (h3 : 0 ≤ i ∧ i ≤ 4294967295) (h4 : 0 ≤ t ∧ t ≤ 4294967295) (h5 : 0 ≤ s ∧ s ≤ 4294967295)
    (h1' : 0 ≤ a' ∧ a' ≤ 255) (h2' : 0 ≤ b' ∧ b' ≤ 16777215) (h3' : 0 ≤ i' ∧ i' ≤ 4294967295) (h4' : 0 ≤ t' ∧ t' ≤ 4294967295) (h5' : 0 ≤ s' ∧ s' ≤ 4294967295) :
    (pb a b i t s == pb a' b' i' t' s') = ptEq a b i t s a' b' i' t' s' := by
  rw [Bool.eq_iff_iff, beq_iff_eq, ptEq_iff]
  constructor
  · intro h
    have e1 := congrArg (fun l => l[0]?) h
    have e2 := congrArg (fun l => (l.drop 1).take 3) h
    have e3 := congrArg (fun l => (l.drop 4).take 4) h
    have e4 := congrArg (fun l => (l.drop 8).take 4) h
    have e5 := congrArg (fun l => (l.drop 12).take 4) h
    simp only [pb_at, pb_birth, pb_iv, pb_tag, pb_sum] at e1 e2 e3 e4 e5
    have f2 := le_inj (by omega) (by omega) e2
    have f3 := le_inj (by omega) (by omega) e3
    have f4 := le_inj (by omega) (by omega) e4
    have f5 := le_inj (by omega) (by omega) e5
    injection e1 with e1
    have f1 := congrArg UInt8.toNat e1
    rw [UInt8.toNat_ofNat', UInt8.toNat_ofNat'] at f1
    omega
  · rintro ⟨rfl, rfl, rfl, rfl, rfl⟩
    rfl
end Go.Proofs.Ytgcagenhfddpgaa
