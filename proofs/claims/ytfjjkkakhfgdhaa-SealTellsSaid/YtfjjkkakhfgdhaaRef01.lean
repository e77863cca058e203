/-
  Contracts of the document's own answer for layer 1: Room, Bytes, Put, Number, Get.
-/
import Derived.Test.YtfjjkkakhfgdhaaCode
namespace Go.Proofs.Ytfjjkkakhfgdhaa
open Go.RowKit
set_option linter.unusedVariables false
set_option maxRecDepth 100000

theorem ref_room : ∀ (k : Nat) (hk : k ≤ 4) (w : World), Calls Try.prog 79 #[.int .i64 (k : Int)] w fun e w' => e = .returned (.int .i64 ((256 ^ k : Nat) : Int)) ∧ w = w'
  | 0, _, w => by
    go_enter Try.func79, Try.ntmps79
    go_wp2
    go_ret
    exact ⟨rfl, rfl⟩
  | k + 1, hk, w => by
    have ih := ref_room k (by omega) w
    have IH := Lib.hid ih
    clear ih
    have e1 : ((k + 1 : Nat) : Int) = (k : Int) + 1 := by omega
    have hne : (((k : Int) + 1) == 0) = false := by simp; omega
    have hp : 256 ^ (k + 1) = 256 * 256 ^ k := by rw [Nat.pow_succ, Nat.mul_comm]
    have hb : 256 ^ k ≤ 256 ^ 3 := Nat.pow_le_pow_right (by omega) (by omega)
    rw [hp, e1]
    clear hp e1
    have hk2 : (k : Int) ≤ 3 := by omega
    generalize hR : 256 ^ k = R at *
    have HR := Lib.hid hR
    clear hR
    have hb0 : (R : Int) ≤ 16777216 := by omega
    clear hb
    go_enter Try.func79, Try.ntmps79
    go_wp2_with fail
    refine IH.out.mono ?_
    rintro e w1 ⟨rfl, rfl⟩
    go_wp2
    go_ret
    exact ⟨by simp, rfl⟩

/-- What the loop of Bytes knows when i bytes are laid. -/
def BytesRel (n S : Nat) (w0 : World) (g : Nat) (i : Value) (wr : World) : Prop :=
  ∃ (k : Nat) (l : List UInt8), k ≤ S ∧ i = .int .i64 (k : Int) ∧ l.length = S ∧ l.take k = le k n ∧ Fr wr w0.heap.size 5 1 (some ⟨g, 0, none⟩) S S (bvs l) ∧ Below w0.heap.size w0 wr

theorem byte_of (n : Int) (k : Nat) (hn : 0 ≤ n) : Value.int .u8 ((n / ((256 ^ k : Nat) : Int)).tmod 256 % 256) = bv (UInt8.ofNat (n.toNat / 256 ^ k)) := by
  unfold bv
  congr 1
  rw [UInt8.toNat_ofNat']
  obtain ⟨m, rfl⟩ := Int.eq_ofNat_of_zero_le hn
  rw [Int.toNat_natCast, ← Int.natCast_ediv]
  generalize m / 256 ^ k = q
  rw [Int.tmod_eq_emod_of_nonneg (by omega)]
  omega

theorem ref_bytes (n : Int) (S : Nat) (w : World) (hn : 0 ≤ n) (hn2 : n ≤ 9223372036854775807) (hS : S ≤ 4) :
    Calls Try.prog 76 #[.int .i64 n, .int .i64 (S : Int)] w fun e w' => ∃ A, e = .returned (.slice A S S) ∧ Fr w' w.heap.size 5 1 A S S (bvs (le S n.toNat)) ∧ Below w.heap.size w w' := by
  have hS1 : (S : Int) ≤ 4 := by omega
  have hmk := fun W => run_mkB okB .i64 .i64 S (by omega) W
  go_enter Try.func76, Try.ntmps76
  go_wp2
  have hb0 : Below w.heap.size w (w.alloc (.cells (bvs (List.replicate S 0)).toArray 5)) := (Below.refl _ w).alloc (Nat.le_refl _) _
  have hf0 := fr_mkB w 5 S (by omega) (Nat.le_refl w.heap.size)
  clear hmk
  generalize w.alloc (.cells (bvs (List.replicate S 0)).toArray 5) = w1 at *
  go_loopw [6] (fun i wr => BytesRel n.toNat S w w.heap.size i wr) (fun i _ => S - (intOf i).toNat)
  case atStart => exact ⟨0, _, Nat.zero_le _, rfl, by simp, rfl, hf0, hb0⟩
  case round =>
    obtain ⟨k, l, hk, rfl, hl, hlk, hfr, hbel⟩ := hrel
    by_cases hlt : k < S
    · have h1 : (k : Int) < (S : Int) := by omega
      have h2 : 0 ≤ (k : Int) := by omega
      have hR0 : 0 < 256 ^ k := Nat.pow_pos (by omega)
      have hR1 : 256 ^ k ≤ 256 ^ 3 := Nat.pow_le_pow_right (by omega) (by omega)
      have hby := byte_of n k hn
      have hroom := ref_room k (by omega) wr
      have HR := Lib.hid hroom
      clear hroom
      generalize hRR : ((256 ^ k : Nat) : Int) = R at *
      have b1 : 0 < R := by omega
      have b2 : R ≤ 16777216 := by omega
      clear hR0 hR1 hRR
      have HB := Lib.hid hby
      clear hby
      have HL := Lib.hid hl
      have HK := Lib.hid hlk
      clear hl hlk
      obtain ⟨u, hu, hcell⟩ := hfr.cell hlt
      have hfro := hfr.frozen hlt
      clear hu
      go_wp2_with (go_at_call 79; refine HR.out.mono ?_; rintro e w2 ⟨rfl, rfl⟩)
      go_roundw
      case rel =>
        refine ⟨k + 1, l.set k (UInt8.ofNat (n.toNat / 256 ^ k)), hlt, by simp, by simpa using HL.out, ?_, ?_, hbel.setCell (p := ⟨w.heap.size, k, none⟩) (Nat.le_refl _) _⟩
        · have hlen : k < (l.set k (UInt8.ofNat (n.toNat / 256 ^ k))).length := by rw [List.length_set, HL.out]; exact hlt
          rw [List.take_succ_eq_append_getElem hlen, List.take_set_of_le (Nat.le_refl _), HK.out, le_snoc, List.getElem_set_self]
        · have h := hfr.set (by omega) k (.int .u8 ((n / R).tmod 256 % 256))
          rw [HB.out] at h ⊢
          simpa [bvs, List.map_set] using h
      case measure => simp [intOf]; omega
    · obtain rfl : k = S := by omega
      go_wp2
      go_ret
      rw [List.take_of_length_le (by omega)] at hlk
      exact ⟨_, rfl, by rw [← hlk]; exact hfr, hbel⟩


end Go.Proofs.Ytfjjkkakhfgdhaa
