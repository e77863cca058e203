/-
  mix.Four, Sum, Key, by their contracts.
-/
import Derived.Test.YtfjjkkakhfgdhaaFour
namespace Go.Proofs.Ytfjjkkakhfgdhaa
open Go.RowKit
set_option linter.unusedVariables false
set_option linter.unusedSimpArgs false
set_option maxRecDepth 100000

/-- The key: the four words, the lowest byte first. -/
def keyOf (x : W4) : List UInt8 := le 4 (wi x.a).toNat ++ le 4 (wi x.b).toNat ++ le 4 (wi x.c).toNat ++ le 4 (wi x.d).toNat
theorem keyOf_len (x : W4) : (keyOf x).length = 16 := by simp [keyOf, le_len]

theorem run_part4 (w : World) (v0 v1 v2 v3 : Int) (k : Nat) (v : Int) (hk : #[Value.int .u32 v0, .int .u32 v1, .int .u32 v2, .int .u32 v3][k]? = some (Value.int .u32 v)) : (part 22 #[Value.int .u32 v0, .int .u32 v1, .int .u32 v2, .int .u32 v3] k).run Try.prog w = .ok (.int .u32 v) w := by
  simp [go_sem, hk]
theorem run_index_words (w : World) (v0 v1 v2 v3 : Int) :
    (Instr.index 62 (.agg #[.int .u32 v0, .int .u32 v1, .int .u32 v2, .int .u32 v3]) (.int .i64 0)).run Try.prog w = .ok (.int .u32 v0) w ∧
    (Instr.index 62 (.agg #[.int .u32 v0, .int .u32 v1, .int .u32 v2, .int .u32 v3]) (.int .i64 1)).run Try.prog w = .ok (.int .u32 v1) w ∧
    (Instr.index 62 (.agg #[.int .u32 v0, .int .u32 v1, .int .u32 v2, .int .u32 v3]) (.int .i64 2)).run Try.prog w = .ok (.int .u32 v2) w ∧
    (Instr.index 62 (.agg #[.int .u32 v0, .int .u32 v1, .int .u32 v2, .int .u32 v3]) (.int .i64 3)).run Try.prog w = .ok (.int .u32 v3) w := by
  have hu := Try.underlying62
  obtain ⟨i, hi⟩ := Option.isSome_iff_exists.1 (by kernel_rfl : (Try.prog.info? 22).isSome = true)
  have hc : Try.prog.cellsOf 22 = 1 := by kernel_rfl
  have p0 := run_part4 w v0 v1 v2 v3 0 v0 rfl
  have p1 := run_part4 w v0 v1 v2 v3 1 v1 rfl
  have p2 := run_part4 w v0 v1 v2 v3 2 v2 rfl
  have p3 := run_part4 w v0 v1 v2 v3 3 v3 rfl
  refine ⟨?_, ?_, ?_, ?_⟩ <;> simp [Instr.index, asIntOf, run_underlying hu, run_sizeOf w hi, hc, p0, p1, p2, p3, go_sem]
theorem run_index_four (w : World) (v0 v1 v2 v3 : Int) :
    (Instr.index 23 (.agg #[.int .u32 v0, .int .u32 v1, .int .u32 v2, .int .u32 v3]) (.int .i64 0)).run Try.prog w = .ok (.int .u32 v0) w ∧
    (Instr.index 23 (.agg #[.int .u32 v0, .int .u32 v1, .int .u32 v2, .int .u32 v3]) (.int .i64 1)).run Try.prog w = .ok (.int .u32 v1) w ∧
    (Instr.index 23 (.agg #[.int .u32 v0, .int .u32 v1, .int .u32 v2, .int .u32 v3]) (.int .i64 2)).run Try.prog w = .ok (.int .u32 v2) w ∧
    (Instr.index 23 (.agg #[.int .u32 v0, .int .u32 v1, .int .u32 v2, .int .u32 v3]) (.int .i64 3)).run Try.prog w = .ok (.int .u32 v3) w := by
  have hu := Try.underlying23
  obtain ⟨i, hi⟩ := Option.isSome_iff_exists.1 (by kernel_rfl : (Try.prog.info? 22).isSome = true)
  have hc : Try.prog.cellsOf 22 = 1 := by kernel_rfl
  have p0 := run_part4 w v0 v1 v2 v3 0 v0 rfl
  have p1 := run_part4 w v0 v1 v2 v3 1 v1 rfl
  have p2 := run_part4 w v0 v1 v2 v3 2 v2 rfl
  have p3 := run_part4 w v0 v1 v2 v3 3 v3 rfl
  refine ⟨?_, ?_, ?_, ?_⟩ <;> simp [Instr.index, asIntOf, run_underlying hu, run_sizeOf w hi, hc, p0, p1, p2, p3, go_sem]
theorem x_four (A : Option Addr) (n c : Nat) (l : List UInt8) (w : World) (hl : l.length = n) (hn : (n : Int) ≤ 1000000) (hcap : n ≤ c) (hr : Rd w w.heap.size 1 A n (bvs l)) :
    Calls Try.prog 24 #[.slice A n c] w fun e w' => e = .returned (.agg #[.int .u32 (wi (fourOf l).a), .int .u32 (wi (fourOf l).b), .int .u32 (wi (fourOf l).c), .int .u32 (wi (fourOf l).d)]) ∧ Below w.heap.size w w' := by
  have hc := fun W (h : Below w.heap.size w W) => m_four A n c l W hl hn hcap ((hr.below h).more h.size)
  have hz : Below w.heap.size w (w.alloc (.cells #[.int .u32 0, .int .u32 0, .int .u32 0, .int .u32 0] 23)) := (Below.refl _ w).alloc (Nat.le_refl _) _
  have hrs := Box4.new w 23 ⟨0, 0, 0, 0⟩
  change Box4 (w.alloc (.cells #[.int .u32 0, .int .u32 0, .int .u32 0, .int .u32 0] 23)) w.heap.size 23 ⟨0, 0, 0, 0⟩ at hrs
  have HC := Lib.hid hc
  have HZ := Lib.hid hz
  have HR := Lib.hid hrs
  clear hc hz hrs hr
  go_enter Try.func24, Try.ntmps24
  go_wp2_with fail
  refine (HC.out _ HZ.out).mono ?_
  rintro e w1 ⟨rfl, b1⟩
  have hs1 := HR.out.below b1 HR.out.lt
  obtain ⟨q0, q1, q2, q3⟩ := hs1.cells
  have fz := hs1.frozen
  obtain ⟨e0, e1, e2, e3⟩ := hs1.four (.int .u32 (wi (fourOf l).a)) (.int .u32 (wi (fourOf l).b)) (.int .u32 (wi (fourOf l).c)) (.int .u32 (wi (fourOf l).d))
  have hb := HZ.out.trans (below_mono b1 HZ.out.size)
  have HB := Lib.hid hb
  clear hs1 hb b1
  go_wp2
  refine bodyPost_ret (v := .agg #[.int .u32 (wi (fourOf l).a), .int .u32 (wi (fourOf l).b), .int .u32 (wi (fourOf l).c), .int .u32 (wi (fourOf l).d)]) (by simp [results, Try.results24, go_sem, e0, e1, e2, e3]) rfl ⟨rfl, ?_⟩
  exact below_four HB.out (Nat.le_refl _) _ _ _ _

theorem x_sum (A : Option Addr) (n c : Nat) (l : List UInt8) (w : World) (hl : l.length = n) (hn : (n : Int) ≤ 1000000) (hcap : n ≤ c) (hr : Rd w w.heap.size 1 A n (bvs l)) :
    Calls Try.prog 26 #[.slice A n c] w fun e w' => e = .returned (.int .u32 (wi (fourOf l).a)) ∧ Below w.heap.size w w' := by
  have hc := m_four A n c l w hl hn hcap hr
  have HC := Lib.hid hc
  clear hc hr
  have hix := fun W => (run_index_words W (wi (fourOf l).a) (wi (fourOf l).b) (wi (fourOf l).c) (wi (fourOf l).d)).1
  go_enter Try.func26, Try.ntmps26
  go_wp2_with fail
  refine HC.out.mono ?_
  rintro e w1 ⟨rfl, b1⟩
  have HB := Lib.hid b1
  clear b1
  go_wp2
  go_ret
  exact ⟨rfl, HB.out⟩

def KeyRel (x : W4) (w : World) (v i : Value) (wr : World) : Prop :=
  ∃ A k c, k ≤ 4 ∧ i = .int .i64 (k : Nat) ∧ v = .slice A (4 * k) c ∧ Fr wr w.heap.size 5 1 A (4 * k) c (bvs ((keyOf x).take (4 * k))) ∧ Below w.heap.size w wr
theorem x_key (A : Option Addr) (n c : Nat) (l : List UInt8) (w : World) (hl : l.length = n) (hn : (n : Int) ≤ 1000000) (hcap : n ≤ c) (hr : Rd w w.heap.size 1 A n (bvs l)) :
    Calls Try.prog 25 #[.slice A n c] w fun e w' => ∃ A' c', e = .returned (.slice A' 16 c') ∧ Fr w' w.heap.size 5 1 A' 16 c' (bvs (keyOf (fourOf l))) ∧ Below w.heap.size w w' := by
  have hc := m_four A n c l w hl hn hcap hr
  have HC := Lib.hid hc
  clear hc hr
  generalize fourOf l = X at *
  have ix0 := fun W => (run_index_words W (wi X.a) (wi X.b) (wi X.c) (wi X.d)).1
  have ix1 := fun W => (run_index_words W (wi X.a) (wi X.b) (wi X.c) (wi X.d)).2.1
  have ix2 := fun W => (run_index_words W (wi X.a) (wi X.b) (wi X.c) (wi X.d)).2.2.1
  have ix3 := fun W => (run_index_words W (wi X.a) (wi X.b) (wi X.c) (wi X.d)).2.2.2
  go_enter Try.func25, Try.ntmps25
  go_wp2_with fail
  refine HC.out.mono ?_
  rintro e w1 ⟨rfl, b1⟩
  go_wp2
  go_loopw [3, 10] (fun v i wr => KeyRel X w v i wr) (fun _ i _ => 4 - (intOf i).toNat)
  case atStart => exact ⟨none, 0, 0, by omega, rfl, rfl, Fr.none_, b1⟩
  case round =>
    clear b1
    obtain ⟨A3, k, c3, hk, rfl, rfl, hf, hb⟩ := hrel
    have hbs := hb.size
    rcases (show k = 0 ∨ k = 1 ∨ k = 2 ∨ k = 3 ∨ k = 4 by omega) with rfl | rfl | rfl | rfl | rfl
    · obtain ⟨i0, i1⟩ := wi_lt X.a
      have hp := fun W => put_ok4 (wi X.a) W i0 i1
      have hnext : bvs ((keyOf X).take (4 * 0)) ++ bvs (le 4 (wi X.a).toNat) = bvs ((keyOf X).take (4 * (0 + 1))) := by
        rw [← bvs_app]
        unfold keyOf
        simp [List.take_append, le_len, List.take_of_length_le]
      have HP := Lib.hid hp
      have HN := Lib.hid hnext
      have HF := Lib.hid hf
      have HB := Lib.hid hb
      clear hp hnext hf hb
      go_wp2_with fail
      refine (HP.out _).mono ?_
      rintro e w2 ⟨A2, c2, rfl, f2, b2⟩
      have hf2 := HF.out.below b2 (Nat.le_refl _)
      have hr2 := f2.rd
      have hb2 := HB.out.trans (below_mono b2 hbs)
      have hz2 := hb2.size
      have HB2 := Lib.hid hb2
      clear f2 b2 hb2
      go_wp2_with (at_builtin; refine wpList_append_to rfl (.tmp 19) (.tmp 20) rfl okB rfl hf2 rfl hr2 (bvs_one _) (4 * (0 + 1)) (by omega) _ HN.out (by unfold maxLen; omega) (by omega) hz2 ?_; intro D d w3 f3 g3 _)
      go_roundw
      case rel => exact ⟨D, 0 + 1, d, by omega, rfl, rfl, f3, HB2.out.grown g3 hz2 (fun g hg => (hf2.row g hg).1)⟩
      case measure => simp [intOf]
    · obtain ⟨i0, i1⟩ := wi_lt X.b
      have hp := fun W => put_ok4 (wi X.b) W i0 i1
      have hnext : bvs ((keyOf X).take (4 * 1)) ++ bvs (le 4 (wi X.b).toNat) = bvs ((keyOf X).take (4 * (1 + 1))) := by
        rw [← bvs_app]
        unfold keyOf
        simp [List.take_append, le_len, List.take_of_length_le]
      have HP := Lib.hid hp
      have HN := Lib.hid hnext
      have HF := Lib.hid hf
      have HB := Lib.hid hb
      clear hp hnext hf hb
      go_wp2_with fail
      refine (HP.out _).mono ?_
      rintro e w2 ⟨A2, c2, rfl, f2, b2⟩
      have hf2 := HF.out.below b2 (Nat.le_refl _)
      have hr2 := f2.rd
      have hb2 := HB.out.trans (below_mono b2 hbs)
      have hz2 := hb2.size
      have HB2 := Lib.hid hb2
      clear f2 b2 hb2
      go_wp2_with (at_builtin; refine wpList_append_to rfl (.tmp 19) (.tmp 20) rfl okB rfl hf2 rfl hr2 (bvs_one _) (4 * (1 + 1)) (by omega) _ HN.out (by unfold maxLen; omega) (by omega) hz2 ?_; intro D d w3 f3 g3 _)
      go_roundw
      case rel => exact ⟨D, 1 + 1, d, by omega, rfl, rfl, f3, HB2.out.grown g3 hz2 (fun g hg => (hf2.row g hg).1)⟩
      case measure => simp [intOf]
    · obtain ⟨i0, i1⟩ := wi_lt X.c
      have hp := fun W => put_ok4 (wi X.c) W i0 i1
      have hnext : bvs ((keyOf X).take (4 * 2)) ++ bvs (le 4 (wi X.c).toNat) = bvs ((keyOf X).take (4 * (2 + 1))) := by
        rw [← bvs_app]
        unfold keyOf
        simp [List.take_append, le_len, List.take_of_length_le]
      have HP := Lib.hid hp
      have HN := Lib.hid hnext
      have HF := Lib.hid hf
      have HB := Lib.hid hb
      clear hp hnext hf hb
      go_wp2_with fail
      refine (HP.out _).mono ?_
      rintro e w2 ⟨A2, c2, rfl, f2, b2⟩
      have hf2 := HF.out.below b2 (Nat.le_refl _)
      have hr2 := f2.rd
      have hb2 := HB.out.trans (below_mono b2 hbs)
      have hz2 := hb2.size
      have HB2 := Lib.hid hb2
      clear f2 b2 hb2
      go_wp2_with (at_builtin; refine wpList_append_to rfl (.tmp 19) (.tmp 20) rfl okB rfl hf2 rfl hr2 (bvs_one _) (4 * (2 + 1)) (by omega) _ HN.out (by unfold maxLen; omega) (by omega) hz2 ?_; intro D d w3 f3 g3 _)
      go_roundw
      case rel => exact ⟨D, 2 + 1, d, by omega, rfl, rfl, f3, HB2.out.grown g3 hz2 (fun g hg => (hf2.row g hg).1)⟩
      case measure => simp [intOf]
    · obtain ⟨i0, i1⟩ := wi_lt X.d
      have hp := fun W => put_ok4 (wi X.d) W i0 i1
      have hnext : bvs ((keyOf X).take (4 * 3)) ++ bvs (le 4 (wi X.d).toNat) = bvs ((keyOf X).take (4 * (3 + 1))) := by
        rw [← bvs_app]
        unfold keyOf
        simp [List.take_append, le_len, List.take_of_length_le]
      have HP := Lib.hid hp
      have HN := Lib.hid hnext
      have HF := Lib.hid hf
      have HB := Lib.hid hb
      clear hp hnext hf hb
      go_wp2_with fail
      refine (HP.out _).mono ?_
      rintro e w2 ⟨A2, c2, rfl, f2, b2⟩
      have hf2 := HF.out.below b2 (Nat.le_refl _)
      have hr2 := f2.rd
      have hb2 := HB.out.trans (below_mono b2 hbs)
      have hz2 := hb2.size
      have HB2 := Lib.hid hb2
      clear f2 b2 hb2
      go_wp2_with (at_builtin; refine wpList_append_to rfl (.tmp 19) (.tmp 20) rfl okB rfl hf2 rfl hr2 (bvs_one _) (4 * (3 + 1)) (by omega) _ HN.out (by unfold maxLen; omega) (by omega) hz2 ?_; intro D d w3 f3 g3 _)
      go_roundw
      case rel => exact ⟨D, 3 + 1, d, by omega, rfl, rfl, f3, HB2.out.grown g3 hz2 (fun g hg => (hf2.row g hg).1)⟩
      case measure => simp [intOf]
    · have h16 : (keyOf X).take (4 * 4) = keyOf X := List.take_of_length_le (by rw [keyOf_len]; omega)
      rw [h16] at hf
      go_wp2
      go_ret
      exact ⟨_, _, rfl, hf, hb⟩
end Go.Proofs.Ytfjjkkakhfgdhaa
