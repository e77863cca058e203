/-
  Contracts of package code: sized, Put.
-/
import Derived.Test.YtgcagenhfddpgaaChecked
import Derived.Test.YtgcagenhfddpgaaBase
import Derived.Test.YtgcagenhfddpgaaMathA
namespace Go.Proofs.Ytgcagenhfddpgaa
open Go.RowKit
set_option linter.unusedVariables false
set_option maxRecDepth 100000

theorem info_u8 : (Try.prog.info? 5).map (fun i => (i.zero, i.size, i.bytes)) = some (some (.int .u8 0), 1, 1) := by kernel_rfl
theorem okB : ElemOk Try.prog 23 5 1 1 (.int .u8 0) := by
  obtain ⟨i0, hi, hz0, hz1, hz2⟩ := info_parts info_u8
  exact ⟨Try.underlying23, rfl, by decide, i0, hi, hz0, hz1, hz2⟩

theorem sized_yes (n : Int) (w : World) (h1 : 0 < n) (h2 : n ≤ 4) : Calls Try.prog 46 #[.int .i64 n] w fun e w' => e = .returned (.bool true) ∧ w = w' := by
  go_enter Try.func46, Try.ntmps46
  go_wp2
  go_ret
  exact ⟨rfl, rfl⟩
theorem sized_no (n : Int) (w : World) (h : n ≤ 0 ∨ 4 < n) : Calls Try.prog 46 #[.int .i64 n] w fun e w' => e = .returned (.bool false) ∧ w = w' := by
  rcases h with h | h
  · have hh : decide (0 < n) = false := by simp; omega
    go_enter Try.func46, Try.ntmps46
    go_wp2
    go_ret
    exact ⟨rfl, rfl⟩
  · have hh : 0 < n := by omega
    have hh' : decide (n ≤ 4) = false := by simp; omega
    go_enter Try.func46, Try.ntmps46
    go_wp2
    go_ret
    exact ⟨rfl, rfl⟩

/-! ### Put -/
theorem put_badsize (n s : Int) (w : World) (h : s ≤ 0 ∨ 4 < s) : Calls Try.prog 20 #[.int .i64 n, .int .i64 s] w fun e w' => e = .returned (.tuple #[.slice none 0 0, .int .i64 2]) ∧ w = w' := by
  have H := Lib.hid h; clear h
  go_enter Try.func20, Try.ntmps20
  go_wp2_with (go_at_call 46; refine (sized_no _ _ H.out).mono ?_; rintro e w' ⟨rfl, rfl⟩)
  go_ret2
  exact ⟨rfl, rfl⟩
theorem put_neg (n s : Int) (w : World) (h1 : 0 < s) (h2 : s ≤ 4) (hn : n < 0) : Calls Try.prog 20 #[.int .i64 n, .int .i64 s] w fun e w' => e = .returned (.tuple #[.slice none 0 0, .int .i64 2]) ∧ w = w' := by
  go_enter Try.func20, Try.ntmps20
  go_wp2_with (go_at_call 46; refine (sized_yes _ _ h1 h2).mono ?_; rintro e w' ⟨rfl, rfl⟩)
  go_ret2
  exact ⟨rfl, rfl⟩
theorem put_big1 (n : Int) (w : World) (hn : 0 ≤ n) (hb : 256 ≤ n) : Calls Try.prog 20 #[.int .i64 n, .int .i64 1] w fun e w' => e = .returned (.tuple #[.slice none 0 0, .int .i64 2]) ∧ w = w' := by
  go_enter Try.func20, Try.ntmps20
  go_wp2_with (go_at_call 46; refine (sized_yes _ _ (by decide) (by decide)).mono ?_; rintro e w' ⟨rfl, rfl⟩)
  go_ret2
  exact ⟨rfl, rfl⟩
theorem put_big2 (n : Int) (w : World) (hn : 0 ≤ n) (hb : 65536 ≤ n) : Calls Try.prog 20 #[.int .i64 n, .int .i64 2] w fun e w' => e = .returned (.tuple #[.slice none 0 0, .int .i64 2]) ∧ w = w' := by
  go_enter Try.func20, Try.ntmps20
  go_wp2_with (go_at_call 46; refine (sized_yes _ _ (by decide) (by decide)).mono ?_; rintro e w' ⟨rfl, rfl⟩)
  go_ret2
  exact ⟨rfl, rfl⟩
theorem put_big3 (n : Int) (w : World) (hn : 0 ≤ n) (hb : 16777216 ≤ n) : Calls Try.prog 20 #[.int .i64 n, .int .i64 3] w fun e w' => e = .returned (.tuple #[.slice none 0 0, .int .i64 2]) ∧ w = w' := by
  go_enter Try.func20, Try.ntmps20
  go_wp2_with (go_at_call 46; refine (sized_yes _ _ (by decide) (by decide)).mono ?_; rintro e w' ⟨rfl, rfl⟩)
  go_ret2
  exact ⟨rfl, rfl⟩
theorem put_big4 (n : Int) (w : World) (hn : 0 ≤ n) (hb : 4294967296 ≤ n) : Calls Try.prog 20 #[.int .i64 n, .int .i64 4] w fun e w' => e = .returned (.tuple #[.slice none 0 0, .int .i64 2]) ∧ w = w' := by
  go_enter Try.func20, Try.ntmps20
  go_wp2_with (go_at_call 46; refine (sized_yes _ _ (by decide) (by decide)).mono ?_; rintro e w' ⟨rfl, rfl⟩)
  go_ret2
  exact ⟨rfl, rfl⟩
theorem put_big (n s : Int) (w : World) (h1 : 0 < s) (h2 : s ≤ 4) (hn : 0 ≤ n) (hb : room s ≤ n) : Calls Try.prog 20 #[.int .i64 n, .int .i64 s] w fun e w' => e = .returned (.tuple #[.slice none 0 0, .int .i64 2]) ∧ w = w' := by
  obtain rfl | rfl | rfl | rfl : s = 1 ∨ s = 2 ∨ s = 3 ∨ s = 4 := by omega
  · exact put_big1 n w hn hb
  · exact put_big2 n w hn hb
  · exact put_big3 n w hn hb
  · exact put_big4 n w hn hb

/-- What the loop of Put knows when k bytes are written. -/
def PutRel (n : Nat) (S : Nat) (w0 : World) (m v : Value) (wr : World) : Prop :=
  ∃ (k c : Nat) (A : Option Addr) (N : Int), k ≤ S ∧ m = .int .i64 N ∧ 0 ≤ N ∧ N < 4294967296 ∧ N.toNat = n / 256 ^ k ∧ v = .slice A k c ∧ Fr wr w0.heap.size 5 1 A k c (bvs (le k n)) ∧ Below w0.heap.size w0 wr
def lenOf : Value → Nat
  | .slice _ n _ => n
  | _ => 0

theorem put_byte (N : Int) (h : 0 ≤ N) : Value.int .u8 (N % 256) = bv (UInt8.ofNat N.toNat) := by
  unfold bv
  congr 1
  rw [UInt8.toNat_ofNat']
  omega

theorem put_step {n S : Nat} {w0 w1 : World} {k d : Nat} {D : Option Addr} {N : Int} (hk : k < S) (h0 : 0 ≤ N) (h1 : N < 4294967296) (hN : N.toNat = n / 256 ^ k)
    (hfr : Fr w1 w0.heap.size 5 1 D (k + 1) d (bvs (le k n) ++ [.int .u8 (N % 256)])) (hb : Below w0.heap.size w0 w1) :
    PutRel n S w0 (.int .i64 (N / 256)) (.slice D (k + 1) d) w1 := by
  refine ⟨k + 1, d, D, N / 256, hk, rfl, by omega, by omega, ?_, rfl, ?_, hb⟩
  · rw [Nat.pow_succ, ← Nat.div_div_eq_div_mul, ← hN]
    omega
  · rw [le_snoc, bvs_app, ← hN]
    rw [put_byte N h0] at hfr
    exact hfr

theorem put_ok1 (n : Int) (w : World) (hn : 0 ≤ n) (hb : n < 256) :
    Calls Try.prog 20 #[.int .i64 n, .int .i64 1] w fun e w' => ∃ A c, e = .returned (.tuple #[.slice A 1 c, .int .i64 0]) ∧ Fr w' w.heap.size 5 1 A 1 c (bvs (le 1 n.toNat)) ∧ Below w.heap.size w w' := by
  go_enter Try.func20, Try.ntmps20
  go_wp2_with (go_at_call 46; refine (sized_yes _ _ (by decide) (by decide)).mono ?_; rintro e w' ⟨rfl, rfl⟩)
  go_loopw [0, 6] (fun m v wr => PutRel n.toNat 1 w m v wr) (fun _ v _ => 1 - lenOf v)
  case atStart => exact ⟨0, 0, none, n, by omega, rfl, hn, by omega, by simp, rfl, Fr.none_, Below.refl _ _⟩
  case round =>
    obtain ⟨k, c, A, N, hk, rfl, h0, h1, hN, rfl, hfr, hbel⟩ := hrel
    have HN := Lib.hid hN; clear hN
    by_cases hlt : k < 1
    · go_wp2_with (at_builtin; refine wpList_append_fr rfl (.tmp 27) (.tmp 30) rfl okB rfl (hfr.alloc _) rfl (Rd.made wr _ 1 1 _ rfl) (ones1 rfl) (by unfold maxLen; omega) (by omega) (by have := hbel.size; simp; omega) ?_; intro D d w1 hfr1 hg1 _)
      go_roundw
      case rel => exact put_step hlt h0 h1 HN.out hfr1 ((hbel.alloc hbel.size _).grown hg1 (by have := hbel.size; simp; omega) (fun g hg => (hfr.row g hg).1))
      case measure => simp [lenOf]; omega
    · obtain rfl : k = 1 := by omega
      go_wp2
      go_ret2
      exact ⟨_, _, rfl, hfr, hbel⟩
theorem put_ok2 (n : Int) (w : World) (hn : 0 ≤ n) (hb : n < 65536) :
    Calls Try.prog 20 #[.int .i64 n, .int .i64 2] w fun e w' => ∃ A c, e = .returned (.tuple #[.slice A 2 c, .int .i64 0]) ∧ Fr w' w.heap.size 5 1 A 2 c (bvs (le 2 n.toNat)) ∧ Below w.heap.size w w' := by
  go_enter Try.func20, Try.ntmps20
  go_wp2_with (go_at_call 46; refine (sized_yes _ _ (by decide) (by decide)).mono ?_; rintro e w' ⟨rfl, rfl⟩)
  go_loopw [0, 6] (fun m v wr => PutRel n.toNat 2 w m v wr) (fun _ v _ => 2 - lenOf v)
  case atStart => exact ⟨0, 0, none, n, by omega, rfl, hn, by omega, by simp, rfl, Fr.none_, Below.refl _ _⟩
  case round =>
    obtain ⟨k, c, A, N, hk, rfl, h0, h1, hN, rfl, hfr, hbel⟩ := hrel
    have HN := Lib.hid hN; clear hN
    by_cases hlt : k < 2
    · go_wp2_with (at_builtin; refine wpList_append_fr rfl (.tmp 27) (.tmp 30) rfl okB rfl (hfr.alloc _) rfl (Rd.made wr _ 1 1 _ rfl) (ones1 rfl) (by unfold maxLen; omega) (by omega) (by have := hbel.size; simp; omega) ?_; intro D d w1 hfr1 hg1 _)
      go_roundw
      case rel => exact put_step hlt h0 h1 HN.out hfr1 ((hbel.alloc hbel.size _).grown hg1 (by have := hbel.size; simp; omega) (fun g hg => (hfr.row g hg).1))
      case measure => simp [lenOf]; omega
    · obtain rfl : k = 2 := by omega
      go_wp2
      go_ret2
      exact ⟨_, _, rfl, hfr, hbel⟩
theorem put_ok3 (n : Int) (w : World) (hn : 0 ≤ n) (hb : n < 16777216) :
    Calls Try.prog 20 #[.int .i64 n, .int .i64 3] w fun e w' => ∃ A c, e = .returned (.tuple #[.slice A 3 c, .int .i64 0]) ∧ Fr w' w.heap.size 5 1 A 3 c (bvs (le 3 n.toNat)) ∧ Below w.heap.size w w' := by
  go_enter Try.func20, Try.ntmps20
  go_wp2_with (go_at_call 46; refine (sized_yes _ _ (by decide) (by decide)).mono ?_; rintro e w' ⟨rfl, rfl⟩)
  go_loopw [0, 6] (fun m v wr => PutRel n.toNat 3 w m v wr) (fun _ v _ => 3 - lenOf v)
  case atStart => exact ⟨0, 0, none, n, by omega, rfl, hn, by omega, by simp, rfl, Fr.none_, Below.refl _ _⟩
  case round =>
    obtain ⟨k, c, A, N, hk, rfl, h0, h1, hN, rfl, hfr, hbel⟩ := hrel
    have HN := Lib.hid hN; clear hN
    by_cases hlt : k < 3
    · go_wp2_with (at_builtin; refine wpList_append_fr rfl (.tmp 27) (.tmp 30) rfl okB rfl (hfr.alloc _) rfl (Rd.made wr _ 1 1 _ rfl) (ones1 rfl) (by unfold maxLen; omega) (by omega) (by have := hbel.size; simp; omega) ?_; intro D d w1 hfr1 hg1 _)
      go_roundw
      case rel => exact put_step hlt h0 h1 HN.out hfr1 ((hbel.alloc hbel.size _).grown hg1 (by have := hbel.size; simp; omega) (fun g hg => (hfr.row g hg).1))
      case measure => simp [lenOf]; omega
    · obtain rfl : k = 3 := by omega
      go_wp2
      go_ret2
      exact ⟨_, _, rfl, hfr, hbel⟩
theorem put_ok4 (n : Int) (w : World) (hn : 0 ≤ n) (hb : n < 4294967296) :
    Calls Try.prog 20 #[.int .i64 n, .int .i64 4] w fun e w' => ∃ A c, e = .returned (.tuple #[.slice A 4 c, .int .i64 0]) ∧ Fr w' w.heap.size 5 1 A 4 c (bvs (le 4 n.toNat)) ∧ Below w.heap.size w w' := by
  go_enter Try.func20, Try.ntmps20
  go_wp2_with (go_at_call 46; refine (sized_yes _ _ (by decide) (by decide)).mono ?_; rintro e w' ⟨rfl, rfl⟩)
  go_loopw [0, 6] (fun m v wr => PutRel n.toNat 4 w m v wr) (fun _ v _ => 4 - lenOf v)
  case atStart => exact ⟨0, 0, none, n, by omega, rfl, hn, by omega, by simp, rfl, Fr.none_, Below.refl _ _⟩
  case round =>
    obtain ⟨k, c, A, N, hk, rfl, h0, h1, hN, rfl, hfr, hbel⟩ := hrel
    have HN := Lib.hid hN; clear hN
    by_cases hlt : k < 4
    · go_wp2_with (at_builtin; refine wpList_append_fr rfl (.tmp 27) (.tmp 30) rfl okB rfl (hfr.alloc _) rfl (Rd.made wr _ 1 1 _ rfl) (ones1 rfl) (by unfold maxLen; omega) (by omega) (by have := hbel.size; simp; omega) ?_; intro D d w1 hfr1 hg1 _)
      go_roundw
      case rel => exact put_step hlt h0 h1 HN.out hfr1 ((hbel.alloc hbel.size _).grown hg1 (by have := hbel.size; simp; omega) (fun g hg => (hfr.row g hg).1))
      case measure => simp [lenOf]; omega
    · obtain rfl : k = 4 := by omega
      go_wp2
      go_ret2
      exact ⟨_, _, rfl, hfr, hbel⟩
theorem put_ok (n s : Int) (w : World) (h1 : 0 < s) (h2 : s ≤ 4) (hn : 0 ≤ n) (hb : n < room s) :
    Calls Try.prog 20 #[.int .i64 n, .int .i64 s] w fun e w' => ∃ A c, e = .returned (.tuple #[.slice A s.toNat c, .int .i64 0]) ∧ Fr w' w.heap.size 5 1 A s.toNat c (bvs (le s.toNat n.toNat)) ∧ Below w.heap.size w w' := by
  obtain rfl | rfl | rfl | rfl : s = 1 ∨ s = 2 ∨ s = 3 ∨ s = 4 := by omega
  · exact put_ok1 n w hn hb
  · exact put_ok2 n w hn hb
  · exact put_ok3 n w hn hb
  · exact put_ok4 n w hn hb

theorem put_err (n s : Int) (w : World) (h : ¬ PutOk n s) : Calls Try.prog 20 #[.int .i64 n, .int .i64 s] w fun e w' => e = .returned (.tuple #[.slice none 0 0, .int .i64 2]) ∧ w = w' := by
  unfold PutOk at h
  by_cases hs : 0 < s ∧ s ≤ 4
  · by_cases hn : n < 0
    · exact put_neg n s w hs.1 hs.2 hn
    · exact put_big n s w hs.1 hs.2 (by omega) (Int.not_lt.1 fun hb => h ⟨hs.1, hs.2, by omega, hb⟩)
  · exact put_badsize n s w (by omega)
theorem put_yes (n s : Int) (w : World) (h : PutOk n s) :
    Calls Try.prog 20 #[.int .i64 n, .int .i64 s] w fun e w' => ∃ A c, e = .returned (.tuple #[.slice A s.toNat c, .int .i64 0]) ∧ Fr w' w.heap.size 5 1 A s.toNat c (bvs (le s.toNat n.toNat)) ∧ Below w.heap.size w w' :=
  put_ok n s w h.1 h.2.1 h.2.2.1 h.2.2.2
/-! ### Put, in one contract -/
theorem put_any (n s : Int) (w : World) : Calls Try.prog 20 #[.int .i64 n, .int .i64 s] w fun e w' =>
    ∃ A c, e = .returned (.tuple #[.slice A (putL n s).length c, .int .i64 (putE n s)]) ∧ Fr w' w.heap.size 5 1 A (putL n s).length c (bvs (putL n s)) ∧ Below w.heap.size w w' := by
  unfold putL putE
  by_cases h : PutOk n s
  · rw [if_pos h, if_pos h, le_len]
    exact put_yes n s w h
  · rw [if_neg h, if_neg h]
    refine (put_err n s w h).mono ?_
    rintro e w' ⟨rfl, rfl⟩
    exact ⟨none, 0, rfl, Fr.none_, Below.refl _ _⟩
end Go.Proofs.Ytgcagenhfddpgaa
