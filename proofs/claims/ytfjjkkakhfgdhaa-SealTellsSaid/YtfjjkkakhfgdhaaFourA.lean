/-
  Contracts below mix.four: often, number, slices.Clone, slices.Clip.
-/
import Derived.Test.YtfjjkkakhfgdhaaLaw02
import Derived.Test.YtfjjkkakhfgdhaaGet
namespace Go.Proofs.Ytfjjkkakhfgdhaa
open Go.RowKit
set_option linter.unusedVariables false
set_option maxRecDepth 100000

/-! ### plain -/
/-- The word of the first four bytes. -/
def word (l : List UInt8) : Wd := BitVec.ofNat 32 (num (l.take 4))
theorem num_lt4 (l : List UInt8) : num (l.take 4) < 4294967296 := by
  have h := num_lt (l.take 4)
  have h2 : 256 ^ (l.take 4).length ≤ 256 ^ 4 := Nat.pow_le_pow_right (by omega) (by rw [List.length_take]; omega)
  omega
theorem wi_word (l : List UInt8) : wi (word l) = (num (l.take 4) : Int) := by
  unfold wi word
  rw [BitVec.toNat_ofNat, Nat.mod_eq_of_lt (num_lt4 l)]

def OftRel (n : Nat) (x : W4) (w : World) (i : Value) (wr : World) : Prop :=
  ∃ k : Nat, k ≤ n ∧ i = .int .i64 k ∧ Box4 wr w.heap.size 62 (often k x) ∧ Box4 wr (w.heap.size + 1) 62 ⟨0, 0, 0, 0⟩ ∧ Below w.heap.size w wr
theorem m_often (x : W4) (n : Nat) (hn : n ≤ 1000000) (w : World) :
    Calls Try.prog 70 #[.agg #[.int .u32 (wi x.a), .int .u32 (wi x.b), .int .u32 (wi x.c), .int .u32 (wi x.d)], .int .i64 (n : Int)] w fun e w' =>
      e = .returned (.agg #[.int .u32 (wi (often n x).a), .int .u32 (wi (often n x).b), .int .u32 (wi (often n x).c), .int .u32 (wi (often n x).d)]) ∧ Below w.heap.size w w' := by
  go_enter Try.func70, Try.ntmps70
  go_wp2
  go_loopw [6] (fun i wr => OftRel n x w i wr) (fun i _ => n - (intOf i).toNat)
  case atStart =>
    have z1 : (w.alloc (.cells #[.int .u32 (wi x.a), .int .u32 (wi x.b), .int .u32 (wi x.c), .int .u32 (wi x.d)] 62)).heap.size = w.heap.size + 1 := by simp only [World.alloc, Array.size_push]
    refine ⟨0, Nat.zero_le _, rfl, (Box4.new w _ x).alloc _, ?_, ((Below.refl _ w).alloc (Nat.le_refl _) _).alloc (by rw [z1]; omega) _⟩
    have h := heap_alloc_new (w.alloc (.cells #[.int .u32 (wi x.a), .int .u32 (wi x.b), .int .u32 (wi x.c), .int .u32 (wi x.d)] 62)) (.cells #[.int .u32 0, .int .u32 0, .int .u32 0, .int .u32 0] 62)
    rw [z1] at h
    exact h
  case round =>
    obtain ⟨k, hk, rfl, hx, hy, hbel⟩ := hrel
    obtain ⟨y0, y1, y2, y3⟩ := hx.cells
    have hyl := hy.lt
    by_cases hlt : k < n
    · have h1 : (k : Int) < (n : Int) := by omega
      have h2 : 0 ≤ (k : Int) := by omega
      have HX := Lib.hid hx
      have HY := Lib.hid hy
      have HB := Lib.hid hbel
      clear hx hy hbel
      go_wp2_with fail
      refine (m_turn (often k x) _).mono ?_
      rintro e w1 ⟨rfl, b1⟩
      have hx1 := HX.out.below b1 (by omega)
      have hy1 := HY.out.below b1 (by omega)
      obtain ⟨q0, q1, q2, q3⟩ := hx1.cells
      have fz := hx1.frozen
      have HX1 := Lib.hid hx1
      have HY1 := Lib.hid hy1
      have HB1 := Lib.hid (HB.out.trans (below_mono b1 (by omega)))
      clear hx1 hy1 b1 y0 y1 y2 y3
      go_wp2
      go_roundw
      case rel =>
        refine ⟨k + 1, by omega, by simp, ?_, HY1.out.far (by omega) _ _ _ _, below_four HB1.out (by omega) _ _ _ _⟩
        rw [often_succ]
        exact HX1.out.put _
      case measure => simp [intOf]; omega
    · have hkn : k = n := by omega
      subst k
      obtain ⟨q0, q1, q2, q3⟩ := hy.cells
      have fz := hy.frozen
      obtain ⟨e0, e1, e2, e3⟩ := hy.four (.int .u32 (wi (often n x).a)) (.int .u32 (wi (often n x).b)) (.int .u32 (wi (often n x).c)) (.int .u32 (wi (often n x).d))
      have HB := Lib.hid hbel
      clear hx hy hbel
      go_wp2
      refine bodyPost_ret (v := .agg #[.int .u32 (wi (often n x).a), .int .u32 (wi (often n x).b), .int .u32 (wi (often n x).c), .int .u32 (wi (often n x).d)]) (by simp [results, Try.results70, go_sem, e0, e1, e2, e3]) rfl ⟨rfl, ?_⟩
      exact below_four HB.out (by omega) _ _ _ _

theorem m_number (A : Option Addr) (n c : Nat) (l : List UInt8) (w : World) (hn : (n : Int) ≤ 1000000000) (hc : n ≤ c) (hr : Rd w w.heap.size 1 A n (bvs l)) (h4 : 4 ≤ n) :
    Calls Try.prog 69 #[.slice A n c] w fun e w' => e = .returned (.int .u32 (wi (word l))) ∧ Below w.heap.size w w' := by
  have hg := fun W (h : Rd W W.heap.size 1 A n (bvs l)) => get_ok A n c 0 4 W l hn hc h (by omega) (by omega) (by omega) (by omega)
  simp only [Int.toNat_zero, List.drop_zero, show (4 : Int).toNat = 4 from rfl] at hg
  have hw := wi_word l
  rw [← hw] at hg
  obtain ⟨hw0, hw1⟩ := wi_lt (word l)
  have HG := Lib.hid hg
  have HR := Lib.hid hr
  clear hg hr hw
  go_enter Try.func69, Try.ntmps69
  go_wp2_with fail
  refine (HG.out _ HR.out).mono ?_
  rintro e w1 ⟨rfl, b1⟩
  have HB := Lib.hid b1
  clear b1
  go_wp2
  go_ret
  exact ⟨rfl, HB.out⟩

theorem m_clip (A : Option Addr) (n c : Nat) (hc : n ≤ c) (w : World) :
    Calls Try.prog 67 #[.slice A n c] w fun e w' => e = .returned (.slice A n n) ∧ w = w' := by
  go_enter Try.func67, Try.ntmps67
  go_wp2
  go_ret
  exact ⟨rfl, rfl⟩
theorem run_nil_eq (A : Option Addr) (n c : Nat) (w : World) : (binOp .eql 28 (.slice A n c) (.slice none 0 0)).run Try.prog w = .ok (.bool A.isNone) w := by
  have hu := Try.underlying28
  have h : ∀ d : Nat, (Op.equalIn (d + 1) 28 (.slice A n c) (.slice none 0 0)).run Try.prog w = .ok A.isNone w := fun d => by
    cases A <;> simp [Op.equalIn, run_underlying hu]
  have h2 := h 9999
  generalize A.isNone = b at *
  simp only [binOp, Op.equal, Op.maxDepth, Sem.run_bind, h2, Result.andThen_ok, Sem.run_pure]
theorem m_clone (A : Option Addr) (n c : Nat) (l : List UInt8) (w : World) (hl : l.length = n) (hn : (n : Int) ≤ 1000000000) (hr : Rd w w.heap.size 1 A n (bvs l)) :
    Calls Try.prog 57 #[.slice A n c] w fun e w' => ∃ A' c', e = .returned (.slice A' n c') ∧ Fr w' w.heap.size 5 1 A' n c' (bvs l) ∧ Below w.heap.size w w' := by
  cases A with
  | none =>
    have h0 : n = 0 := by
      by_cases h : n = 0
      · exact h
      · obtain ⟨b, off, u, h1, _⟩ := hr.at_ (k := 0) (by omega)
        cases h1
    subst h0
    obtain rfl : l = [] := by simpa using hl
    clear hr
    have hq := run_nil_eq
    go_enter Try.func57, Try.ntmps57
    go_wp2
    go_ret
    exact ⟨none, 0, rfl, Fr.none_, Below.refl _ _⟩
  | some a =>
    have hq := run_nil_eq
    go_enter Try.func57, Try.ntmps57
    go_wp2_with (at_builtin; refine wpList_append_to rfl (.tmp 5) (.tmp 6) rfl okB rfl (Fr.zero_ (base := w.heap.size)) rfl (hr.alloc (Nat.le_refl _) _) (bvs_one _) n (Nat.zero_add n) _ (List.nil_append _) (by unfold maxLen; omega) (by omega) (by simp) ?_; intro D d w1 f1 g1 _; have b1 : Below w.heap.size w w1 := ((Below.refl _ w).alloc (Nat.le_refl _) _).grown g1 (by simp) (by simp [rowOf_zero]); clear g1)
    go_ret
    exact ⟨D, d, rfl, f1, b1⟩
end Go.Proofs.Ytfjjkkakhfgdhaa
