/-
  Contracts below mix.four: often, number, slices.Clone, slices.Clip.
-/
import Derived.Test.YtoggpnncmgcgoaaMixT
import Derived.Test.YtoggpnncmgcgoaaGet
namespace Go.Proofs.Ytoggpnncmgcgoaa
open Go.RowKit
set_option linter.unusedVariables false
set_option maxRecDepth 100000

theorem Box4.put {w : World} {g : Nat} {t : TypeId} {x : W4} (h : Box4 w g t x) (y : W4) :
    Box4 ((((w.setCell ⟨g, 0, none⟩ (.int .u32 (wi y.a))).setCell ⟨g, 1, none⟩ (.int .u32 (wi y.b))).setCell ⟨g, 2, none⟩ (.int .u32 (wi y.c))).setCell ⟨g, 3, none⟩ (.int .u32 (wi y.d))) g t y :=
  Box4.set (Box4.set (Box4.set (Box4.set h 0 _) 1 _) 2 _) 3 _
theorem Box4.far {w : World} {g : Nat} {t : TypeId} {x : W4} (h : Box4 w g t x) {b : Nat} (hne : g ≠ b) (v0 v1 v2 v3 : Value) :
    Box4 ((((w.setCell ⟨b, 0, none⟩ v0).setCell ⟨b, 1, none⟩ v1).setCell ⟨b, 2, none⟩ v2).setCell ⟨b, 3, none⟩ v3) g t x := by
  unfold Box4
  rw [Below.heap_setCell _ _ _ _ (by simpa using hne), Below.heap_setCell _ _ _ _ (by simpa using hne), Below.heap_setCell _ _ _ _ (by simpa using hne), Below.heap_setCell _ _ _ _ (by simpa using hne)]
  exact h
theorem below_four {B b : Nat} {w w' : World} (h : Below B w w') (hb : B ≤ b) (v0 v1 v2 v3 : Value) :
    Below B w ((((w'.setCell ⟨b, 0, none⟩ v0).setCell ⟨b, 1, none⟩ v1).setCell ⟨b, 2, none⟩ v2).setCell ⟨b, 3, none⟩ v3) :=
  (((h.setCell hb _).setCell hb _).setCell hb _).setCell hb _
/-! ### plain -/
/-- The word of the first four bytes. -/
def word (l : List UInt8) : Wd := BitVec.ofNat 32 (num (l.take 4))
theorem num_lt4 (l : List UInt8) : num (l.take 4) < 4294967296 := by
  have h := num_lt (l.take 4)
  have h2 : 256 ^ (l.take 4).length ≤ 256 ^ 4 := Nat.pow_le_pow_right (by omega) (by rw [List.length_take]; omega)
  omega
theorem wi_word (l : List UInt8) : wi (word l) = (num (l.take 4) : Int) := by
  unfold wi word
  rw [BitVec.toNat_ofNat, Nat.mod_eq_of_lt (num_lt4 l)]

def OftRel (n : Nat) (x : W4) (w : World) (i : Value) (wr : World) : Prop :=
  ∃ k : Nat, k ≤ n ∧ i = .int .i64 k ∧ Box4 wr w.heap.size 84 (often k x) ∧ Box4 wr (w.heap.size + 1) 84 ⟨0, 0, 0, 0⟩ ∧ Below w.heap.size w wr
theorem m_often (x : W4) (n : Nat) (hn : n ≤ 1000000) (w : World) :
    Calls Try.prog 80 #[.agg #[.int .u32 (wi x.a), .int .u32 (wi x.b), .int .u32 (wi x.c), .int .u32 (wi x.d)], .int .i64 (n : Int)] w fun e w' =>
      e = .returned (.agg #[.int .u32 (wi (often n x).a), .int .u32 (wi (often n x).b), .int .u32 (wi (often n x).c), .int .u32 (wi (often n x).d)]) ∧ Below w.heap.size w w' := by
  go_enter Try.func80, Try.ntmps80
  go_wp2
  go_loopw [6] (fun i wr => OftRel n x w i wr) (fun i _ => n - (intOf i).toNat)
  case atStart =>
    have z1 : (w.alloc (.cells #[.int .u32 (wi x.a), .int .u32 (wi x.b), .int .u32 (wi x.c), .int .u32 (wi x.d)] 84)).heap.size = w.heap.size + 1 := by simp only [World.alloc, Array.size_push]
    refine ⟨0, Nat.zero_le _, rfl, (Box4.new w _ x).alloc _, ?_, ((Below.refl _ w).alloc (Nat.le_refl _) _).alloc (by rw [z1]; omega) _⟩
    have h := heap_alloc_new (w.alloc (.cells #[.int .u32 (wi x.a), .int .u32 (wi x.b), .int .u32 (wi x.c), .int .u32 (wi x.d)] 84)) (.cells #[.int .u32 0, .int .u32 0, .int .u32 0, .int .u32 0] 84)
    rw [z1] at h
    exact h
  case round =>
    obtain ⟨k, hk, rfl, hx, hy, hbel⟩ := hrel
    obtain ⟨y0, y1, y2, y3⟩ := hx.cells
    have hyl := hy.lt
    by_cases hlt : k < n
    · have h1 : (k : Int) < (n : Int) := by omega
      have h2 : 0 ≤ (k : Int) := by omega
      have HX := Lib.hid hx
      have HY := Lib.hid hy
      have HB := Lib.hid hbel
      clear hx hy hbel
      go_wp2_with fail
      refine (m_turn (often k x) _).mono ?_
      rintro e w1 ⟨rfl, b1⟩
      have hx1 := HX.out.below b1 (by omega)
      have hy1 := HY.out.below b1 (by omega)
      obtain ⟨q0, q1, q2, q3⟩ := hx1.cells
      have fz := hx1.frozen
      have HX1 := Lib.hid hx1
      have HY1 := Lib.hid hy1
      have HB1 := Lib.hid (HB.out.trans (below_mono b1 (by omega)))
      clear hx1 hy1 b1 y0 y1 y2 y3
      go_wp2
      go_roundw
      case rel =>
        refine ⟨k + 1, by omega, by simp, ?_, HY1.out.far (by omega) _ _ _ _, below_four HB1.out (by omega) _ _ _ _⟩
        rw [often_succ]
        exact HX1.out.put _
      case measure => simp [intOf]; omega
    · have hkn : k = n := by omega
      subst k
      obtain ⟨q0, q1, q2, q3⟩ := hy.cells
      have fz := hy.frozen
      obtain ⟨e0, e1, e2, e3⟩ := hy.four (.int .u32 (wi (often n x).a)) (.int .u32 (wi (often n x).b)) (.int .u32 (wi (often n x).c)) (.int .u32 (wi (often n x).d))
      have HB := Lib.hid hbel
      clear hx hy hbel
      go_wp2
      refine bodyPost_ret (v := .agg #[.int .u32 (wi (often n x).a), .int .u32 (wi (often n x).b), .int .u32 (wi (often n x).c), .int .u32 (wi (often n x).d)]) (by simp [results, Try.results80, go_sem, e0, e1, e2, e3]) rfl ⟨rfl, ?_⟩
      exact below_four HB.out (by omega) _ _ _ _

theorem m_number (A : Option Addr) (n c : Nat) (l : List UInt8) (w : World) (hn : (n : Int) ≤ 1000000000) (hc : n ≤ c) (hr : Rd w w.heap.size 1 A n (bvs l)) (h4 : 4 ≤ n) :
    Calls Try.prog 79 #[.slice A n c] w fun e w' => e = .returned (.int .u32 (wi (word l))) ∧ Below w.heap.size w w' := by
  have hg := fun W (h : Rd W W.heap.size 1 A n (bvs l)) => get_ok A n c 0 4 W l hn hc h (by omega) (by omega) (by omega) (by omega)
  simp only [Int.toNat_zero, List.drop_zero, show (4 : Int).toNat = 4 from rfl] at hg
  have hw := wi_word l
  rw [← hw] at hg
  obtain ⟨hw0, hw1⟩ := wi_lt (word l)
  have HG := Lib.hid hg
  have HR := Lib.hid hr
  clear hg hr hw
  go_enter Try.func79, Try.ntmps79
  go_wp2_with fail
  refine (HG.out _ HR.out).mono ?_
  rintro e w1 ⟨rfl, b1⟩
  have HB := Lib.hid b1
  clear b1
  go_wp2
  go_ret
  exact ⟨rfl, HB.out⟩

theorem m_clip (A : Option Addr) (n c : Nat) (hc : n ≤ c) (w : World) :
    Calls Try.prog 78 #[.slice A n c] w fun e w' => e = .returned (.slice A n n) ∧ w = w' := by
  go_enter Try.func78, Try.ntmps78
  go_wp2
  go_ret
  exact ⟨rfl, rfl⟩
theorem run_nil_eq (A : Option Addr) (n c : Nat) (w : World) : (binOp .eql 22 (.slice A n c) (.slice none 0 0)).run Try.prog w = .ok (.bool A.isNone) w := by
  have hu := Try.underlying22
  have h : ∀ d : Nat, (Op.equalIn (d + 1) 22 (.slice A n c) (.slice none 0 0)).run Try.prog w = .ok A.isNone w := fun d => by
    cases A <;> simp [Op.equalIn, run_underlying hu]
  have h2 := h 9999
  generalize A.isNone = b at *
  simp only [binOp, Op.equal, Op.maxDepth, Sem.run_bind, h2, Result.andThen_ok, Sem.run_pure]
theorem m_clone (A : Option Addr) (n c : Nat) (l : List UInt8) (w : World) (hl : l.length = n) (hn : (n : Int) ≤ 1000000000) (hr : Rd w w.heap.size 1 A n (bvs l)) :
    Calls Try.prog 60 #[.slice A n c] w fun e w' => ∃ A' c', e = .returned (.slice A' n c') ∧ Fr w' w.heap.size 5 1 A' n c' (bvs l) ∧ Below w.heap.size w w' := by
  cases A with
  | none =>
    have h0 : n = 0 := by
      by_cases h : n = 0
      · exact h
      · obtain ⟨b, off, u, h1, _⟩ := hr.at_ (k := 0) (by omega)
        cases h1
    subst h0
    obtain rfl : l = [] := by simpa using hl
    clear hr
    have hq := run_nil_eq
    go_enter Try.func60, Try.ntmps60
    go_wp2
    go_ret
    exact ⟨none, 0, rfl, Fr.none_, Below.refl _ _⟩
  | some a =>
    have hq := run_nil_eq
    go_enter Try.func60, Try.ntmps60
    go_wp2_with (at_builtin; refine wpList_append_to rfl (.tmp 5) (.tmp 6) rfl okB rfl (Fr.zero_ (base := w.heap.size)) rfl (hr.alloc (Nat.le_refl _) _) (bvs_one _) n (Nat.zero_add n) _ (List.nil_append _) (by unfold maxLen; omega) (by omega) (by simp) ?_; intro D d w1 f1 g1 _; have b1 : Below w.heap.size w w1 := ((Below.refl _ w).alloc (Nat.le_refl _) _).grown g1 (by simp) (by simp [rowOf_zero]); clear g1)
    go_ret
    exact ⟨D, d, rfl, f1, b1⟩
end Go.Proofs.Ytoggpnncmgcgoaa
