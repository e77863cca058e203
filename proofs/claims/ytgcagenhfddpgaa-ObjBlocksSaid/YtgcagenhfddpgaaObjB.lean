/-
  Contracts of package obj: Same.
-/
import Derived.Test.YtgcagenhfddpgaaObjA
namespace Go.Proofs.Ytgcagenhfddpgaa
open Go.RowKit
set_option linter.unusedVariables false
set_option maxRecDepth 100000

theorem take_step_eq {l m : List Pt} {k : Nat} (h1 : k < l.length) (h2 : k < m.length) (h : l.take k = m.take k) (he : l[k] = m[k]) : l.take (k + 1) = m.take (k + 1) := by
  rw [List.take_succ_eq_append_getElem h1, List.take_succ_eq_append_getElem h2, h, he]
def EqRel (l m : List Pt) (w : World) (x : Value) (wr : World) : Prop := ∃ k N : Nat, k ≤ l.length ∧ x = .int .i64 (k : Int) ∧ l.take k = m.take k ∧ wr = w.drewN N
theorem equal_no (A : Option Addr) (n c : Nat) (D : Option Addr) (m d : Nat) (w : World) (h : ((n : Int) != (m : Int)) = true) :
    Calls Try.prog 60 #[.slice A n c, .slice D m d] w fun e w' => e = .returned (.bool false) ∧ w = w' := by
  go_enter Try.func60, Try.ntmps60
  go_wp2
  go_ret
  exact ⟨rfl, rfl⟩
theorem equal_len (A : Option Addr) (n c : Nat) (l : List Pt) (D : Option Addr) (d : Nat) (l2 : List Pt) (w : World) (hl : l.length = n) (hn : (n : Int) ≤ 1000000) (hr : Rd w w.heap.size 5 A n (pcs l)) (hl2 : l2.length = n) (hr2 : Rd w w.heap.size 5 D n (pcs l2)) (v : Bool) (hv : v = decide (l = l2)) :
    Calls Try.prog 60 #[.slice A n c, .slice D n d] w fun e w' => e = .returned (.bool v) ∧ Below w.heap.size w w' := by
  go_enter Try.func60, Try.ntmps60
  go_wp2
  go_loopw [13] (fun x wr => EqRel l l2 w x wr) (fun x _ => n - (intOf x).toNat)
  case atStart => exact ⟨0, 0, Nat.zero_le _, rfl, rfl, rfl⟩
  case round =>
    obtain ⟨k, N, hk, rfl, hm, rfl⟩ := hrel
    by_cases hlt : k < n
    · have hkl : k < l.length := by omega
      have hkl2 : k < l2.length := by omega
      obtain ⟨b, off, rfl, hbb, c0, c1, c2, c3, c4⟩ := hr.at5 hlt hl
      obtain ⟨b', off', rfl, hbb', d0, d1, d2, d3, d4⟩ := hr2.at5 hlt hl2
      have hst := take_step_eq hkl hkl2 hm
      have hbad : l[k] ≠ l2[k] → v = false := by
        intro h
        rw [hv]
        simp only [decide_eq_false_iff_not]
        rintro rfl
        exact h rfl
      have h0 : ¬ ((k : Int) < 0) := by omega
      have h1 : (k : Int) < (n : Int) := by omega
      have HS := Lib.hid hst
      have HD := Lib.hid hbad
      clear hst hbad hm hbb hbb' hv
      generalize l[k] = p at *
      generalize l2[k] = q at *
      by_cases hpq : p = q
      · subst hpq
        have hq := fun W => run_pt_ne p p true p.eq_self W
        have HM := Lib.hid (HS.out rfl)
        go_wp2
        go_quiet (fail)
        go_wp2
        go_roundw
        case rel => exact ⟨k + 1, _, by omega, rfl, HM.out, rfl⟩
        case measure => simp [intOf]; omega
      · have hq := fun W => run_pt_ne p q false (by
          have := mt (Pt.eq_iff p q).1 hpq
          simpa using this) W
        obtain rfl := HD.out hpq
        go_wp2
        go_quiet (fail)
        go_wp2
        go_ret
        exact ⟨rfl, below_drewN (below_drewN (Below.refl _ _) _) _⟩
    · obtain rfl : k = n := by omega
      rw [List.take_of_length_le (by omega), List.take_of_length_le (by omega)] at hm
      obtain rfl : v = true := by rw [hv]; simp [hm]
      go_wp2
      go_ret
      exact ⟨rfl, below_drewN (Below.refl _ _) _⟩
theorem equal_pts (A : Option Addr) (n c : Nat) (l : List Pt) (D : Option Addr) (m d : Nat) (l2 : List Pt) (w : World) (hl : l.length = n) (hn : (n : Int) ≤ 1000000) (hr : Rd w w.heap.size 5 A n (pcs l)) (hl2 : l2.length = m) (hr2 : Rd w w.heap.size 5 D m (pcs l2)) (v : Bool) (hv : v = decide (l = l2)) :
    Calls Try.prog 60 #[.slice A n c, .slice D m d] w fun e w' => e = .returned (.bool v) ∧ Below w.heap.size w w' := by
  by_cases h : n = m
  · subst h
    exact equal_len A n c l D d l2 w hl hn hr hl2 hr2 v hv
  · obtain rfl : v = false := by
      rw [hv]
      simp only [decide_eq_false_iff_not]
      rintro rfl
      omega
    refine (equal_no A n c D m d w (by simp; omega)).mono ?_
    rintro e w' ⟨rfl, rfl⟩
    exact ⟨rfl, Below.refl _ _⟩

theorem obj_same_k (K L S : Int) (A : Option Addr) (n c : Nat) (l : List Pt) (K' L' S' : Int) (D : Option Addr) (m d : Nat) (l2 : List Pt) (w : World) (hl : l.length = n) (hn : (n : Int) ≤ 1000000) (hr : Rd w w.heap.size 5 A n (pcs l)) (hl2 : l2.length = m) (hr2 : Rd w w.heap.size 5 D m (pcs l2))
    (h1 : (K == K') = false) (v : Bool) (hv : v = false)
    : Calls Try.prog 39 #[.agg #[.int .u8 K, .int .i64 L, .int .i64 S, .slice A n c], .agg #[.int .u8 K', .int .i64 L', .int .i64 S', .slice D m d]] w fun e w' => e = .returned (.bool v) ∧ Below w.heap.size w w' := by
  subst hv
  have hx := (ObBox.new w K L S (.slice A n c)).alloc (.cells #[.int .u8 K', .int .i64 L', .int .i64 S', .slice D m d] 50)
  have hy := ObBox.new (w.alloc (.cells #[.int .u8 K, .int .i64 L, .int .i64 S, .slice A n c] 50)) K' L' S' (.slice D m d)
  rw [World.size_alloc] at hy
  have hb := below_alloc (below_new w (.cells #[.int .u8 K, .int .i64 L, .int .i64 S, .slice A n c] 50)) (.cells #[.int .u8 K', .int .i64 L', .int .i64 S', .slice D m d] 50) (Nat.le_refl _)
  obtain ⟨c0, c1, c2, c3⟩ := hx.cells
  obtain ⟨d0, d1, d2, d3⟩ := hy.cells
  have HB := Lib.hid hb
  clear hb hr hl hx hy hr2 hl2
  go_enter Try.func39, Try.ntmps39
  go_wp2
  go_ret
  exact ⟨rfl, HB.out⟩
theorem obj_same_l (K L S : Int) (A : Option Addr) (n c : Nat) (l : List Pt) (K' L' S' : Int) (D : Option Addr) (m d : Nat) (l2 : List Pt) (w : World) (hl : l.length = n) (hn : (n : Int) ≤ 1000000) (hr : Rd w w.heap.size 5 A n (pcs l)) (hl2 : l2.length = m) (hr2 : Rd w w.heap.size 5 D m (pcs l2))
    (h1 : K = K')
    (h2 : (L == L') = false) (v : Bool) (hv : v = false)
    : Calls Try.prog 39 #[.agg #[.int .u8 K, .int .i64 L, .int .i64 S, .slice A n c], .agg #[.int .u8 K', .int .i64 L', .int .i64 S', .slice D m d]] w fun e w' => e = .returned (.bool v) ∧ Below w.heap.size w w' := by
  subst hv
  subst h1
  have hx := (ObBox.new w K L S (.slice A n c)).alloc (.cells #[.int .u8 K, .int .i64 L', .int .i64 S', .slice D m d] 50)
  have hy := ObBox.new (w.alloc (.cells #[.int .u8 K, .int .i64 L, .int .i64 S, .slice A n c] 50)) K L' S' (.slice D m d)
  rw [World.size_alloc] at hy
  have hb := below_alloc (below_new w (.cells #[.int .u8 K, .int .i64 L, .int .i64 S, .slice A n c] 50)) (.cells #[.int .u8 K, .int .i64 L', .int .i64 S', .slice D m d] 50) (Nat.le_refl _)
  obtain ⟨c0, c1, c2, c3⟩ := hx.cells
  obtain ⟨d0, d1, d2, d3⟩ := hy.cells
  have HB := Lib.hid hb
  clear hb hr hl hx hy hr2 hl2
  go_enter Try.func39, Try.ntmps39
  go_wp2
  go_ret
  exact ⟨rfl, HB.out⟩
theorem obj_same_s (K L S : Int) (A : Option Addr) (n c : Nat) (l : List Pt) (K' L' S' : Int) (D : Option Addr) (m d : Nat) (l2 : List Pt) (w : World) (hl : l.length = n) (hn : (n : Int) ≤ 1000000) (hr : Rd w w.heap.size 5 A n (pcs l)) (hl2 : l2.length = m) (hr2 : Rd w w.heap.size 5 D m (pcs l2))
    (h1 : K = K')
    (h2 : L = L')
    (h3 : (S == S') = false) (v : Bool) (hv : v = false)
    : Calls Try.prog 39 #[.agg #[.int .u8 K, .int .i64 L, .int .i64 S, .slice A n c], .agg #[.int .u8 K', .int .i64 L', .int .i64 S', .slice D m d]] w fun e w' => e = .returned (.bool v) ∧ Below w.heap.size w w' := by
  subst hv
  subst h1
  subst h2
  have hx := (ObBox.new w K L S (.slice A n c)).alloc (.cells #[.int .u8 K, .int .i64 L, .int .i64 S', .slice D m d] 50)
  have hy := ObBox.new (w.alloc (.cells #[.int .u8 K, .int .i64 L, .int .i64 S, .slice A n c] 50)) K L S' (.slice D m d)
  rw [World.size_alloc] at hy
  have hb := below_alloc (below_new w (.cells #[.int .u8 K, .int .i64 L, .int .i64 S, .slice A n c] 50)) (.cells #[.int .u8 K, .int .i64 L, .int .i64 S', .slice D m d] 50) (Nat.le_refl _)
  obtain ⟨c0, c1, c2, c3⟩ := hx.cells
  obtain ⟨d0, d1, d2, d3⟩ := hy.cells
  have HB := Lib.hid hb
  clear hb hr hl hx hy hr2 hl2
  go_enter Try.func39, Try.ntmps39
  go_wp2
  go_ret
  exact ⟨rfl, HB.out⟩
theorem obj_same_d (K L S : Int) (A : Option Addr) (n c : Nat) (l : List Pt) (K' L' S' : Int) (D : Option Addr) (m d : Nat) (l2 : List Pt) (w : World) (hl : l.length = n) (hn : (n : Int) ≤ 1000000) (hr : Rd w w.heap.size 5 A n (pcs l)) (hl2 : l2.length = m) (hr2 : Rd w w.heap.size 5 D m (pcs l2))
    (h1 : K = K')
    (h2 : L = L')
    (h3 : S = S') (v : Bool) (hv : v = decide (l = l2))
    : Calls Try.prog 39 #[.agg #[.int .u8 K, .int .i64 L, .int .i64 S, .slice A n c], .agg #[.int .u8 K', .int .i64 L', .int .i64 S', .slice D m d]] w fun e w' => e = .returned (.bool v) ∧ Below w.heap.size w w' := by
  subst h1
  subst h2
  subst h3
  have hcf := fun W (h : Below w.heap.size w W) => equal_pts A n c l D m d l2 W hl hn ((hr.below h).more h.size) hl2 ((hr2.below h).more h.size) v hv
  have HCF := Lib.hid hcf
  clear hcf hv
  have hx := (ObBox.new w K L S (.slice A n c)).alloc (.cells #[.int .u8 K, .int .i64 L, .int .i64 S, .slice D m d] 50)
  have hy := ObBox.new (w.alloc (.cells #[.int .u8 K, .int .i64 L, .int .i64 S, .slice A n c] 50)) K L S (.slice D m d)
  rw [World.size_alloc] at hy
  have hb := below_alloc (below_new w (.cells #[.int .u8 K, .int .i64 L, .int .i64 S, .slice A n c] 50)) (.cells #[.int .u8 K, .int .i64 L, .int .i64 S, .slice D m d] 50) (Nat.le_refl _)
  obtain ⟨c0, c1, c2, c3⟩ := hx.cells
  obtain ⟨d0, d1, d2, d3⟩ := hy.cells
  have HB := Lib.hid hb
  clear hb hr hl hx hy hr2 hl2
  go_enter Try.func39, Try.ntmps39
  go_wp2_with fail
  refine (HCF.out _ HB.out).mono ?_
  rintro e w1 ⟨rfl, b1⟩
  go_wp2
  go_ret
  exact ⟨rfl, below_to HB.out b1 HB.out.size⟩
theorem obj_same (K L S : Int) (A : Option Addr) (n c : Nat) (l : List Pt) (K' L' S' : Int) (D : Option Addr) (m d : Nat) (l2 : List Pt) (w : World) (hl : l.length = n) (hn : (n : Int) ≤ 1000000) (hr : Rd w w.heap.size 5 A n (pcs l)) (hl2 : l2.length = m) (hr2 : Rd w w.heap.size 5 D m (pcs l2)) (v : Bool) (hv : v = decide (K = K' ∧ L = L' ∧ S = S' ∧ l = l2)) :
    Calls Try.prog 39 #[.agg #[.int .u8 K, .int .i64 L, .int .i64 S, .slice A n c], .agg #[.int .u8 K', .int .i64 L', .int .i64 S', .slice D m d]] w fun e w' => e = .returned (.bool v) ∧ Below w.heap.size w w' := by
  by_cases h1 : K = K'
  · by_cases h2 : L = L'
    · by_cases h3 : S = S'
      · exact obj_same_d K L S A n c l K' L' S' D m d l2 w hl hn hr hl2 hr2 h1 h2 h3 v (by rw [hv]; simp [h1, h2, h3])
      · exact obj_same_s K L S A n c l K' L' S' D m d l2 w hl hn hr hl2 hr2 h1 h2 (by simp [h3]) v (by rw [hv]; simp [h3])
    · exact obj_same_l K L S A n c l K' L' S' D m d l2 w hl hn hr hl2 hr2 h1 (by simp [h2]) v (by rw [hv]; simp [h2])
  · exact obj_same_k K L S A n c l K' L' S' D m d l2 w hl hn hr hl2 hr2 (by simp [h1]) v (by rw [hv]; simp [h1])
end Go.Proofs.Ytgcagenhfddpgaa
