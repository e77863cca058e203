/-
  Walks of the statements of package mix: alive, MixBack, MixOften.
-/
import Derived.Test.YtfjjkkakhfgdhaaMixT
import Derived.ChangeKeysEq
namespace Go.Proofs.Ytfjjkkakhfgdhaa
open Go.RowKit
set_option linter.unusedVariables false
set_option maxRecDepth 100000

theorem run_four_in (w : World) (a b c d a' b' c' d' : Int) :
    (Op.equalIn 10000 23 (.agg #[.int .u32 a, .int .u32 b, .int .u32 c, .int .u32 d]) (.agg #[.int .u32 a', .int .u32 b', .int .u32 c', .int .u32 d'])).run Try.prog w = .ok ((a == a') && ((b == b') && ((c == c') && (d == d')))) w := by
  obtain ⟨i, hi⟩ := Option.isSome_iff_exists.1 (by kernel_rfl : (Try.prog.info? 22).isSome = true)
  have hc : Try.prog.cellsOf 22 = 1 := by kernel_rfl
  have hq : ∀ (d : Nat) (a b : Int) (w : World), (Op.equalIn (d + 1) 22 (.int .u32 a) (.int .u32 b)).run Try.prog w = .ok (a == b) w := fun d a b w => run_equalIn_int w d _ _ _ a b Try.underlying22
  rw [show (10000 : Nat) = 9999 + 1 from rfl, run_equalIn_array w 9999 _ _ Try.underlying23 hi, hc]
  have hr : List.range 4 = [0, 1, 2, 3] := by decide
  rw [hr]
  have hp0 : ∀ (w : World) (v0 v1 v2 v3 : Int) (k : Nat) (v : Int), #[Value.int .u32 v0, .int .u32 v1, .int .u32 v2, .int .u32 v3][k]? = some (Value.int .u32 v) → (part 22 #[Value.int .u32 v0, .int .u32 v1, .int .u32 v2, .int .u32 v3] k).run Try.prog w = .ok (.int .u32 v) w := by
    intro w v0 v1 v2 v3 k v hk
    simp [go_sem, hk]
  have p0 : ∀ (w : World) (v0 v1 v2 v3 : Int), (part 22 #[Value.int .u32 v0, .int .u32 v1, .int .u32 v2, .int .u32 v3] 0).run Try.prog w = .ok (.int .u32 v0) w := fun w v0 v1 v2 v3 => hp0 w v0 v1 v2 v3 0 v0 rfl
  have p1 : ∀ (w : World) (v0 v1 v2 v3 : Int), (part 22 #[Value.int .u32 v0, .int .u32 v1, .int .u32 v2, .int .u32 v3] 1).run Try.prog w = .ok (.int .u32 v1) w := fun w v0 v1 v2 v3 => hp0 w v0 v1 v2 v3 1 v1 rfl
  have p2 : ∀ (w : World) (v0 v1 v2 v3 : Int), (part 22 #[Value.int .u32 v0, .int .u32 v1, .int .u32 v2, .int .u32 v3] 2).run Try.prog w = .ok (.int .u32 v2) w := fun w v0 v1 v2 v3 => hp0 w v0 v1 v2 v3 2 v2 rfl
  have p3 : ∀ (w : World) (v0 v1 v2 v3 : Int), (part 22 #[Value.int .u32 v0, .int .u32 v1, .int .u32 v2, .int .u32 v3] 3).run Try.prog w = .ok (.int .u32 v3) w := fun w v0 v1 v2 v3 => hp0 w v0 v1 v2 v3 3 v3 rfl
  clear hp0
  by_cases h1 : a = a' <;> by_cases h2 : b = b' <;> by_cases h3 : c = c' <;> by_cases h4 : d = d' <;> simp [Op.eqItems, p0, p1, p2, p3, hq, h1, h2, h3, h4]
theorem run_four_eq (w : World) (a b c d a' b' c' d' : Int) :
    (binOp .eql 23 (.agg #[.int .u32 a, .int .u32 b, .int .u32 c, .int .u32 d]) (.agg #[.int .u32 a', .int .u32 b', .int .u32 c', .int .u32 d'])).run Try.prog w = .ok (.bool ((a == a') && ((b == b') && ((c == c') && (d == d'))))) w := by
  simp [go_sem, run_four_in]

theorem alive02 (w : World) : Calls Try.prog 21 #[] w fun e w' => e = .returned (.bool true) ∧ Below w.heap.size w w' := by
  have q0 : ∀ w, Calls Try.prog 23 #[.agg #[.int .u32 0, .int .u32 0, .int .u32 0, .int .u32 0]] w fun e w' =>
      e = .returned (.agg #[.int .u32 0, .int .u32 0, .int .u32 0, .int .u32 0]) ∧ Below w.heap.size w w' := fun w => x_turn ⟨0, 0, 0, 0⟩ w
  have q1 : ∀ w, Calls Try.prog 23 #[.agg #[.int .u32 0, .int .u32 0, .int .u32 0, .int .u32 1]] w fun e w' =>
      e = .returned (.agg #[.int .u32 67108864, .int .u32 1075839489, .int .u32 16809992, .int .u32 16777224]) ∧ Below w.heap.size w w' := fun w => x_turn ⟨0, 0, 0, 1⟩ w
  have hq := run_four_in
  have hq' := run_four_eq
  go_enter Try.func21, Try.ntmps21
  go_wp2_with fail
  refine (q0 _).mono ?_
  rintro e w1 ⟨rfl, b1⟩
  have H1 := Lib.hid b1
  clear b1
  go_wp2_with fail
  refine (q1 _).mono ?_
  rintro e w2 ⟨rfl, b2⟩
  have H2 := Lib.hid b2
  clear b2
  go_wp2_with fail
  go_ret
  exact ⟨rfl, H1.out.trans (below_mono H2.out H1.out.size)⟩
/-- Four words in a box that nobody turns. -/
theorem keepBox {W w1 w2 : World} {B g : Nat} {p0 p1 p2 p3 : Value} (h : (w1.cell? ⟨g, 0, none⟩ = some p0 ∧ w1.cell? ⟨g, 1, none⟩ = some p1 ∧ w1.cell? ⟨g, 2, none⟩ = some p2 ∧ w1.cell? ⟨g, 3, none⟩ = some p3) ∧ Below B W w1) (hb : Below w1.heap.size w1 w2) (hg : g < B) (hB : B ≤ W.heap.size) :
    (w2.cell? ⟨g, 0, none⟩ = some p0 ∧ w2.cell? ⟨g, 1, none⟩ = some p1 ∧ w2.cell? ⟨g, 2, none⟩ = some p2 ∧ w2.cell? ⟨g, 3, none⟩ = some p3) ∧ Below B W w2 := by
  have hs := h.2.size
  have hc : ∀ i, w2.cell? ⟨g, i, none⟩ = w1.cell? ⟨g, i, none⟩ := fun i => hb.cell (by show g < _; omega)
  rw [hc, hc, hc, hc]
  exact ⟨h.1, h.2.trans (below_mono hb (by omega))⟩
theorem keepBox2 {W w1 w2 : World} {B g g' : Nat} {p0 p1 p2 p3 q0 q1 q2 q3 : Value} (h : ((w1.cell? ⟨g, 0, none⟩ = some p0 ∧ w1.cell? ⟨g, 1, none⟩ = some p1 ∧ w1.cell? ⟨g, 2, none⟩ = some p2 ∧ w1.cell? ⟨g, 3, none⟩ = some p3) ∧ (w1.cell? ⟨g', 0, none⟩ = some q0 ∧ w1.cell? ⟨g', 1, none⟩ = some q1 ∧ w1.cell? ⟨g', 2, none⟩ = some q2 ∧ w1.cell? ⟨g', 3, none⟩ = some q3)) ∧ Below B W w1) (hb : Below w1.heap.size w1 w2) (hg : g < B) (hg' : g' < B) (hB : B ≤ W.heap.size) :
    ((w2.cell? ⟨g, 0, none⟩ = some p0 ∧ w2.cell? ⟨g, 1, none⟩ = some p1 ∧ w2.cell? ⟨g, 2, none⟩ = some p2 ∧ w2.cell? ⟨g, 3, none⟩ = some p3) ∧ (w2.cell? ⟨g', 0, none⟩ = some q0 ∧ w2.cell? ⟨g', 1, none⟩ = some q1 ∧ w2.cell? ⟨g', 2, none⟩ = some q2 ∧ w2.cell? ⟨g', 3, none⟩ = some q3)) ∧ Below B W w2 :=
  have h1 := keepBox ⟨h.1.1, h.2⟩ hb hg hB
  have h2 := keepBox ⟨h.1.2, h.2⟩ hb hg' hB
  ⟨⟨h1.1, h2.1⟩, h1.2⟩
theorem mixBack_walk (x : W4) (w : World) : Calls Try.prog 3 #[.agg #[.int .u32 (wi x.a), .int .u32 (wi x.b), .int .u32 (wi x.c), .int .u32 (wi x.d)]] w fun e w' => e = .returned (.bool true) ∧ Below w.heap.size w w' := by
  have q0 := fun w => x_turn x w
  have q1 := fun w => x_unturn x w
  have q2 := fun w => x_unturn (turn x) w
  have q3 := fun w => x_turn (unturn x) w
  rw [unturn_turn] at q2
  rw [turn_unturn] at q3
  generalize turn x = y at *
  generalize unturn x = z at *
  have r0 := Box4.new w 23 x
  obtain ⟨c0, c1, c2, c3⟩ := r0.cells
  have hb : Below (w.heap.size + 1) (w.alloc (.cells #[.int .u32 (wi x.a), .int .u32 (wi x.b), .int .u32 (wi x.c), .int .u32 (wi x.d)] 23)) (w.alloc (.cells #[.int .u32 (wi x.a), .int .u32 (wi x.b), .int .u32 (wi x.c), .int .u32 (wi x.d)] 23)) := Below.refl _ _
  have ho : Below w.heap.size w (w.alloc (.cells #[.int .u32 (wi x.a), .int .u32 (wi x.b), .int .u32 (wi x.c), .int .u32 (wi x.d)] 23)) := (Below.refl _ w).alloc (Nat.le_refl _) _
  have hz : w.heap.size + 1 ≤ (w.alloc (.cells #[.int .u32 (wi x.a), .int .u32 (wi x.b), .int .u32 (wi x.c), .int .u32 (wi x.d)] 23)).heap.size := by simp only [World.alloc, Array.size_push]; omega
  have HO := Lib.hid ho
  have HZ := Lib.hid hz
  clear r0 ho hz
  have hq := run_four_in
  have hq' := run_four_eq
  go_enter Try.func3, Try.ntmps3
  go_wp2_with fail
  generalize (w.alloc (.cells #[.int .u32 (wi x.a), .int .u32 (wi x.b), .int .u32 (wi x.c), .int .u32 (wi x.d)] 23)) = W at *
  go_region_held3 (fun w' => (w'.cell? ⟨w.heap.size, 0, none⟩ = some (.int .u32 (wi x.a)) ∧ w'.cell? ⟨w.heap.size, 1, none⟩ = some (.int .u32 (wi x.b)) ∧ w'.cell? ⟨w.heap.size, 2, none⟩ = some (.int .u32 (wi x.c)) ∧ w'.cell? ⟨w.heap.size, 3, none⟩ = some (.int .u32 (wi x.d))) ∧ Below (w.heap.size + 1) W w')
    (first
      | exact ⟨⟨c0, c1, c2, c3⟩, ⟨hb.os, hb.tape, hb.output, hb.size, hb.block⟩⟩
      | exact keepBox (by assumption) hbb (Nat.lt_succ_self _) HZ.out
      | assumption)
    (first
      | (go_at_call 21; refine (alive02 _).mono ?_; rintro e w' ⟨rfl, hbb⟩)
      | (go_at_call 23; refine (q0 _).mono ?_; rintro e w' ⟨rfl, hbb⟩)
      | (go_at_call 22; refine (q1 _).mono ?_; rintro e w' ⟨rfl, hbb⟩)
      | (go_at_call 22; refine (q2 _).mono ?_; rintro e w' ⟨rfl, hbb⟩)
      | (go_at_call 23; refine (q3 _).mono ?_; rintro e w' ⟨rfl, hbb⟩))
  rename_i hh
  have h := HO.out.trans (below_mono hh.2 (Nat.le_succ _))
  go_wp2
  go_ret
  exact ⟨rfl, h⟩

theorem Box4.put {w : World} {g : Nat} {t : TypeId} {x : W4} (h : Box4 w g t x) (y : W4) :
    Box4 ((((w.setCell ⟨g, 0, none⟩ (.int .u32 (wi y.a))).setCell ⟨g, 1, none⟩ (.int .u32 (wi y.b))).setCell ⟨g, 2, none⟩ (.int .u32 (wi y.c))).setCell ⟨g, 3, none⟩ (.int .u32 (wi y.d))) g t y :=
  Box4.set (Box4.set (Box4.set (Box4.set h 0 _) 1 _) 2 _) 3 _
theorem Box4.far {w : World} {g : Nat} {t : TypeId} {x : W4} (h : Box4 w g t x) {b : Nat} (hne : g ≠ b) (v0 v1 v2 v3 : Value) :
    Box4 ((((w.setCell ⟨b, 0, none⟩ v0).setCell ⟨b, 1, none⟩ v1).setCell ⟨b, 2, none⟩ v2).setCell ⟨b, 3, none⟩ v3) g t x := by
  unfold Box4
  rw [Below.heap_setCell _ _ _ _ (by simpa using hne), Below.heap_setCell _ _ _ _ (by simpa using hne), Below.heap_setCell _ _ _ _ (by simpa using hne), Below.heap_setCell _ _ _ _ (by simpa using hne)]
  exact h
theorem below_four {B b : Nat} {w w' : World} (h : Below B w w') (hb : B ≤ b) (v0 v1 v2 v3 : Value) :
    Below B w ((((w'.setCell ⟨b, 0, none⟩ v0).setCell ⟨b, 1, none⟩ v1).setCell ⟨b, 2, none⟩ v2).setCell ⟨b, 3, none⟩ v3) :=
  (((h.setCell hb _).setCell hb _).setCell hb _).setCell hb _
theorem unturn_often (n : Nat) (x : W4) : unturn (often (n + 1) x) = often n x := by rw [often_succ, unturn_turn]
def OftenRel (n : Nat) (x : W4) (w : World) (i : Value) (wr : World) : Prop :=
  ∃ k : Nat, k ≤ n ∧ i = .int .i64 k ∧ Box4 wr w.heap.size 23 x ∧ Box4 wr (w.heap.size + 1) 23 (often k x) ∧ Below w.heap.size w wr
def BackRel (n : Nat) (x : W4) (w : World) (i : Value) (wr : World) : Prop :=
  ∃ k : Nat, k ≤ n ∧ i = .int .i64 k ∧ Box4 wr w.heap.size 23 x ∧ Box4 wr (w.heap.size + 1) 23 (often (n - k) x) ∧ Below w.heap.size w wr
theorem mixOften_walk (x : W4) (n : Nat) (hn : n ≤ 255) (w : World) : Calls Try.prog 4 #[.agg #[.int .u32 (wi x.a), .int .u32 (wi x.b), .int .u32 (wi x.c), .int .u32 (wi x.d)], .int .u8 (n : Int)] w fun e w' => e = .returned (.bool true) ∧ Below w.heap.size w w' := by
  have hq := run_four_in
  have hq' := run_four_eq
  go_enter Try.func4, Try.ntmps4
  go_wp2
  go_loopw [6] (fun i wr => OftenRel n x w i wr) (fun i _ => n - (intOf i).toNat)
  case atStart =>
    have z1 : (w.alloc (.cells #[.int .u32 (wi x.a), .int .u32 (wi x.b), .int .u32 (wi x.c), .int .u32 (wi x.d)] 23)).heap.size = w.heap.size + 1 := by simp only [World.alloc, Array.size_push]
    refine ⟨0, Nat.zero_le _, rfl, (Box4.new w _ x).alloc _, ?_, ((Below.refl _ w).alloc (Nat.le_refl _) _).alloc (by rw [z1]; omega) _⟩
    have := Box4.new (w.alloc (.cells #[.int .u32 (wi x.a), .int .u32 (wi x.b), .int .u32 (wi x.c), .int .u32 (wi x.d)] 23)) 23 x
    rw [z1] at this
    exact this
  case round =>
    obtain ⟨k, hk, rfl, hx, hy, hbel⟩ := hrel
    obtain ⟨y0, y1, y2, y3⟩ := hy.cells
    have hyl := hy.lt
    by_cases hlt : k < n
    · have h1 : (k : Int) < (n : Int) := by omega
      have h2 : 0 ≤ (k : Int) := by omega
      have HX := Lib.hid hx
      have HY := Lib.hid hy
      have HB := Lib.hid hbel
      clear hx hy hbel
      go_wp2_with fail
      refine (x_turn (often k x) _).mono ?_
      rintro e w1 ⟨rfl, b1⟩
      have hx1 := HX.out.below b1 (by omega)
      have hy1 := HY.out.below b1 (by omega)
      obtain ⟨q0, q1, q2, q3⟩ := hy1.cells
      have fz := hy1.frozen
      have hs1 := b1.size
      have HX1 := Lib.hid hx1
      have HY1 := Lib.hid hy1
      have HB1 := Lib.hid (HB.out.trans (below_mono b1 (by omega)))
      clear hx1 hy1 b1 y0 y1 y2 y3
      go_wp2
      go_roundw
      case rel =>
        refine ⟨k + 1, by omega, by simp, HX1.out.far (by omega) _ _ _ _, ?_, below_four HB1.out (by omega) _ _ _ _⟩
        rw [often_succ]
        exact HY1.out.put _
      case measure => simp [intOf]; omega
    · have hkn : k = n := by omega
      subst k
      go_wp2
      go_loopw [7] (fun i wr => BackRel n x w i wr) (fun i _ => n - (intOf i).toNat)
      case atStart => exact ⟨0, Nat.zero_le _, rfl, hx, hy, hbel⟩
      case round =>
        clear hx hy hbel hyl y0 y1 y2 y3
        obtain ⟨k, hk, rfl, hx, hy, hbel⟩ := hrel
        obtain ⟨y0, y1, y2, y3⟩ := hy.cells
        have hyl := hy.lt
        by_cases hlt : k < n
        · have h1 : (k : Int) < (n : Int) := by omega
          have h2 : 0 ≤ (k : Int) := by omega
          have HX := Lib.hid hx
          have HY := Lib.hid hy
          have HB := Lib.hid hbel
          clear hx hy hbel
          go_wp2_with fail
          refine (x_unturn (often (n - k) x) _).mono ?_
          rintro e w1 ⟨rfl, b1⟩
          have hx1 := HX.out.below b1 (by omega)
          have hy1 := HY.out.below b1 (by omega)
          obtain ⟨q0, q1, q2, q3⟩ := hy1.cells
          have fz := hy1.frozen
          have hs1 := b1.size
          have HX1 := Lib.hid hx1
          have HY1 := Lib.hid hy1
          have HB1 := Lib.hid (HB.out.trans (below_mono b1 (by omega)))
          clear hx1 hy1 b1 y0 y1 y2 y3
          go_wp2
          go_roundw
          case rel =>
            refine ⟨k + 1, by omega, by simp, HX1.out.far (by omega) _ _ _ _, ?_, below_four HB1.out (by omega) _ _ _ _⟩
            have ht : unturn (often (n - k) x) = often (n - (k + 1)) x := by
              rw [show n - k = n - (k + 1) + 1 by omega, unturn_often]
            rw [← ht]
            exact HY1.out.put _
          case measure => simp [intOf]; omega
        · have hkn : k = n := by omega
          subst k
          rw [Nat.sub_self] at hy
          clear y0 y1 y2 y3
          have HX := Lib.hid hx
          have HY := Lib.hid hy
          have HB := Lib.hid hbel
          clear hx hy hbel
          go_wp2_with fail
          refine (alive02 _).mono ?_
          rintro e w1 ⟨rfl, b1⟩
          obtain ⟨c0, c1, c2, c3⟩ := (HX.out.below b1 (by omega)).cells
          obtain ⟨y0, y1, y2, y3⟩ := (HY.out.below b1 (by omega)).cells
          have h := HB.out.trans (below_mono b1 (by omega))
          have HH := Lib.hid h
          change _ = some (Value.int .u32 (wi x.a)) at y0
          change _ = some (Value.int .u32 (wi x.b)) at y1
          change _ = some (Value.int .u32 (wi x.c)) at y2
          change _ = some (Value.int .u32 (wi x.d)) at y3
          clear h b1
          go_wp2
          go_ret
          exact ⟨rfl, HH.out⟩
end Go.Proofs.Ytfjjkkakhfgdhaa
