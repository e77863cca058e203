/-
  Contracts of package mix: turned, undone, Turn, Back.
-/
import Derived.Test.YtfjjkkakhfgdhaaMix
namespace Go.Proofs.Ytfjjkkakhfgdhaa
open Go.RowKit
set_option linter.unusedVariables false
set_option maxRecDepth 100000

theorem Box4.cells {w : World} {g : Nat} {t : TypeId} {x : W4} (h : Box4 w g t x) : w.cell? ⟨g, 0, none⟩ = some (.int .u32 (wi x.a)) ∧ w.cell? ⟨g, 1, none⟩ = some (.int .u32 (wi x.b)) ∧ w.cell? ⟨g, 2, none⟩ = some (.int .u32 (wi x.c)) ∧ w.cell? ⟨g, 3, none⟩ = some (.int .u32 (wi x.d)) := by
  unfold Box4 at h
  simp [World.cell?, h, w4]
theorem Box4.new (w : World) (t : TypeId) (x : W4) : Box4 (w.alloc (.cells #[.int .u32 (wi x.a), .int .u32 (wi x.b), .int .u32 (wi x.c), .int .u32 (wi x.d)] t)) w.heap.size t x := heap_alloc_new w _
theorem Box4.alloc {w : World} {g : Nat} {t : TypeId} {x : W4} (h : Box4 w g t x) (o : Obj) : Box4 (w.alloc o) g t x :=
  (Below.heap_alloc w o g (Array.getElem?_eq_some_iff.1 h).1).trans h
theorem Box4.frozen {w : World} {g : Nat} {t : TypeId} {x : W4} (h : Box4 w g t x) (i : Nat) : w.frozen? ⟨g, i, none⟩ = false := by
  unfold Box4 at h
  simp [World.frozen?, h]
theorem Box4.below {w w' : World} {B g : Nat} {t : TypeId} {x : W4} (h : Box4 w g t x) (hb : Below B w w') (hg : g < B) : Box4 w' g t x := (hb.block g hg).trans h
theorem Box4.lt {w : World} {g : Nat} {t : TypeId} {x : W4} (h : Box4 w g t x) : g < w.heap.size := (Array.getElem?_eq_some_iff.1 h).1

theorem below_mono {B C : Nat} {a b : World} (h : Below C a b) (hB : B ≤ C) : Below B a b := ⟨h.os, h.tape, h.output, h.size, fun k hk => h.block k (by omega)⟩
theorem Box4.four {w : World} {g : Nat} {t : TypeId} {x : W4} (h : Box4 w g t x) (v0 v1 v2 v3 : Value) :
    (w.setCell ⟨g, 0, none⟩ v0).cell? ⟨g, 0, none⟩ = some v0 ∧
    ((w.setCell ⟨g, 0, none⟩ v0).setCell ⟨g, 1, none⟩ v1).cell? ⟨g, 1, none⟩ = some v1 ∧
    (((w.setCell ⟨g, 0, none⟩ v0).setCell ⟨g, 1, none⟩ v1).setCell ⟨g, 2, none⟩ v2).cell? ⟨g, 2, none⟩ = some v2 ∧
    ((((w.setCell ⟨g, 0, none⟩ v0).setCell ⟨g, 1, none⟩ v1).setCell ⟨g, 2, none⟩ v2).setCell ⟨g, 3, none⟩ v3).cell? ⟨g, 3, none⟩ = some v3 := by
  have h1 := Box4.set h 0 v0
  have h2 := Box4.set h1 1 v1
  have h3 := Box4.set h2 2 v2
  have h4 := Box4.set h3 3 v3
  refine ⟨?_, ?_, ?_, ?_⟩
  · unfold World.cell?; rw [h1]; simp [w4]
  · unfold World.cell?; rw [h2]; simp [w4]
  · unfold World.cell?; rw [h3]; simp [w4]
  · unfold World.cell?; rw [h4]; simp [w4]

theorem m_turn (x : W4) (w : World) :
    Calls Try.prog 46 #[.agg #[.int .u32 (wi x.a), .int .u32 (wi x.b), .int .u32 (wi x.c), .int .u32 (wi x.d)]] w fun e w' =>
      e = .returned (.agg #[.int .u32 (wi (turn x).a), .int .u32 (wi (turn x).b), .int .u32 (wi (turn x).c), .int .u32 (wi (turn x).d)]) ∧ Below w.heap.size w w' := by
  have hmf : ∀ (fn : Fn) (first cap : Array Value) (w : World), (Instr.makeFunc fn first cap).run Try.prog w = .ok (.func fn first cap) w := fun _ _ _ _ => rfl
  go_enter Try.func46, Try.ntmps46
  go_wp2_with fail
  refine (half_15 x w.heap.size 62 _ ((Box4.new w _ x).alloc _)).mono ?_
  rintro e w1 ⟨rfl, b1, g1⟩
  have hs1 := g1.size
  go_wp2_with fail
  refine (half_9 (half 15 11 x) w.heap.size 62 _ b1).mono ?_
  rintro e w2 ⟨rfl, b2, g2⟩
  have hs2 := g2.size
  obtain ⟨c0, c1, c2, c3⟩ := b2.cells
  have r0 : Box4 ((w.alloc (.cells #[.int .u32 (wi x.a), .int .u32 (wi x.b), .int .u32 (wi x.c), .int .u32 (wi x.d)] 62)).alloc (.cells #[.int .u32 0, .int .u32 0, .int .u32 0, .int .u32 0] 62)) (w.heap.size + 1) 62 ⟨0, 0, 0, 0⟩ := by
    have h := heap_alloc_new (w.alloc (.cells #[.int .u32 (wi x.a), .int .u32 (wi x.b), .int .u32 (wi x.c), .int .u32 (wi x.d)] 62)) (.cells #[.int .u32 0, .int .u32 0, .int .u32 0, .int .u32 0] 62)
    rw [show (w.alloc (.cells #[.int .u32 (wi x.a), .int .u32 (wi x.b), .int .u32 (wi x.c), .int .u32 (wi x.d)] 62)).heap.size = w.heap.size + 1 by simp only [World.alloc, Array.size_push]] at h
    exact h
  have r1 : Box4 w1 (w.heap.size + 1) 62 ⟨0, 0, 0, 0⟩ := (g1.block _ r0.lt (by intro e; injection e with e; omega)).trans r0
  have r2 : Box4 w2 (w.heap.size + 1) 62 ⟨0, 0, 0, 0⟩ := (g2.block _ r1.lt (by intro e; injection e with e; omega)).trans r1
  obtain ⟨q0, q1, q2, q3⟩ := r2.cells
  have fz := r2.frozen
  go_wp2_with fail
  have z1 : (w.alloc (.cells #[.int .u32 (wi x.a), .int .u32 (wi x.b), .int .u32 (wi x.c), .int .u32 (wi x.d)] 62)).heap.size = w.heap.size + 1 := by simp only [World.alloc, Array.size_push]
  have z2 : ∀ o, ((w.alloc (.cells #[.int .u32 (wi x.a), .int .u32 (wi x.b), .int .u32 (wi x.c), .int .u32 (wi x.d)] 62)).alloc o).heap.size = w.heap.size + 2 := fun o => by simp only [World.alloc, Array.size_push]
  have hb1 : Below w.heap.size w w1 := (((Below.refl _ w).alloc (Nat.le_refl _) _).alloc (by rw [z1]; omega) _).grown g1 (by rw [z2]; omega) (fun k e => by injection e with e; omega)
  have hb2 : Below w.heap.size w w2 := hb1.grown g2 (by rw [z2] at hs1; omega) (fun k e => by injection e with e; omega)
  have ey : half 9 6 (half 15 11 x) = turn x := rfl
  rw [ey]
  obtain ⟨e0, e1, e2, e3⟩ := r2.four (.int .u32 (wi (turn x).a)) (.int .u32 (wi (turn x).b)) (.int .u32 (wi (turn x).c)) (.int .u32 (wi (turn x).d))
  refine bodyPost_ret (v := .agg #[.int .u32 (wi (turn x).a), .int .u32 (wi (turn x).b), .int .u32 (wi (turn x).c), .int .u32 (wi (turn x).d)]) (by simp [results, Try.results46, go_sem, e0, e1, e2, e3]) rfl ⟨rfl, ?_⟩
  exact (((hb2.setCell (by show _ ≤ _ + 1; omega) _).setCell (by show _ ≤ _ + 1; omega) _).setCell (by show _ ≤ _ + 1; omega) _).setCell (by show _ ≤ _ + 1; omega) _
theorem m_unturn (x : W4) (w : World) :
    Calls Try.prog 45 #[.agg #[.int .u32 (wi x.a), .int .u32 (wi x.b), .int .u32 (wi x.c), .int .u32 (wi x.d)]] w fun e w' =>
      e = .returned (.agg #[.int .u32 (wi (unturn x).a), .int .u32 (wi (unturn x).b), .int .u32 (wi (unturn x).c), .int .u32 (wi (unturn x).d)]) ∧ Below w.heap.size w w' := by
  have hmf : ∀ (fn : Fn) (first cap : Array Value) (w : World), (Instr.makeFunc fn first cap).run Try.prog w = .ok (.func fn first cap) w := fun _ _ _ _ => rfl
  go_enter Try.func45, Try.ntmps45
  go_wp2_with fail
  refine (flah_9 x w.heap.size 62 _ ((Box4.new w _ x).alloc _)).mono ?_
  rintro e w1 ⟨rfl, b1, g1⟩
  have hs1 := g1.size
  go_wp2_with fail
  refine (flah_15 (flah 23 26 x) w.heap.size 62 _ b1).mono ?_
  rintro e w2 ⟨rfl, b2, g2⟩
  have hs2 := g2.size
  obtain ⟨c0, c1, c2, c3⟩ := b2.cells
  have r0 : Box4 ((w.alloc (.cells #[.int .u32 (wi x.a), .int .u32 (wi x.b), .int .u32 (wi x.c), .int .u32 (wi x.d)] 62)).alloc (.cells #[.int .u32 0, .int .u32 0, .int .u32 0, .int .u32 0] 62)) (w.heap.size + 1) 62 ⟨0, 0, 0, 0⟩ := by
    have h := heap_alloc_new (w.alloc (.cells #[.int .u32 (wi x.a), .int .u32 (wi x.b), .int .u32 (wi x.c), .int .u32 (wi x.d)] 62)) (.cells #[.int .u32 0, .int .u32 0, .int .u32 0, .int .u32 0] 62)
    rw [show (w.alloc (.cells #[.int .u32 (wi x.a), .int .u32 (wi x.b), .int .u32 (wi x.c), .int .u32 (wi x.d)] 62)).heap.size = w.heap.size + 1 by simp only [World.alloc, Array.size_push]] at h
    exact h
  have r1 : Box4 w1 (w.heap.size + 1) 62 ⟨0, 0, 0, 0⟩ := (g1.block _ r0.lt (by intro e; injection e with e; omega)).trans r0
  have r2 : Box4 w2 (w.heap.size + 1) 62 ⟨0, 0, 0, 0⟩ := (g2.block _ r1.lt (by intro e; injection e with e; omega)).trans r1
  obtain ⟨q0, q1, q2, q3⟩ := r2.cells
  have fz := r2.frozen
  go_wp2_with fail
  have z1 : (w.alloc (.cells #[.int .u32 (wi x.a), .int .u32 (wi x.b), .int .u32 (wi x.c), .int .u32 (wi x.d)] 62)).heap.size = w.heap.size + 1 := by simp only [World.alloc, Array.size_push]
  have z2 : ∀ o, ((w.alloc (.cells #[.int .u32 (wi x.a), .int .u32 (wi x.b), .int .u32 (wi x.c), .int .u32 (wi x.d)] 62)).alloc o).heap.size = w.heap.size + 2 := fun o => by simp only [World.alloc, Array.size_push]
  have hb1 : Below w.heap.size w w1 := (((Below.refl _ w).alloc (Nat.le_refl _) _).alloc (by rw [z1]; omega) _).grown g1 (by rw [z2]; omega) (fun k e => by injection e with e; omega)
  have hb2 : Below w.heap.size w w2 := hb1.grown g2 (by rw [z2] at hs1; omega) (fun k e => by injection e with e; omega)
  have ey : flah 17 21 (flah 23 26 x) = unturn x := rfl
  rw [ey]
  obtain ⟨e0, e1, e2, e3⟩ := r2.four (.int .u32 (wi (unturn x).a)) (.int .u32 (wi (unturn x).b)) (.int .u32 (wi (unturn x).c)) (.int .u32 (wi (unturn x).d))
  refine bodyPost_ret (v := .agg #[.int .u32 (wi (unturn x).a), .int .u32 (wi (unturn x).b), .int .u32 (wi (unturn x).c), .int .u32 (wi (unturn x).d)]) (by simp [results, Try.results45, go_sem, e0, e1, e2, e3]) rfl ⟨rfl, ?_⟩
  exact (((hb2.setCell (by show _ ≤ _ + 1; omega) _).setCell (by show _ ≤ _ + 1; omega) _).setCell (by show _ ≤ _ + 1; omega) _).setCell (by show _ ≤ _ + 1; omega) _
theorem x_turn (x : W4) (w : World) :
    Calls Try.prog 23 #[.agg #[.int .u32 (wi x.a), .int .u32 (wi x.b), .int .u32 (wi x.c), .int .u32 (wi x.d)]] w fun e w' =>
      e = .returned (.agg #[.int .u32 (wi (turn x).a), .int .u32 (wi (turn x).b), .int .u32 (wi (turn x).c), .int .u32 (wi (turn x).d)]) ∧ Below w.heap.size w w' := by
  go_enter Try.func23, Try.ntmps23
  go_wp2_with fail
  refine (m_turn x _).mono ?_
  rintro e w1 ⟨rfl, g1⟩
  have z1 : (w.alloc (.cells #[.int .u32 (wi x.a), .int .u32 (wi x.b), .int .u32 (wi x.c), .int .u32 (wi x.d)] 23)).heap.size = w.heap.size + 1 := by simp only [World.alloc, Array.size_push]
  have z2 : ∀ o, ((w.alloc (.cells #[.int .u32 (wi x.a), .int .u32 (wi x.b), .int .u32 (wi x.c), .int .u32 (wi x.d)] 23)).alloc o).heap.size = w.heap.size + 2 := fun o => by simp only [World.alloc, Array.size_push]
  have r0 : Box4 ((w.alloc (.cells #[.int .u32 (wi x.a), .int .u32 (wi x.b), .int .u32 (wi x.c), .int .u32 (wi x.d)] 23)).alloc (.cells #[.int .u32 0, .int .u32 0, .int .u32 0, .int .u32 0] 23)) (w.heap.size + 1) 23 ⟨0, 0, 0, 0⟩ := by
    have h := heap_alloc_new (w.alloc (.cells #[.int .u32 (wi x.a), .int .u32 (wi x.b), .int .u32 (wi x.c), .int .u32 (wi x.d)] 23)) (.cells #[.int .u32 0, .int .u32 0, .int .u32 0, .int .u32 0] 23)
    rw [z1] at h
    exact h
  rw [z2] at g1
  have r2 : Box4 w1 (w.heap.size + 1) 23 ⟨0, 0, 0, 0⟩ := r0.below g1 (by omega)
  have hb2 : Below w.heap.size w w1 := (((Below.refl _ w).alloc (Nat.le_refl _) _).alloc (by rw [z1]; omega) _).trans (below_mono g1 (by omega))
  obtain ⟨q0, q1, q2, q3⟩ := r2.cells
  have fz := r2.frozen
  obtain ⟨e0, e1, e2, e3⟩ := r2.four (.int .u32 (wi (turn x).a)) (.int .u32 (wi (turn x).b)) (.int .u32 (wi (turn x).c)) (.int .u32 (wi (turn x).d))
  have HR := Lib.hid hb2
  clear r0 r2 g1 hb2
  go_wp2_with fail
  refine bodyPost_ret (v := .agg #[.int .u32 (wi (turn x).a), .int .u32 (wi (turn x).b), .int .u32 (wi (turn x).c), .int .u32 (wi (turn x).d)]) (by simp [results, Try.results23, go_sem, e0, e1, e2, e3]) rfl ⟨rfl, ?_⟩
  exact (((HR.out.setCell (by show _ ≤ _ + 1; omega) _).setCell (by show _ ≤ _ + 1; omega) _).setCell (by show _ ≤ _ + 1; omega) _).setCell (by show _ ≤ _ + 1; omega) _
theorem x_unturn (x : W4) (w : World) :
    Calls Try.prog 22 #[.agg #[.int .u32 (wi x.a), .int .u32 (wi x.b), .int .u32 (wi x.c), .int .u32 (wi x.d)]] w fun e w' =>
      e = .returned (.agg #[.int .u32 (wi (unturn x).a), .int .u32 (wi (unturn x).b), .int .u32 (wi (unturn x).c), .int .u32 (wi (unturn x).d)]) ∧ Below w.heap.size w w' := by
  go_enter Try.func22, Try.ntmps22
  go_wp2_with fail
  refine (m_unturn x _).mono ?_
  rintro e w1 ⟨rfl, g1⟩
  have z1 : (w.alloc (.cells #[.int .u32 (wi x.a), .int .u32 (wi x.b), .int .u32 (wi x.c), .int .u32 (wi x.d)] 23)).heap.size = w.heap.size + 1 := by simp only [World.alloc, Array.size_push]
  have z2 : ∀ o, ((w.alloc (.cells #[.int .u32 (wi x.a), .int .u32 (wi x.b), .int .u32 (wi x.c), .int .u32 (wi x.d)] 23)).alloc o).heap.size = w.heap.size + 2 := fun o => by simp only [World.alloc, Array.size_push]
  have r0 : Box4 ((w.alloc (.cells #[.int .u32 (wi x.a), .int .u32 (wi x.b), .int .u32 (wi x.c), .int .u32 (wi x.d)] 23)).alloc (.cells #[.int .u32 0, .int .u32 0, .int .u32 0, .int .u32 0] 23)) (w.heap.size + 1) 23 ⟨0, 0, 0, 0⟩ := by
    have h := heap_alloc_new (w.alloc (.cells #[.int .u32 (wi x.a), .int .u32 (wi x.b), .int .u32 (wi x.c), .int .u32 (wi x.d)] 23)) (.cells #[.int .u32 0, .int .u32 0, .int .u32 0, .int .u32 0] 23)
    rw [z1] at h
    exact h
  rw [z2] at g1
  have r2 : Box4 w1 (w.heap.size + 1) 23 ⟨0, 0, 0, 0⟩ := r0.below g1 (by omega)
  have hb2 : Below w.heap.size w w1 := (((Below.refl _ w).alloc (Nat.le_refl _) _).alloc (by rw [z1]; omega) _).trans (below_mono g1 (by omega))
  obtain ⟨q0, q1, q2, q3⟩ := r2.cells
  have fz := r2.frozen
  obtain ⟨e0, e1, e2, e3⟩ := r2.four (.int .u32 (wi (unturn x).a)) (.int .u32 (wi (unturn x).b)) (.int .u32 (wi (unturn x).c)) (.int .u32 (wi (unturn x).d))
  have HR := Lib.hid hb2
  clear r0 r2 g1 hb2
  go_wp2_with fail
  refine bodyPost_ret (v := .agg #[.int .u32 (wi (unturn x).a), .int .u32 (wi (unturn x).b), .int .u32 (wi (unturn x).c), .int .u32 (wi (unturn x).d)]) (by simp [results, Try.results22, go_sem, e0, e1, e2, e3]) rfl ⟨rfl, ?_⟩
  exact (((HR.out.setCell (by show _ ≤ _ + 1; omega) _).setCell (by show _ ≤ _ + 1; omega) _).setCell (by show _ ≤ _ + 1; omega) _).setCell (by show _ ≤ _ + 1; omega) _
end Go.Proofs.Ytfjjkkakhfgdhaa
