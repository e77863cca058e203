/-
  Contracts of package ptr: Row.
-/
import Derived.Test.YtgcagenhfddpgaaPtrR
namespace Go.Proofs.Ytgcagenhfddpgaa
open Go.RowKit
set_option linter.unusedVariables false
set_option maxRecDepth 100000

theorem ptr_row_many (A : Option Addr) (n c : Nat) (w : World) (h : 16 < (n : Int)) : Calls Try.prog 26 #[.slice A n c] w fun e w' => e = .returned (.tuple #[.slice none 0 0, .int .i64 4]) ∧ w = w' := by
  go_enter Try.func26, Try.ntmps26
  go_wp2
  go_ret2
  exact ⟨rfl, rfl⟩

/-- What stands when k pointers are laid. -/
def laid (l : List Pt) (k : Nat) : List UInt8 := joined (l.take k) ++ List.replicate (256 - 16 * k) 0
theorem laid_zero (l : List Pt) : laid l 0 = noughts 256 := by
  rw [laid, List.take_zero]
  rfl
theorem laid_len {l : List Pt} {k : Nat} (h : k ≤ l.length) (h16 : l.length ≤ 16) : (laid l k).length = 256 := by
  rw [laid, List.length_append, joined_len, List.length_take, List.length_replicate]
  omega
theorem laid_all {l : List Pt} (h : l.length ≤ 16) : laid l l.length = rowL l := by
  rw [laid, List.take_length, rowL, joined_app, joined_holes]
  congr 2
  omega
theorem laid_step {l : List Pt} {k : Nat} (h : k < l.length) (h16 : l.length ≤ 16) :
    (bvs (laid l k)).take (16 * k * 1) ++ bvs (l[k]).bytes ++ (bvs (laid l k)).drop (16 * k * 1 + (bvs (l[k]).bytes).length) = bvs (laid l (k + 1)) := by
  have hj : (joined (l.take k)).length = 16 * k := by rw [joined_len, List.length_take]; omega
  rw [bvs_len, Pt.bytes_len, Nat.mul_one, ← bvs_take, ← bvs_drop, ← bvs_app, ← bvs_app]
  congr 1
  rw [laid, List.take_left' hj, ← List.drop_drop, List.drop_left' hj, laid, List.take_succ_eq_append_getElem h, joined_app, List.drop_replicate]
  simp only [joined, List.append_nil]
  congr 2
/-- What Row's loop knows when k pointers are laid. -/
def RowRel (l : List Pt) (w : World) (v x : Value) (wr : World) : Prop :=
  ∃ k : Nat, k ≤ l.length ∧ x = .int .i64 (k : Int) ∧ v = .slice (some ⟨w.heap.size, 0, none⟩) (16 * k) 256 ∧ Fr wr w.heap.size 5 1 (some ⟨w.heap.size, 0, none⟩) 256 256 (bvs (laid l k)) ∧ AllMay (l.take k) ∧ Below w.heap.size w wr ∧ w.heap.size < wr.heap.size

set_option maxHeartbeats 1000000 in
theorem ptr_row_le (A : Option Addr) (n c : Nat) (l : List Pt) (w : World) (hl : l.length = n) (hn : (n : Int) ≤ 16) (hU : AllU l) (hr : Rd w w.heap.size 5 A n (pcs l)) :
    Calls Try.prog 26 #[.slice A n c] w fun e w' => ((AllMay l ∧ e = .returned (.tuple #[.slice (some ⟨w.heap.size, 0, none⟩) 256 256, .int .i64 0]) ∧ Fr w' w.heap.size 5 1 (some ⟨w.heap.size, 0, none⟩) 256 256 (bvs (rowL l))) ∨ (¬ AllMay l ∧ e = .returned (.tuple #[.slice none 0 0, .int .i64 8]))) ∧ Below w.heap.size w w' := by
  have hmk := fun W => run_mkRoom okB .i64 .i64 W
  have hf0 : Fr (w.alloc (.cells (bvs (noughts 256)).toArray 5)) w.heap.size 5 1 (some ⟨w.heap.size, 0, none⟩) 256 256 (bvs (laid l 0)) := by
    rw [laid_zero]
    exact fr_mkN w _ 256 (by omega) (Nat.le_refl _)
  have hb0 : Below w.heap.size w (w.alloc (.cells (bvs (noughts 256)).toArray 5)) := (Below.refl _ w).alloc (Nat.le_refl _) _
  have hz0 : w.heap.size < (w.alloc (.cells (bvs (noughts 256)).toArray 5)).heap.size := by rw [World.size_alloc]; omega
  have HF := Lib.hid hf0
  have HB := Lib.hid hb0
  have HZ := Lib.hid hz0
  clear hf0 hb0 hz0
  go_enter Try.func26, Try.ntmps26
  go_wp2
  clear hmk
  generalize w.alloc (.cells (bvs (noughts 256)).toArray 5) = w1 at *
  go_loopw [4, 15] (fun v x wr => RowRel l w v x wr) (fun _ x _ => n - (intOf x).toNat)
  case atStart => exact ⟨0, Nat.zero_le _, rfl, rfl, HF.out, (by intro p hp; cases hp), HB.out, HZ.out⟩
  case round =>
    clear HF HB HZ
    obtain ⟨k, hk, rfl, rfl, hf, hm, hb, hz⟩ := hrel
    by_cases hlt : k < n
    · have hkl : k < l.length := by omega
      obtain ⟨b, off, rfl, hbb, c0, c1, c2, c3, c4⟩ := (hr.below hb).at5 hlt hl
      have hU1 : (l[k]).U := hU _ (List.getElem_mem hkl)
      have hst := laid_step hkl (by omega)
      have hsn : AllMay (l.take (k + 1)) ↔ (l[k]).May := by
        rw [List.take_succ_eq_append_getElem hkl]
        constructor
        · intro h
          exact h _ (List.mem_append_right _ (List.mem_singleton.2 rfl))
        · intro h p hp
          rcases List.mem_append.1 hp with hp | hp
          · exact hm p hp
          · rw [List.mem_singleton.1 hp]; exact h
      have hbad : ¬ (l[k]).May → ¬ AllMay l := fun h hh => h (hh _ (List.getElem_mem hkl))
      have h0 : ¬ ((k : Int) < 0) := by omega
      have h1 : (k : Int) < (n : Int) := by omega
      have HS := Lib.hid hst
      have HN := Lib.hid hsn
      have HD := Lib.hid hbad
      have HF := Lib.hid hf
      have HB := Lib.hid hb
      have HZ := Lib.hid hz
      have HL := Lib.hid hkl
      clear hst hsn hbad hf hm hb hz hr hU hbb
      generalize l[k] = p at *
      have hx := PtBox.new wr p
      obtain ⟨d0, d1, d2, d3, d4⟩ := hx.cells
      by_cases hpm : p.May
      · have hW := fun W => ptr_writeX p hpm hU1 W
        have HW := Lib.hid hW
        have HP := Lib.hid hpm
        clear hW hpm hU1
        go_wp2_with fail
        refine (HW.out _).mono ?_
        rintro e w3 ⟨A3, c3', rfl, f3, b3⟩
        have hz3 := b3.size
        rw [World.size_alloc] at hz3
        have hf3 : Fr w3 w.heap.size 5 1 (some ⟨w.heap.size, 0, none⟩) 256 256 (bvs (laid l k)) := (HF.out.alloc _).below b3 (Nat.le_refl _)
        have hb3 := below_to (below_to HB.out (below_new wr _) HB.out.size) b3 (by rw [World.size_alloc]; have := HB.out.size; omega)
        have hrd3 := f3.rd
        have HF3 := Lib.hid hf3
        have HB3 := Lib.hid hb3
        have HZ3 := Lib.hid hz3
        clear hf3 hb3 f3 b3 hz3
        go_wp2_with (at_builtin; refine wpList_append_room rfl (.tmp 27) (.tmp 28) rfl okB rfl HF3.out (by omega) rfl hrd3 (bvs_one _) (16 * (k + 1)) (by omega) _ HS.out (by omega) ?_; intro w4 f4 g4)
        go_roundw
        case rel => exact ⟨k + 1, by omega, rfl, rfl, f4, HN.out.2 HP.out, HB3.out.grown g4 HB3.out.size (fun g hg => by cases hg; exact Nat.le_refl _), by have := HZ.out; have := HZ3.out; have := g4.size; omega⟩
        case measure => simp [intOf]; omega
      · have hW := fun W => ptr_writeBad p hpm W
        have hnl := HD.out hpm
        have HW := Lib.hid hW
        have HL := Lib.hid hnl
        clear hW hnl hpm
        go_wp2_with fail
        refine (HW.out _).mono ?_
        rintro e w3 ⟨rfl, b3⟩
        have hb3 := below_to (below_to HB.out (below_new wr _) HB.out.size) b3 (by rw [World.size_alloc]; have := HB.out.size; omega)
        go_wp2
        go_ret2
        exact ⟨.inr ⟨HL.out, rfl⟩, hb3⟩
    · obtain rfl : k = n := by omega
      rw [List.take_of_length_le (by omega)] at hm
      rw [← hl, laid_all (by omega)] at hf
      go_wp2
      go_ret2
      exact ⟨.inl ⟨hm, rfl, hf⟩, hb⟩

theorem ptr_row (A : Option Addr) (n c : Nat) (l : List Pt) (w : World) (hl : l.length = n) (hU : AllU l) (hr : Rd w w.heap.size 5 A n (pcs l)) :
    Calls Try.prog 26 #[.slice A n c] w fun e w' => ∃ D d, e = .returned (.tuple #[.slice D (rowB l).length d, .int .i64 (rowE l)]) ∧ Fr w' w.heap.size 5 1 D (rowB l).length d (bvs (rowB l)) ∧ Below w.heap.size w w' := by
  by_cases h : 16 < n
  · refine (ptr_row_many A n c w (by omega)).mono ?_
    rintro e w' ⟨rfl, rfl⟩
    have hE := rowE_many (l := l) (by omega)
    rw [hE, rowB_err (by rw [hE]; omega)]
    exact ⟨none, 0, rfl, Fr.none_, Below.refl _ _⟩
  · refine (ptr_row_le A n c l w hl (by omega) hU hr).mono ?_
    rintro e w' ⟨⟨hm, rfl, hf⟩ | ⟨hm, rfl⟩, hb⟩
    · rw [rowE_may (by omega) hm, rowB_may (by omega) hm, rowL_len (by omega)]
      exact ⟨_, _, rfl, hf, hb⟩
    · have hE := rowE_bad (l := l) (by omega) hm
      rw [hE, rowB_err (by rw [hE]; omega)]
      exact ⟨none, 0, rfl, Fr.none_, hb⟩
end Go.Proofs.Ytgcagenhfddpgaa
