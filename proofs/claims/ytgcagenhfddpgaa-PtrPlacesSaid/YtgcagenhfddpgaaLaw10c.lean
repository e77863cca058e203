/-
  The walk of PtrPlaces.
-/
import Derived.Test.YtgcagenhfddpgaaPtrRow
import Derived.Test.YtgcagenhfddpgaaLaw10
namespace Go.Proofs.Ytgcagenhfddpgaa
open Go.RowKit
set_option linter.unusedVariables false
set_option maxRecDepth 100000
attribute [local go_sem] str_toList toList_mk

theorem ptrPlaces_great (A : Option Addr) (n c : Nat) (w : World) (h : 1000 < (n : Int)) : Calls Try.prog 9 #[.slice A n c] w fun e w' => e = .returned (.bool true) ∧ Below w.heap.size w w' := by
  go_enter Try.func9, Try.ntmps9
  go_wp2_with fail
  refine (alive10 _).mono ?_
  rintro e w1 ⟨rfl, b1⟩
  go_wp2
  go_ret
  exact ⟨rfl, b1⟩

theorem ptrPlaces_many (A : Option Addr) (n c : Nat) (w : World) (hg : ¬ 1000 < (n : Int)) (h : 16 < (n : Int)) : Calls Try.prog 9 #[.slice A n c] w fun e w' => e = .returned (.bool true) ∧ Below w.heap.size w w' := by
  go_enter Try.func9, Try.ntmps9
  go_wp2_with fail
  refine (alive10 _).mono ?_
  rintro e w1 ⟨rfl, b1⟩
  go_wp2_with fail
  refine (ptr_row_many A n c w1 h).mono ?_
  rintro e w2 ⟨rfl, rfl⟩
  go_wp2
  go_ret
  exact ⟨rfl, b1⟩

/-- The piece of a row. -/
theorem rowL_piece {l : List Pt} (h16 : l.length ≤ 16) {k : Nat} (hk : k < 16) : piece16 (rowL l) k = if h : k < l.length then (l[k]).bytes else List.replicate 16 0 := by
  have hlen : k < (l ++ holes (16 - l.length)).length := by rw [List.length_append, holes, List.length_replicate]; omega
  rw [rowL, piece16_joined _ k hlen]
  by_cases h : k < l.length
  · rw [dif_pos h, List.getElem_append_left h]
  · rw [dif_neg h, List.getElem_append_right (by omega)]
    simp only [holes, List.getElem_replicate]
    exact Pt.zero_bytes

def PlRel (w2 : World) (x : Value) (wr : World) : Prop := ∃ k : Nat, k ≤ 16 ∧ x = .int .i64 (k : Int) ∧ Below w2.heap.size w2 wr

theorem ptrPlaces_le (A : Option Addr) (n c : Nat) (l : List Pt) (w : World) (hl : l.length = n) (hn : (n : Int) ≤ 16) (hU : AllU l) (hr : Rd w w.heap.size 5 A n (pcs l)) :
    Calls Try.prog 9 #[.slice A n c] w fun e w' => e = .returned (.bool true) ∧ Below w.heap.size w w' := by
  have hg : ¬ 1000 < (n : Int) := by omega
  have hmk : ∀ W, (Instr.makeSlice 23 (.int .i64 16) (.int .i64 16)).run Try.prog W = .ok (.slice (some ⟨W.heap.size, 0, none⟩) 16 16) (W.alloc (.cells (bvs (noughts 16)).toArray 5)) := fun W => run_mkN okB .i64 .i64 16 (by omega) W
  go_enter Try.func9, Try.ntmps9
  go_wp2_with fail
  refine (alive10 _).mono ?_
  rintro e w1 ⟨rfl, b1⟩
  go_wp2_with fail
  refine (ptr_row_le A n c l w1 hl hn hU ((hr.below b1).more b1.size)).mono ?_
  rintro e w2 ⟨⟨hm, rfl, hf⟩ | ⟨hm, rfl⟩, b2⟩
  · have B2 := below_to b1 b2 b1.size
    have hrow := hf.rd
    have HM := Lib.hid hm
    have HB2 := Lib.hid B2
    clear hm B2 b1 b2 hf
    generalize w1.heap.size = g at *
    go_wp2
    go_loopw [6] (fun x wr => PlRel w2 x wr) (fun x _ => 16 - (intOf x).toNat)
    case atStart => exact ⟨0, by omega, rfl, Below.refl _ _⟩
    case round =>
      obtain ⟨k, hk, rfl, hb⟩ := hrel
      by_cases h16 : k < 16
      · have hrow' := hrow.below hb
        have hpc := hrow'.sub (16 * k) 16 (by omega)
        rw [← bvs_drop, ← bvs_take] at hpc
        rw [Nat.zero_add] at hpc
        have hpe := rowL_piece (l := l) (by omega) h16
        rw [piece16] at hpe
        rw [hpe] at hpc
        clear hpe hrow'
        obtain ⟨r, hrk⟩ : ∃ r, r = 16 * k := ⟨_, rfl⟩
        have hw1 : IntKind.i64.wrap (16 * (k : Int)) = (r : Int) := by rw [IntWalk.i64_in _ (by omega)]; omega
        have hr1 : r + 16 ≤ 256 := by omega
        have hr2 : (r : Int) + 16 ≤ 256 := by omega
        have hr3 : 0 ≤ (r : Int) := by omega
        rw [← hrk] at hpc
        have HRK := Lib.hid hrk
        clear hrk
        by_cases hlt : k < n
        · have hkl : k < l.length := by omega
          rw [dif_pos hkl] at hpc
          obtain ⟨b, off, rfl, hbb, c0, c1, c2, c3, c4⟩ := (hr.below (below_to HB2.out hb HB2.out.size)).at5 hlt hl
          have hbw : b < wr.heap.size := Nat.lt_of_lt_of_le hbb (below_to HB2.out hb HB2.out.size).size
          have hU1 : (l[k]).U := hU _ (List.getElem_mem hkl)
          have hm1 : (l[k]).May := HM.out _ (List.getElem_mem hkl)
          have hW := fun W => ptr_writeX (l[k]) hm1 hU1 W
          have h0 : ¬ ((k : Int) < 0) := by omega
          have h1 : (k : Int) < (n : Int) := by omega
          have HW := Lib.hid hW
          have HPC := Lib.hid hpc
          have HB := Lib.hid hb
          clear hW hpc hb hm1 hU1 hr hrow hbb
          generalize l[k] = p at *
          go_wp2_with fail
          refine (HW.out _).mono ?_
          rintro e w4 ⟨A4, c4, rfl, f4, b4⟩
          have B4 := below_to (below_alloc HB.out (.cells (bvs (noughts 16)).toArray 5) (Nat.le_refl _)) b4 (Nat.le_trans HB.out.size (by rw [World.size_alloc]; omega))
          have hp4 := (HPC.out.alloc HB.out.size (.cells (bvs (noughts 16)).toArray 5)).belowH b4 (by have := HB.out.size; rw [World.size_alloc]; omega)
          have k1 := fun N => conv (hp4.drewN N) (256 - r)
          have k2 := fun N => conv (f4.rd.drewN N) c4
          have HB4 := Lib.hid B4
          clear B4 hp4 b4 f4 hmk
          go_wp2
          go_quiet (fail)
          go_wp2
          go_roundw
          case rel => exact ⟨k + 1, by omega, rfl, below_drewN HB4.out _⟩
          case measure => simp [intOf]; omega
        · rw [dif_neg (by omega)] at hpc
          have h1 : ¬ (k : Int) < (n : Int) := by omega
          have B4 := below_alloc hb (.cells (bvs (noughts 16)).toArray 5) (Nat.le_refl _)
          have f4 := fr_mkN wr 5 16 (by omega) (Nat.le_refl wr.heap.size)
          have hp4 := hpc.alloc hb.size (.cells (bvs (noughts 16)).toArray 5)
          have k1 := fun N => conv (hp4.drewN N) (256 - r)
          have k2 := fun N => conv (f4.rd.drewN N) 16
          rw [show List.replicate 16 (0 : UInt8) = noughts 16 from rfl] at k1
          have HB4 := Lib.hid B4
          clear B4 hp4 f4 hpc hb hrow hr
          go_wp2
          go_quiet (fail)
          go_wp2
          go_roundw
          case rel => exact ⟨k + 1, by omega, rfl, below_drewN HB4.out _⟩
          case measure => simp [intOf]; omega
      · obtain rfl : k = 16 := by omega
        go_wp2
        go_ret
        exact ⟨rfl, below_to HB2.out hb HB2.out.size⟩
  · have B2 := below_to b1 b2 b1.size
    clear b1 b2
    go_wp2
    go_ret
    exact ⟨rfl, B2⟩
theorem ptrPlaces_walk (A : Option Addr) (n c : Nat) (l : List Pt) (w : World) (hl : l.length = n) (hU : AllU l) (hr : Rd w w.heap.size 5 A n (pcs l)) :
    Calls Try.prog 9 #[.slice A n c] w fun e w' => e = .returned (.bool true) ∧ Below w.heap.size w w' := by
  by_cases hg : 1000 < (n : Int)
  · exact ptrPlaces_great A n c w hg
  · by_cases h : 16 < (n : Int)
    · exact ptrPlaces_many A n c w hg h
    · exact ptrPlaces_le A n c l w hl (by omega) hU hr
end Go.Proofs.Ytgcagenhfddpgaa
