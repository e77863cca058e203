/-
  Walk of the statement MixPiece.
-/
import Derived.Test.YtfjjkkakhfgdhaaLaw02b
import Derived.Test.YtfjjkkakhfgdhaaMathP
namespace Go.Proofs.Ytfjjkkakhfgdhaa
open Go.RowKit
set_option linter.unusedVariables false
set_option linter.unusedSimpArgs false
set_option maxRecDepth 100000

theorem conv {w : World} {B n : Nat} {A : Option Addr} {l : List UInt8} (h : Rd w B 1 A n (bvs l)) (c : Nat) : (convert 28 9 (.slice A n c)).run Try.prog w = .ok (.string (str l)) w :=
  run_conv Try.underlying28 Try.underlying5 Try.underlying9 h c
def PieceRel (l os : List UInt8) (n r g c : Nat) (w : World) (i : Value) (wr : World) : Prop :=
  ∃ (k : Nat) (m : List UInt8), k ≤ 8 ∧ i = .int .i64 k ∧ m.length = n ∧ (∀ j : Nat, j / 8 ≠ r → l[j]? = m[j]?) ∧ Fr wr (w.heap.size + 1) 5 1 (some ⟨g, 0, none⟩) n c (bvs m) ∧
    wr.heap[w.heap.size]? = some (.cells (bvs os).toArray 30 (0, 0)) ∧ Below w.heap.size w wr
theorem mixPiece_walk (A : Option Addr) (n c : Nat) (l : List UInt8) (t : Nat) (ht : t ≤ 65535) (os : List UInt8) (ho : os.length = 8) (w : World) (hl : l.length = n) (hcap : n ≤ c) (hr : Rd w w.heap.size 1 A n (bvs l)) :
    Calls Try.prog 5 #[.slice A n c, .int .u16 (t : Int), .agg (bvs os).toArray] w fun e w' => e = .returned (.bool true) ∧ Below w.heap.size w w' := by
  by_cases hn : 0 < n ∧ n ≤ 10000
  · obtain ⟨hn0, hn1⟩ := hn
    have h1 : ¬ ((10000 : Int) < (n : Int)) := by omega
    have h0 : ¬ ((n : Int) = 0) := by omega
    have h0' : ¬ (n = 0) := by omega
    have hne : (((n : Int) == 0) || decide ((10000 : Int) < (n : Int))) = false := by simp; omega
    have hne1 : ((n : Int) == 0) = false := by simp; omega
    go_enter Try.func5, Try.ntmps5
    have hb0 : Below w.heap.size w (w.alloc (.cells (bvs os).toArray 30)) := (Below.refl _ w).alloc (Nat.le_refl _) _
    have ho0 : (w.alloc (.cells (bvs os).toArray 30)).heap[w.heap.size]? = some (.cells (bvs os).toArray 30 (0, 0)) := heap_alloc_new w _
    have hz0 : (w.alloc (.cells (bvs os).toArray 30)).heap.size = w.heap.size + 1 := by simp only [World.alloc, Array.size_push]
    have m0 : IntKind.i64.wrap (t : Int) = (t : Int) := IntWalk.i64_in _ (by omega)
    have m1 : (t : Int).tmod (n : Int) = ((t % n : Nat) : Int) := by rw [Int.tmod_eq_emod_of_nonneg (by omega)]; omega
    have hlt := Nat.mod_lt t hn0
    obtain ⟨q, hq⟩ : ∃ q, q = t % n := ⟨_, rfl⟩
    rw [← hq] at m1 hlt
    have m2 : ((q : Int)).tdiv 8 = ((q / 8 : Nat) : Int) := by rw [Int.tdiv_eq_ediv_of_nonneg (by omega)]; omega
    clear hq
    go_wp2_with fail
    refine (alive02 _).mono ?_
    rintro e w1 ⟨rfl, b1⟩
    rw [hz0] at b1
    have hb1 := hb0.trans (below_mono b1 (by omega))
    have ho1 := (b1.block w.heap.size (by omega)).trans ho0
    have hz1 := b1.size
    rw [hz0] at hz1
    clear b1 hb0 ho0 hz0
    go_wp2_with (at_builtin; refine wpList_append_to rfl (.tmp 32) (.tmp 33) rfl okB rfl (Fr.none_ (base := w.heap.size + 1)) rfl (hr.below hb1) (bvs_one _) n (Nat.zero_add n) _ (List.nil_append _) (by unfold maxLen; omega) (by omega) hz1 ?_; intro D d w2 f2 g2 _)
    obtain ⟨g, rfl, hg1, hg2⟩ := f2.form (by have := f2.nc; omega)
    have hb2 := hb1.grown g2 (by omega) (by simp [rowOf_zero])
    have ho2 := (g2.block w.heap.size (by omega) (by simp [rowOf_zero])).trans ho1
    clear g2 ho1 hb1
    have m4 : (q : Int) / 8 * 8 = ((8 * (q / 8) : Nat) : Int) := by omega
    have hr8 : 8 * (q / 8) < n := by omega
    rw [m4]
    clear m0 m1 m2 m4 hlt
    generalize q / 8 = r at *
    go_loopw [10] (fun i wr => PieceRel l os n r g d w i wr) (fun i _ => 8 - (intOf i).toNat)
    case atStart => exact ⟨0, l, by omega, rfl, hl, fun _ _ => rfl, f2, ho2, hb2⟩
    case round =>
      clear f2 ho2 hb2
      obtain ⟨k, m, hk, rfl, hm, hsame, hf, ho2, hb⟩ := hrel
      have hgw : g ≠ w.heap.size := by omega
      by_cases hin : k < 8 ∧ 8 * r + k < n
      · obtain ⟨hk8, hkn⟩ := hin
        have j1 : (k : Int) < 8 := by omega
        have j2 : (8 * (r : Int)) + (k : Int) < (n : Int) := by omega
        have j3 : 0 ≤ (k : Int) := by omega
        have j4 : IntKind.i64.wrap (8 * (r : Int) + (k : Int)) = 8 * (r : Int) + (k : Int) := IntWalk.i64_in _ (by omega)
        have j5 : 0 ≤ 8 * (r : Int) + (k : Int) := by omega
        have j6 : (8 * (r : Int) + (k : Int)).toNat = 8 * r + k := by omega
        have hoc : wr.cell? ⟨w.heap.size, k, none⟩ = some (.int .u8 (os[k].toNat : Int)) := by
          simp [World.cell?, ho2, bvs, bv, show k < os.length by omega]
        obtain ⟨u, hu, hcell⟩ := hf.cell (i := 8 * r + k) hkn
        have hfro := hf.frozen (i := 8 * r + k) hkn
        clear hu
        have HF := Lib.hid hf
        have HO := Lib.hid ho2
        have HB := Lib.hid hb
        have HM := Lib.hid hsame
        clear hf ho2 hb hsame
        go_wp2
        go_roundw
        case rel =>
          refine ⟨k + 1, m.set (8 * r + k) os[k], by omega, by simp, by simp [hm], ?_, ?_, ?_, HB.out.setCell (p := ⟨g, 8 * r + k, none⟩) (by show w.heap.size ≤ g; omega) _⟩
          · intro j hj
            rw [List.getElem?_set_ne (by omega)]
            exact HM.out j hj
          · have h := HF.out.set (by have := HF.out.nc; omega) (8 * r + k) (.int .u8 (os[k].toNat : Int))
            simpa [bvs, bv, List.map_set] using h
          · exact (Below.heap_setCell _ _ _ _ (by show w.heap.size ≠ g; omega)).trans HO.out
        case measure => simp [intOf]; omega
      · have hex : (decide ((k : Int) < 8) && decide (8 * (r : Int) + (k : Int) < (n : Int))) = false := by simp; omega
        have hrl := hr.below hb
        have hrm := hf.rd
        have hdm := hf.nc
        have hbs := hb.size
        have hCl := fun W (h : Below wr.heap.size wr W) => x_four A n c l W hl (by omega) hcap (((hrl.belowH h hbs)).more (by have := h.size; omega))
        have hCm := fun W (h : Below wr.heap.size wr W) => x_four (some ⟨g, 0, none⟩) n d m W hm (by omega) hdm ((hrm.below h).more h.size)
        have hinj : ((wi (fourOf l).a == wi (fourOf m).a) && ((wi (fourOf l).b == wi (fourOf m).b) && ((wi (fourOf l).c == wi (fourOf m).c) && (wi (fourOf l).d == wi (fourOf m).d)))) = ((str l).toList == (str m).toList) := by
          rw [str_toList, str_toList]
          by_cases he : l = m
          · subst he; simp
          · have hf4 : fourOf l ≠ fourOf m := fun h4 => he (four_piece (by omega) (by omega) hsame h4)
            have hr1 : (l == m) = false := by simpa using he
            rw [hr1]
            cases hb4 : ((wi (fourOf l).a == wi (fourOf m).a) && ((wi (fourOf l).b == wi (fourOf m).b) && ((wi (fourOf l).c == wi (fourOf m).c) && (wi (fourOf l).d == wi (fourOf m).d)))) with
            | false => rfl
            | true =>
              simp only [Bool.and_eq_true, beq_iff_eq] at hb4
              exact absurd (w4_inj hb4.1 hb4.2.1 hb4.2.2.1 hb4.2.2.2) hf4
        have HCl := Lib.hid hCl
        have HCm := Lib.hid hCm
        have HRL := Lib.hid hrl
        have HRM := Lib.hid hrm
        have HB := Lib.hid hb
        clear hCl hCm hrl hrm hb hf ho2 hsame hr
        generalize fourOf l = X at *
        generalize fourOf m = Y at *
        have hq := run_four_in
        have hq' := run_four_eq
        have hrefl : Below wr.heap.size wr wr := Below.refl _ _
        go_wp2
        all_goals
          go_region_held3 (fun w' => ((convert 28 9 (.slice A n c)).run Try.prog w' = .ok (.string (str l)) w' ∧ (convert 28 9 (.slice (some ⟨g, 0, none⟩) n d)).run Try.prog w' = .ok (.string (str m)) w') ∧ Below wr.heap.size wr w')
            (first
              | exact ⟨⟨conv (HRL.out.drew) _, conv (HRM.out.drew) _⟩, ⟨hrefl.os, hrefl.tape, hrefl.output, hrefl.size, hrefl.block⟩⟩
              | (have hq2 := keepBelow (keepBelow (W := wr) (w1 := wr.drew) ⟨hrefl.os, hrefl.tape, hrefl.output, hrefl.size, hrefl.block⟩ hbb) hbb2; exact ⟨⟨conv (HRL.out.belowH hq2 hbs) _, conv (HRM.out.below hq2) _⟩, hq2⟩)
              | (have hq2 := keepBelow (W := wr) (w1 := wr.drew) ⟨hrefl.os, hrefl.tape, hrefl.output, hrefl.size, hrefl.block⟩ hbb; exact ⟨⟨conv (HRL.out.belowH hq2 hbs) _, conv (HRM.out.below hq2) _⟩, hq2⟩)
              | assumption)
            (first
              | (go_at_call 24; refine (HCl.out wr.drew ⟨hrefl.os, hrefl.tape, hrefl.output, hrefl.size, hrefl.block⟩).mono ?_; rintro e w' ⟨rfl, hbb⟩)
              | (go_at_call 24; refine (HCm.out _ (keepBelow (W := wr) (w1 := wr.drew) ⟨hrefl.os, hrefl.tape, hrefl.output, hrefl.size, hrefl.block⟩ hbb)).mono ?_; rintro e w' ⟨rfl, hbb2⟩))
          rename_i hh
          have h := HB.out.trans (below_mono hh.2 hbs)
          go_wp2
          go_ret
          exact ⟨rfl, h⟩
  · have hb0 : Below w.heap.size w (w.alloc (.cells (bvs os).toArray 30)) := (Below.refl _ w).alloc (Nat.le_refl _) _
    have hz0 : (w.alloc (.cells (bvs os).toArray 30)).heap.size = w.heap.size + 1 := by simp only [World.alloc, Array.size_push]
    clear hr
    rcases (show n = 0 ∨ 10000 < n by omega) with h | h
    · subst h
      go_enter Try.func5, Try.ntmps5
      go_wp2_with fail
      refine (alive02 _).mono ?_
      rintro e w1 ⟨rfl, b1⟩
      have hb1 := hb0.trans (below_mono b1 (by omega))
      clear b1 hb0
      go_wp2
      go_ret
      exact ⟨rfl, hb1⟩
    · have h1 : (10000 : Int) < (n : Int) := by omega
      have h0 : ¬ ((n : Int) = 0) := by omega
      have h2 : ((n : Int) == 0) = false := by simp; omega
      go_enter Try.func5, Try.ntmps5
      go_wp2_with fail
      refine (alive02 _).mono ?_
      rintro e w1 ⟨rfl, b1⟩
      have hb1 := hb0.trans (below_mono b1 (by omega))
      clear b1 hb0
      go_wp2
      go_ret
      exact ⟨rfl, hb1⟩
end Go.Proofs.Ytfjjkkakhfgdhaa
