/-
  charterhouseref07: contract of Recover.
-/
import Derived.Test.YtoggpnncmgcgoaaRef07c
namespace Go.Proofs.Ytoggpnncmgcgoaa
open Go.RowKit
set_option linter.unusedVariables false
set_option linter.unusedSimpArgs false
set_option maxRecDepth 100000

def QrIn (leaf place : Nat) (v : List UInt8) (d : Nat) (w : World) (val n : Value) (wr : World) : Prop :=
  ∃ j A c, d + j ≤ 15 ∧ n = .int .i64 ((d + j : Nat) : Int) ∧ val = .slice A 16 c ∧ Rd wr wr.heap.size 1 A 16 (bvs (onN leaf place v d j)) ∧ Below w.heap.size w wr
def QrRel (leaf : Nat) (sig : List UInt8) (ds : List Nat) (w : World) (out i : Value) (wr : World) : Prop :=
  ∃ k A c, k ≤ 10 ∧ i = .int .i64 (k : Nat) ∧ out = .slice A (16 * k) c ∧ Fr wr w.heap.size 5 1 A (16 * k) c (bvs (recN leaf sig ds k)) ∧ Below w.heap.size w wr
theorem Rd.sub16q {w : World} {B n g off : Nat} {l : List UInt8} (h : Rd w B 1 (some ⟨g, off, none⟩) n (bvs l)) (at_ : Nat) (hl : at_ + 16 ≤ n) : Rd w B 1 (some ⟨g, off + at_, none⟩) 16 (bvs ((l.drop at_).take 16)) := by
  have hn := h.1
  rw [bvs_len, Nat.mul_one] at hn
  obtain ⟨b, o, he, hb, hc⟩ := h.2 (by omega)
  injection he with he
  injection he with e1 e2
  subst e1 e2
  refine ⟨by rw [bvs_len, List.length_take, List.length_drop]; omega, fun _ => ⟨g, off + at_, rfl, hb, fun j u hu => ?_⟩⟩
  have hj := (List.getElem?_eq_some_iff.1 hu).1
  rw [bvs_len, List.length_take, List.length_drop] at hj
  have := hc (at_ + j) u (by
    rw [bvs_get] at hu ⊢
    rw [List.getElem?_take_of_lt (by omega), List.getElem?_drop] at hu
    exact hu)
  rw [Nat.add_assoc]
  exact this
set_option maxHeartbeats 8000000 in
theorem q_recover (leaf : Nat) (T : Option Addr) (n t : Nat) (text : List UInt8) (A : Option Addr) (c : Nat) (sig : List UInt8) (w : World) (hlf : leaf < 8) (hl : text.length = n) (hn : n ≤ 1000000) (hrt : Rd w w.heap.size 1 T n (bvs text))
    (hs : sig.length = 160) (hc : 160 ≤ c) (hr : Rd w w.heap.size 1 A 160 (bvs sig)) :
    Calls Try.prog 26 #[.int .i64 (leaf : Int), .slice T n t, .slice A 160 c] w fun e w' => ∃ A' c', e = .returned (.tuple #[.slice A' 16 c', .int .i64 0]) ∧ Fr w' w.heap.size 5 1 A' 16 c' (bvs (recL leaf text sig)) ∧ Below w.heap.size w w' := by
  have hdg := q_digits T n t text w hl hn hrt
  have hd15 := getD_le (digL_len (sumN text)) (digL_le (sumN text))
  rw [recL]
  obtain ⟨ds, hds⟩ : ∃ ds, ds = digL (sumN text) := ⟨_, rfl⟩
  rw [← hds]
  simp only [← hds] at hdg hd15
  clear hds
  have HDG := Lib.hid hdg
  have HR := Lib.hid hr
  have H15 := Lib.hid hd15
  obtain ⟨g, o, rfl, hg, -⟩ := hr.2 (by omega)
  clear hdg hr hd15 hrt
  have g0 : ¬ ((leaf : Int) < 0) := by omega
  have g1 : ¬ (7 < (leaf : Int)) := by omega
  go_enter Try.func26, Try.ntmps26
  go_wp2_with fail
  refine HDG.out.mono ?_
  rintro e w1 ⟨D1, d1, rfl, f1, b1⟩
  have HF1 := Lib.hid f1
  have HB1 := Lib.hid b1
  clear f1 b1 HDG
  go_wp2
  go_loopw [9, 10] (fun out i wr => QrRel leaf sig ds w1 out i wr) (fun _ i _ => 10 - (intOf i).toNat)
  case atStart => exact ⟨0, none, 0, by omega, rfl, rfl, Fr.none_, Below.refl _ _⟩
  case round =>
    obtain ⟨k, A3, c3, hk, rfl, rfl, hf, hb⟩ := hrel
    by_cases hlt : k < 10
    · obtain ⟨g1, o1, rfl, hg1, hcell⟩ := ((HF1.out.rd.below hb).num hlt)
      have hx15 := H15.out k hlt
      have hnext : recN leaf sig ds (k + 1) = recN leaf sig ds k ++ onN leaf k ((sig.drop (16 * k)).take 16) (ds.getD k 0) (15 - ds.getD k 0) := rfl
      have hpl := part_len hs hlt
      have hsub := ((HR.out.below (below_to HB1.out hb HB1.out.size)).sub16q (16 * k) (by omega)).more (Nat.le_trans HB1.out.size hb.size)
      have HSUB := Lib.hid hsub
      have HPL := Lib.hid hpl
      have HNEXT := Lib.hid hnext
      have HF := Lib.hid hf
      have HB := Lib.hid hb
      have H15k := Lib.hid hx15
      clear hnext hf hb hx15 hsub hpl hg1
      generalize ds.getD k 0 = x at *
      generalize (sig.drop (16 * k)).take 16 = v at *
      rcases (show k = 0 ∨ k = 1 ∨ k = 2 ∨ k = 3 ∨ k = 4 ∨ k = 5 ∨ k = 6 ∨ k = 7 ∨ k = 8 ∨ k = 9 by omega) with rfl | rfl | rfl | rfl | rfl | rfl | rfl | rfl | rfl | rfl
      · have hc0 : ¬ c = 0 := by omega
        have hc1 : (0 : Int) ≤ (c : Int) := by omega
        have hc2 : (16 : Int) ≤ (c : Int) := by omega
        simp only [Nat.reduceMul, Nat.reduceAdd, Nat.add_zero, Nat.sub_zero] at HSUB HF HNEXT hcell
        rw [show ((0 : Nat) : Int) = 0 from rfl, show 16 * 0 = 0 from rfl]
        go_wp2
        go_loopw [11, 12] (fun val n W => QrIn leaf 0 v x wr val n W) (fun _ n _ => 15 - (intOf n).toNat)
        case atStart => exact ⟨0, _, _, H15k.out, rfl, rfl, HSUB.out, Below.refl _ _⟩
        case round =>
          obtain ⟨j, A5, c5, hj, rfl, rfl, hrj, hbj⟩ := hrel
          have hol := onN_len (leaf := leaf) (place := 0) (f := x) HPL.out j
          by_cases hjl : x + j < 15
          · have h1 : ((x + j : Nat) : Int) < 15 := by omega
            have hst : onN leaf 0 v x (j + 1) = stepB leaf 0 (onN leaf 0 v x j) (x + j) := rfl
            have HST := Lib.hid hst
            have HRJ := Lib.hid hrj
            have HBJ := Lib.hid hbj
            have HOL := Lib.hid hol
            clear hst hrj hbj hol
            generalize onN leaf 0 v x j = y at *
            generalize hz : x + j = z at *
            go_wp2_with fail
            refine (q_next A5 c5 y leaf 0 z _ HOL.out HRJ.out).mono ?_
            rintro e w2 ⟨A6, c6, rfl, f6, b6⟩
            have HB6 := Lib.hid (below_to HBJ.out b6 HBJ.out.size)
            have hr6 := f6.rd
            rw [← HST.out] at hr6
            clear f6 b6
            go_wp2
            go_roundw
            case rel => exact ⟨j + 1, A6, c6, by omega, by rw [← Nat.add_assoc, hz]; simp, rfl, hr6, HB6.out⟩
            case measure => simp [intOf]; omega
          · have hxj : x + j = 15 := by omega
            have hj15 : 15 - x = j := by omega
            have HF2 := Lib.hid (HF.out.below hbj (Nat.le_refl _))
            have HB2 := Lib.hid (below_to HB.out hbj HB.out.size)
            have HRJ := Lib.hid hrj
            rw [hj15] at HNEXT
            rw [hxj]
            clear hrj hbj hol hjl
            generalize onN leaf 0 v x j = y at *
            go_wp2_with (first
              | (at_builtin; refine wpList_append_to rfl (.tmp 48) (.tmp 49) rfl okB rfl HF2.out rfl HRJ.out (bvs_one _) (16 * (0 + 1)) (by omega) (bvs (recN leaf sig ds (0 + 1))) (by rw [HNEXT.out, bvs_app]) (by unfold maxLen; omega) (by omega) HB2.out.size ?_; intro D6 d6 w6 f6 g6 _))
            have b6 := HB2.out.grown g6 HB2.out.size (fun g hg => (HF2.out.row g hg).1)
            clear g6
            go_wp2
            go_roundw
            case rel => exact ⟨0 + 1, _, _, by omega, by simp, rfl, f6, b6⟩
            case measure => simp [intOf]
      · have hc0 : ¬ c = 16 := by omega
        have hc1 : (16 : Int) ≤ (c : Int) := by omega
        have hc2 : (32 : Int) ≤ (c : Int) := by omega
        simp only [Nat.reduceMul, Nat.reduceAdd, Nat.add_zero, Nat.sub_zero] at HSUB HF HNEXT hcell
        rw [show ((1 : Nat) : Int) = 1 from rfl, show 16 * 1 = 16 from rfl]
        go_wp2
        go_loopw [11, 12] (fun val n W => QrIn leaf 1 v x wr val n W) (fun _ n _ => 15 - (intOf n).toNat)
        case atStart => exact ⟨0, _, _, H15k.out, rfl, rfl, HSUB.out, Below.refl _ _⟩
        case round =>
          obtain ⟨j, A5, c5, hj, rfl, rfl, hrj, hbj⟩ := hrel
          have hol := onN_len (leaf := leaf) (place := 1) (f := x) HPL.out j
          by_cases hjl : x + j < 15
          · have h1 : ((x + j : Nat) : Int) < 15 := by omega
            have hst : onN leaf 1 v x (j + 1) = stepB leaf 1 (onN leaf 1 v x j) (x + j) := rfl
            have HST := Lib.hid hst
            have HRJ := Lib.hid hrj
            have HBJ := Lib.hid hbj
            have HOL := Lib.hid hol
            clear hst hrj hbj hol
            generalize onN leaf 1 v x j = y at *
            generalize hz : x + j = z at *
            go_wp2_with fail
            refine (q_next A5 c5 y leaf 1 z _ HOL.out HRJ.out).mono ?_
            rintro e w2 ⟨A6, c6, rfl, f6, b6⟩
            have HB6 := Lib.hid (below_to HBJ.out b6 HBJ.out.size)
            have hr6 := f6.rd
            rw [← HST.out] at hr6
            clear f6 b6
            go_wp2
            go_roundw
            case rel => exact ⟨j + 1, A6, c6, by omega, by rw [← Nat.add_assoc, hz]; simp, rfl, hr6, HB6.out⟩
            case measure => simp [intOf]; omega
          · have hxj : x + j = 15 := by omega
            have hj15 : 15 - x = j := by omega
            have HF2 := Lib.hid (HF.out.below hbj (Nat.le_refl _))
            have HB2 := Lib.hid (below_to HB.out hbj HB.out.size)
            have HRJ := Lib.hid hrj
            rw [hj15] at HNEXT
            rw [hxj]
            clear hrj hbj hol hjl
            generalize onN leaf 1 v x j = y at *
            go_wp2_with (first
              | (at_builtin; refine wpList_append_to rfl (.tmp 48) (.tmp 49) rfl okB rfl HF2.out rfl HRJ.out (bvs_one _) (16 * (1 + 1)) (by omega) (bvs (recN leaf sig ds (1 + 1))) (by rw [HNEXT.out, bvs_app]) (by unfold maxLen; omega) (by omega) HB2.out.size ?_; intro D6 d6 w6 f6 g6 _))
            have b6 := HB2.out.grown g6 HB2.out.size (fun g hg => (HF2.out.row g hg).1)
            clear g6
            go_wp2
            go_roundw
            case rel => exact ⟨1 + 1, _, _, by omega, by simp, rfl, f6, b6⟩
            case measure => simp [intOf]
      · have hc0 : ¬ c = 32 := by omega
        have hc1 : (32 : Int) ≤ (c : Int) := by omega
        have hc2 : (48 : Int) ≤ (c : Int) := by omega
        simp only [Nat.reduceMul, Nat.reduceAdd, Nat.add_zero, Nat.sub_zero] at HSUB HF HNEXT hcell
        rw [show ((2 : Nat) : Int) = 2 from rfl, show 16 * 2 = 32 from rfl]
        go_wp2
        go_loopw [11, 12] (fun val n W => QrIn leaf 2 v x wr val n W) (fun _ n _ => 15 - (intOf n).toNat)
        case atStart => exact ⟨0, _, _, H15k.out, rfl, rfl, HSUB.out, Below.refl _ _⟩
        case round =>
          obtain ⟨j, A5, c5, hj, rfl, rfl, hrj, hbj⟩ := hrel
          have hol := onN_len (leaf := leaf) (place := 2) (f := x) HPL.out j
          by_cases hjl : x + j < 15
          · have h1 : ((x + j : Nat) : Int) < 15 := by omega
            have hst : onN leaf 2 v x (j + 1) = stepB leaf 2 (onN leaf 2 v x j) (x + j) := rfl
            have HST := Lib.hid hst
            have HRJ := Lib.hid hrj
            have HBJ := Lib.hid hbj
            have HOL := Lib.hid hol
            clear hst hrj hbj hol
            generalize onN leaf 2 v x j = y at *
            generalize hz : x + j = z at *
            go_wp2_with fail
            refine (q_next A5 c5 y leaf 2 z _ HOL.out HRJ.out).mono ?_
            rintro e w2 ⟨A6, c6, rfl, f6, b6⟩
            have HB6 := Lib.hid (below_to HBJ.out b6 HBJ.out.size)
            have hr6 := f6.rd
            rw [← HST.out] at hr6
            clear f6 b6
            go_wp2
            go_roundw
            case rel => exact ⟨j + 1, A6, c6, by omega, by rw [← Nat.add_assoc, hz]; simp, rfl, hr6, HB6.out⟩
            case measure => simp [intOf]; omega
          · have hxj : x + j = 15 := by omega
            have hj15 : 15 - x = j := by omega
            have HF2 := Lib.hid (HF.out.below hbj (Nat.le_refl _))
            have HB2 := Lib.hid (below_to HB.out hbj HB.out.size)
            have HRJ := Lib.hid hrj
            rw [hj15] at HNEXT
            rw [hxj]
            clear hrj hbj hol hjl
            generalize onN leaf 2 v x j = y at *
            go_wp2_with (first
              | (at_builtin; refine wpList_append_to rfl (.tmp 48) (.tmp 49) rfl okB rfl HF2.out rfl HRJ.out (bvs_one _) (16 * (2 + 1)) (by omega) (bvs (recN leaf sig ds (2 + 1))) (by rw [HNEXT.out, bvs_app]) (by unfold maxLen; omega) (by omega) HB2.out.size ?_; intro D6 d6 w6 f6 g6 _))
            have b6 := HB2.out.grown g6 HB2.out.size (fun g hg => (HF2.out.row g hg).1)
            clear g6
            go_wp2
            go_roundw
            case rel => exact ⟨2 + 1, _, _, by omega, by simp, rfl, f6, b6⟩
            case measure => simp [intOf]
      · have hc0 : ¬ c = 48 := by omega
        have hc1 : (48 : Int) ≤ (c : Int) := by omega
        have hc2 : (64 : Int) ≤ (c : Int) := by omega
        simp only [Nat.reduceMul, Nat.reduceAdd, Nat.add_zero, Nat.sub_zero] at HSUB HF HNEXT hcell
        rw [show ((3 : Nat) : Int) = 3 from rfl, show 16 * 3 = 48 from rfl]
        go_wp2
        go_loopw [11, 12] (fun val n W => QrIn leaf 3 v x wr val n W) (fun _ n _ => 15 - (intOf n).toNat)
        case atStart => exact ⟨0, _, _, H15k.out, rfl, rfl, HSUB.out, Below.refl _ _⟩
        case round =>
          obtain ⟨j, A5, c5, hj, rfl, rfl, hrj, hbj⟩ := hrel
          have hol := onN_len (leaf := leaf) (place := 3) (f := x) HPL.out j
          by_cases hjl : x + j < 15
          · have h1 : ((x + j : Nat) : Int) < 15 := by omega
            have hst : onN leaf 3 v x (j + 1) = stepB leaf 3 (onN leaf 3 v x j) (x + j) := rfl
            have HST := Lib.hid hst
            have HRJ := Lib.hid hrj
            have HBJ := Lib.hid hbj
            have HOL := Lib.hid hol
            clear hst hrj hbj hol
            generalize onN leaf 3 v x j = y at *
            generalize hz : x + j = z at *
            go_wp2_with fail
            refine (q_next A5 c5 y leaf 3 z _ HOL.out HRJ.out).mono ?_
            rintro e w2 ⟨A6, c6, rfl, f6, b6⟩
            have HB6 := Lib.hid (below_to HBJ.out b6 HBJ.out.size)
            have hr6 := f6.rd
            rw [← HST.out] at hr6
            clear f6 b6
            go_wp2
            go_roundw
            case rel => exact ⟨j + 1, A6, c6, by omega, by rw [← Nat.add_assoc, hz]; simp, rfl, hr6, HB6.out⟩
            case measure => simp [intOf]; omega
          · have hxj : x + j = 15 := by omega
            have hj15 : 15 - x = j := by omega
            have HF2 := Lib.hid (HF.out.below hbj (Nat.le_refl _))
            have HB2 := Lib.hid (below_to HB.out hbj HB.out.size)
            have HRJ := Lib.hid hrj
            rw [hj15] at HNEXT
            rw [hxj]
            clear hrj hbj hol hjl
            generalize onN leaf 3 v x j = y at *
            go_wp2_with (first
              | (at_builtin; refine wpList_append_to rfl (.tmp 48) (.tmp 49) rfl okB rfl HF2.out rfl HRJ.out (bvs_one _) (16 * (3 + 1)) (by omega) (bvs (recN leaf sig ds (3 + 1))) (by rw [HNEXT.out, bvs_app]) (by unfold maxLen; omega) (by omega) HB2.out.size ?_; intro D6 d6 w6 f6 g6 _))
            have b6 := HB2.out.grown g6 HB2.out.size (fun g hg => (HF2.out.row g hg).1)
            clear g6
            go_wp2
            go_roundw
            case rel => exact ⟨3 + 1, _, _, by omega, by simp, rfl, f6, b6⟩
            case measure => simp [intOf]
      · have hc0 : ¬ c = 64 := by omega
        have hc1 : (64 : Int) ≤ (c : Int) := by omega
        have hc2 : (80 : Int) ≤ (c : Int) := by omega
        simp only [Nat.reduceMul, Nat.reduceAdd, Nat.add_zero, Nat.sub_zero] at HSUB HF HNEXT hcell
        rw [show ((4 : Nat) : Int) = 4 from rfl, show 16 * 4 = 64 from rfl]
        go_wp2
        go_loopw [11, 12] (fun val n W => QrIn leaf 4 v x wr val n W) (fun _ n _ => 15 - (intOf n).toNat)
        case atStart => exact ⟨0, _, _, H15k.out, rfl, rfl, HSUB.out, Below.refl _ _⟩
        case round =>
          obtain ⟨j, A5, c5, hj, rfl, rfl, hrj, hbj⟩ := hrel
          have hol := onN_len (leaf := leaf) (place := 4) (f := x) HPL.out j
          by_cases hjl : x + j < 15
          · have h1 : ((x + j : Nat) : Int) < 15 := by omega
            have hst : onN leaf 4 v x (j + 1) = stepB leaf 4 (onN leaf 4 v x j) (x + j) := rfl
            have HST := Lib.hid hst
            have HRJ := Lib.hid hrj
            have HBJ := Lib.hid hbj
            have HOL := Lib.hid hol
            clear hst hrj hbj hol
            generalize onN leaf 4 v x j = y at *
            generalize hz : x + j = z at *
            go_wp2_with fail
            refine (q_next A5 c5 y leaf 4 z _ HOL.out HRJ.out).mono ?_
            rintro e w2 ⟨A6, c6, rfl, f6, b6⟩
            have HB6 := Lib.hid (below_to HBJ.out b6 HBJ.out.size)
            have hr6 := f6.rd
            rw [← HST.out] at hr6
            clear f6 b6
            go_wp2
            go_roundw
            case rel => exact ⟨j + 1, A6, c6, by omega, by rw [← Nat.add_assoc, hz]; simp, rfl, hr6, HB6.out⟩
            case measure => simp [intOf]; omega
          · have hxj : x + j = 15 := by omega
            have hj15 : 15 - x = j := by omega
            have HF2 := Lib.hid (HF.out.below hbj (Nat.le_refl _))
            have HB2 := Lib.hid (below_to HB.out hbj HB.out.size)
            have HRJ := Lib.hid hrj
            rw [hj15] at HNEXT
            rw [hxj]
            clear hrj hbj hol hjl
            generalize onN leaf 4 v x j = y at *
            go_wp2_with (first
              | (at_builtin; refine wpList_append_to rfl (.tmp 48) (.tmp 49) rfl okB rfl HF2.out rfl HRJ.out (bvs_one _) (16 * (4 + 1)) (by omega) (bvs (recN leaf sig ds (4 + 1))) (by rw [HNEXT.out, bvs_app]) (by unfold maxLen; omega) (by omega) HB2.out.size ?_; intro D6 d6 w6 f6 g6 _))
            have b6 := HB2.out.grown g6 HB2.out.size (fun g hg => (HF2.out.row g hg).1)
            clear g6
            go_wp2
            go_roundw
            case rel => exact ⟨4 + 1, _, _, by omega, by simp, rfl, f6, b6⟩
            case measure => simp [intOf]
      · have hc0 : ¬ c = 80 := by omega
        have hc1 : (80 : Int) ≤ (c : Int) := by omega
        have hc2 : (96 : Int) ≤ (c : Int) := by omega
        simp only [Nat.reduceMul, Nat.reduceAdd, Nat.add_zero, Nat.sub_zero] at HSUB HF HNEXT hcell
        rw [show ((5 : Nat) : Int) = 5 from rfl, show 16 * 5 = 80 from rfl]
        go_wp2
        go_loopw [11, 12] (fun val n W => QrIn leaf 5 v x wr val n W) (fun _ n _ => 15 - (intOf n).toNat)
        case atStart => exact ⟨0, _, _, H15k.out, rfl, rfl, HSUB.out, Below.refl _ _⟩
        case round =>
          obtain ⟨j, A5, c5, hj, rfl, rfl, hrj, hbj⟩ := hrel
          have hol := onN_len (leaf := leaf) (place := 5) (f := x) HPL.out j
          by_cases hjl : x + j < 15
          · have h1 : ((x + j : Nat) : Int) < 15 := by omega
            have hst : onN leaf 5 v x (j + 1) = stepB leaf 5 (onN leaf 5 v x j) (x + j) := rfl
            have HST := Lib.hid hst
            have HRJ := Lib.hid hrj
            have HBJ := Lib.hid hbj
            have HOL := Lib.hid hol
            clear hst hrj hbj hol
            generalize onN leaf 5 v x j = y at *
            generalize hz : x + j = z at *
            go_wp2_with fail
            refine (q_next A5 c5 y leaf 5 z _ HOL.out HRJ.out).mono ?_
            rintro e w2 ⟨A6, c6, rfl, f6, b6⟩
            have HB6 := Lib.hid (below_to HBJ.out b6 HBJ.out.size)
            have hr6 := f6.rd
            rw [← HST.out] at hr6
            clear f6 b6
            go_wp2
            go_roundw
            case rel => exact ⟨j + 1, A6, c6, by omega, by rw [← Nat.add_assoc, hz]; simp, rfl, hr6, HB6.out⟩
            case measure => simp [intOf]; omega
          · have hxj : x + j = 15 := by omega
            have hj15 : 15 - x = j := by omega
            have HF2 := Lib.hid (HF.out.below hbj (Nat.le_refl _))
            have HB2 := Lib.hid (below_to HB.out hbj HB.out.size)
            have HRJ := Lib.hid hrj
            rw [hj15] at HNEXT
            rw [hxj]
            clear hrj hbj hol hjl
            generalize onN leaf 5 v x j = y at *
            go_wp2_with (first
              | (at_builtin; refine wpList_append_to rfl (.tmp 48) (.tmp 49) rfl okB rfl HF2.out rfl HRJ.out (bvs_one _) (16 * (5 + 1)) (by omega) (bvs (recN leaf sig ds (5 + 1))) (by rw [HNEXT.out, bvs_app]) (by unfold maxLen; omega) (by omega) HB2.out.size ?_; intro D6 d6 w6 f6 g6 _))
            have b6 := HB2.out.grown g6 HB2.out.size (fun g hg => (HF2.out.row g hg).1)
            clear g6
            go_wp2
            go_roundw
            case rel => exact ⟨5 + 1, _, _, by omega, by simp, rfl, f6, b6⟩
            case measure => simp [intOf]
      · have hc0 : ¬ c = 96 := by omega
        have hc1 : (96 : Int) ≤ (c : Int) := by omega
        have hc2 : (112 : Int) ≤ (c : Int) := by omega
        simp only [Nat.reduceMul, Nat.reduceAdd, Nat.add_zero, Nat.sub_zero] at HSUB HF HNEXT hcell
        rw [show ((6 : Nat) : Int) = 6 from rfl, show 16 * 6 = 96 from rfl]
        go_wp2
        go_loopw [11, 12] (fun val n W => QrIn leaf 6 v x wr val n W) (fun _ n _ => 15 - (intOf n).toNat)
        case atStart => exact ⟨0, _, _, H15k.out, rfl, rfl, HSUB.out, Below.refl _ _⟩
        case round =>
          obtain ⟨j, A5, c5, hj, rfl, rfl, hrj, hbj⟩ := hrel
          have hol := onN_len (leaf := leaf) (place := 6) (f := x) HPL.out j
          by_cases hjl : x + j < 15
          · have h1 : ((x + j : Nat) : Int) < 15 := by omega
            have hst : onN leaf 6 v x (j + 1) = stepB leaf 6 (onN leaf 6 v x j) (x + j) := rfl
            have HST := Lib.hid hst
            have HRJ := Lib.hid hrj
            have HBJ := Lib.hid hbj
            have HOL := Lib.hid hol
            clear hst hrj hbj hol
            generalize onN leaf 6 v x j = y at *
            generalize hz : x + j = z at *
            go_wp2_with fail
            refine (q_next A5 c5 y leaf 6 z _ HOL.out HRJ.out).mono ?_
            rintro e w2 ⟨A6, c6, rfl, f6, b6⟩
            have HB6 := Lib.hid (below_to HBJ.out b6 HBJ.out.size)
            have hr6 := f6.rd
            rw [← HST.out] at hr6
            clear f6 b6
            go_wp2
            go_roundw
            case rel => exact ⟨j + 1, A6, c6, by omega, by rw [← Nat.add_assoc, hz]; simp, rfl, hr6, HB6.out⟩
            case measure => simp [intOf]; omega
          · have hxj : x + j = 15 := by omega
            have hj15 : 15 - x = j := by omega
            have HF2 := Lib.hid (HF.out.below hbj (Nat.le_refl _))
            have HB2 := Lib.hid (below_to HB.out hbj HB.out.size)
            have HRJ := Lib.hid hrj
            rw [hj15] at HNEXT
            rw [hxj]
            clear hrj hbj hol hjl
            generalize onN leaf 6 v x j = y at *
            go_wp2_with (first
              | (at_builtin; refine wpList_append_to rfl (.tmp 48) (.tmp 49) rfl okB rfl HF2.out rfl HRJ.out (bvs_one _) (16 * (6 + 1)) (by omega) (bvs (recN leaf sig ds (6 + 1))) (by rw [HNEXT.out, bvs_app]) (by unfold maxLen; omega) (by omega) HB2.out.size ?_; intro D6 d6 w6 f6 g6 _))
            have b6 := HB2.out.grown g6 HB2.out.size (fun g hg => (HF2.out.row g hg).1)
            clear g6
            go_wp2
            go_roundw
            case rel => exact ⟨6 + 1, _, _, by omega, by simp, rfl, f6, b6⟩
            case measure => simp [intOf]
      · have hc0 : ¬ c = 112 := by omega
        have hc1 : (112 : Int) ≤ (c : Int) := by omega
        have hc2 : (128 : Int) ≤ (c : Int) := by omega
        simp only [Nat.reduceMul, Nat.reduceAdd, Nat.add_zero, Nat.sub_zero] at HSUB HF HNEXT hcell
        rw [show ((7 : Nat) : Int) = 7 from rfl, show 16 * 7 = 112 from rfl]
        go_wp2
        go_loopw [11, 12] (fun val n W => QrIn leaf 7 v x wr val n W) (fun _ n _ => 15 - (intOf n).toNat)
        case atStart => exact ⟨0, _, _, H15k.out, rfl, rfl, HSUB.out, Below.refl _ _⟩
        case round =>
          obtain ⟨j, A5, c5, hj, rfl, rfl, hrj, hbj⟩ := hrel
          have hol := onN_len (leaf := leaf) (place := 7) (f := x) HPL.out j
          by_cases hjl : x + j < 15
          · have h1 : ((x + j : Nat) : Int) < 15 := by omega
            have hst : onN leaf 7 v x (j + 1) = stepB leaf 7 (onN leaf 7 v x j) (x + j) := rfl
            have HST := Lib.hid hst
            have HRJ := Lib.hid hrj
            have HBJ := Lib.hid hbj
            have HOL := Lib.hid hol
            clear hst hrj hbj hol
            generalize onN leaf 7 v x j = y at *
            generalize hz : x + j = z at *
            go_wp2_with fail
            refine (q_next A5 c5 y leaf 7 z _ HOL.out HRJ.out).mono ?_
            rintro e w2 ⟨A6, c6, rfl, f6, b6⟩
            have HB6 := Lib.hid (below_to HBJ.out b6 HBJ.out.size)
            have hr6 := f6.rd
            rw [← HST.out] at hr6
            clear f6 b6
            go_wp2
            go_roundw
            case rel => exact ⟨j + 1, A6, c6, by omega, by rw [← Nat.add_assoc, hz]; simp, rfl, hr6, HB6.out⟩
            case measure => simp [intOf]; omega
          · have hxj : x + j = 15 := by omega
            have hj15 : 15 - x = j := by omega
            have HF2 := Lib.hid (HF.out.below hbj (Nat.le_refl _))
            have HB2 := Lib.hid (below_to HB.out hbj HB.out.size)
            have HRJ := Lib.hid hrj
            rw [hj15] at HNEXT
            rw [hxj]
            clear hrj hbj hol hjl
            generalize onN leaf 7 v x j = y at *
            go_wp2_with (first
              | (at_builtin; refine wpList_append_to rfl (.tmp 48) (.tmp 49) rfl okB rfl HF2.out rfl HRJ.out (bvs_one _) (16 * (7 + 1)) (by omega) (bvs (recN leaf sig ds (7 + 1))) (by rw [HNEXT.out, bvs_app]) (by unfold maxLen; omega) (by omega) HB2.out.size ?_; intro D6 d6 w6 f6 g6 _))
            have b6 := HB2.out.grown g6 HB2.out.size (fun g hg => (HF2.out.row g hg).1)
            clear g6
            go_wp2
            go_roundw
            case rel => exact ⟨7 + 1, _, _, by omega, by simp, rfl, f6, b6⟩
            case measure => simp [intOf]
      · have hc0 : ¬ c = 128 := by omega
        have hc1 : (128 : Int) ≤ (c : Int) := by omega
        have hc2 : (144 : Int) ≤ (c : Int) := by omega
        simp only [Nat.reduceMul, Nat.reduceAdd, Nat.add_zero, Nat.sub_zero] at HSUB HF HNEXT hcell
        rw [show ((8 : Nat) : Int) = 8 from rfl, show 16 * 8 = 128 from rfl]
        go_wp2
        go_loopw [11, 12] (fun val n W => QrIn leaf 8 v x wr val n W) (fun _ n _ => 15 - (intOf n).toNat)
        case atStart => exact ⟨0, _, _, H15k.out, rfl, rfl, HSUB.out, Below.refl _ _⟩
        case round =>
          obtain ⟨j, A5, c5, hj, rfl, rfl, hrj, hbj⟩ := hrel
          have hol := onN_len (leaf := leaf) (place := 8) (f := x) HPL.out j
          by_cases hjl : x + j < 15
          · have h1 : ((x + j : Nat) : Int) < 15 := by omega
            have hst : onN leaf 8 v x (j + 1) = stepB leaf 8 (onN leaf 8 v x j) (x + j) := rfl
            have HST := Lib.hid hst
            have HRJ := Lib.hid hrj
            have HBJ := Lib.hid hbj
            have HOL := Lib.hid hol
            clear hst hrj hbj hol
            generalize onN leaf 8 v x j = y at *
            generalize hz : x + j = z at *
            go_wp2_with fail
            refine (q_next A5 c5 y leaf 8 z _ HOL.out HRJ.out).mono ?_
            rintro e w2 ⟨A6, c6, rfl, f6, b6⟩
            have HB6 := Lib.hid (below_to HBJ.out b6 HBJ.out.size)
            have hr6 := f6.rd
            rw [← HST.out] at hr6
            clear f6 b6
            go_wp2
            go_roundw
            case rel => exact ⟨j + 1, A6, c6, by omega, by rw [← Nat.add_assoc, hz]; simp, rfl, hr6, HB6.out⟩
            case measure => simp [intOf]; omega
          · have hxj : x + j = 15 := by omega
            have hj15 : 15 - x = j := by omega
            have HF2 := Lib.hid (HF.out.below hbj (Nat.le_refl _))
            have HB2 := Lib.hid (below_to HB.out hbj HB.out.size)
            have HRJ := Lib.hid hrj
            rw [hj15] at HNEXT
            rw [hxj]
            clear hrj hbj hol hjl
            generalize onN leaf 8 v x j = y at *
            go_wp2_with (first
              | (at_builtin; refine wpList_append_to rfl (.tmp 48) (.tmp 49) rfl okB rfl HF2.out rfl HRJ.out (bvs_one _) (16 * (8 + 1)) (by omega) (bvs (recN leaf sig ds (8 + 1))) (by rw [HNEXT.out, bvs_app]) (by unfold maxLen; omega) (by omega) HB2.out.size ?_; intro D6 d6 w6 f6 g6 _))
            have b6 := HB2.out.grown g6 HB2.out.size (fun g hg => (HF2.out.row g hg).1)
            clear g6
            go_wp2
            go_roundw
            case rel => exact ⟨8 + 1, _, _, by omega, by simp, rfl, f6, b6⟩
            case measure => simp [intOf]
      · have hc0 : ¬ c = 144 := by omega
        have hc1 : (144 : Int) ≤ (c : Int) := by omega
        have hc2 : (160 : Int) ≤ (c : Int) := by omega
        simp only [Nat.reduceMul, Nat.reduceAdd, Nat.add_zero, Nat.sub_zero] at HSUB HF HNEXT hcell
        rw [show ((9 : Nat) : Int) = 9 from rfl, show 16 * 9 = 144 from rfl]
        go_wp2
        go_loopw [11, 12] (fun val n W => QrIn leaf 9 v x wr val n W) (fun _ n _ => 15 - (intOf n).toNat)
        case atStart => exact ⟨0, _, _, H15k.out, rfl, rfl, HSUB.out, Below.refl _ _⟩
        case round =>
          obtain ⟨j, A5, c5, hj, rfl, rfl, hrj, hbj⟩ := hrel
          have hol := onN_len (leaf := leaf) (place := 9) (f := x) HPL.out j
          by_cases hjl : x + j < 15
          · have h1 : ((x + j : Nat) : Int) < 15 := by omega
            have hst : onN leaf 9 v x (j + 1) = stepB leaf 9 (onN leaf 9 v x j) (x + j) := rfl
            have HST := Lib.hid hst
            have HRJ := Lib.hid hrj
            have HBJ := Lib.hid hbj
            have HOL := Lib.hid hol
            clear hst hrj hbj hol
            generalize onN leaf 9 v x j = y at *
            generalize hz : x + j = z at *
            go_wp2_with fail
            refine (q_next A5 c5 y leaf 9 z _ HOL.out HRJ.out).mono ?_
            rintro e w2 ⟨A6, c6, rfl, f6, b6⟩
            have HB6 := Lib.hid (below_to HBJ.out b6 HBJ.out.size)
            have hr6 := f6.rd
            rw [← HST.out] at hr6
            clear f6 b6
            go_wp2
            go_roundw
            case rel => exact ⟨j + 1, A6, c6, by omega, by rw [← Nat.add_assoc, hz]; simp, rfl, hr6, HB6.out⟩
            case measure => simp [intOf]; omega
          · have hxj : x + j = 15 := by omega
            have hj15 : 15 - x = j := by omega
            have HF2 := Lib.hid (HF.out.below hbj (Nat.le_refl _))
            have HB2 := Lib.hid (below_to HB.out hbj HB.out.size)
            have HRJ := Lib.hid hrj
            rw [hj15] at HNEXT
            rw [hxj]
            clear hrj hbj hol hjl
            generalize onN leaf 9 v x j = y at *
            go_wp2_with (first
              | (at_builtin; refine wpList_append_to rfl (.tmp 48) (.tmp 49) rfl okB rfl HF2.out rfl HRJ.out (bvs_one _) (16 * (9 + 1)) (by omega) (bvs (recN leaf sig ds (9 + 1))) (by rw [HNEXT.out, bvs_app]) (by unfold maxLen; omega) (by omega) HB2.out.size ?_; intro D6 d6 w6 f6 g6 _))
            have b6 := HB2.out.grown g6 HB2.out.size (fun g hg => (HF2.out.row g hg).1)
            clear g6
            go_wp2
            go_roundw
            case rel => exact ⟨9 + 1, _, _, by omega, by simp, rfl, f6, b6⟩
            case measure => simp [intOf]
    · obtain rfl : k = 10 := by omega
      have HF := Lib.hid (hf.mono (base' := w.heap.size) HB1.out.size)
      have HB := Lib.hid (below_to HB1.out hb HB1.out.size)
      clear hf hb
      go_wp2_with fail
      refine (q_made A3 c3 160 _ leaf wr (recN_len hs 10 (Nat.le_refl _)) (by decide) HF.out.rd).mono ?_
      rintro e w3 ⟨A4, c4, rfl, f4, b4⟩
      have hf4 := f4.mono (base' := w.heap.size) HB.out.size
      have hb4 := below_to HB.out b4 HB.out.size
      clear f4 b4
      go_wp2
      go_ret2
      exact ⟨_, _, rfl, hf4, hb4⟩
end Go.Proofs.Ytoggpnncmgcgoaa
