/-
  The walk of MacInner.
-/
import Derived.Test.YtfjjkkakhfgdhaaLaw03
import Derived.Deep.RegionLaw
import Derived.Test.YtfjjkkakhfgdhaaStp
namespace Go.Proofs.Ytfjjkkakhfgdhaa
open Go.RowKit
set_option linter.unusedVariables false
set_option linter.unusedSimpArgs false
set_option maxRecDepth 100000

theorem macInner_k (K : Option Addr) (n c : Nat) (B : Option Addr) (nb cb : Nat) (t : Nat) (os : List UInt8) (w : World)
    (h1 : ((n : Int) != 16) = true)
    : Calls Try.prog 12 #[.slice K n c, .slice B nb cb, .int .u16 (t : Int), .agg (bvs os).toArray] w fun e w' => e = .returned (.bool true) ∧ Below w.heap.size w w' := by
  have hb0 : Below w.heap.size w (w.alloc (.cells (bvs os).toArray 30)) := (Below.refl _ w).alloc (Nat.le_refl _) _
  have HB0 := Lib.hid hb0
  clear hb0
  go_enter Try.func12, Try.ntmps12
  go_wp2_with fail
  refine (alive03 _).mono ?_
  rintro e w1 ⟨rfl, b1⟩
  go_wp2
  go_ret
  exact ⟨rfl, below_to HB0.out b1 HB0.out.size⟩
theorem macInner_z (K : Option Addr) (n c : Nat) (B : Option Addr) (nb cb : Nat) (t : Nat) (os : List UInt8) (w : World)
    (h1 : n = 16)
    (h2 : nb = 0)
    : Calls Try.prog 12 #[.slice K n c, .slice B nb cb, .int .u16 (t : Int), .agg (bvs os).toArray] w fun e w' => e = .returned (.bool true) ∧ Below w.heap.size w w' := by
  subst h1
  subst h2
  have hb0 : Below w.heap.size w (w.alloc (.cells (bvs os).toArray 30)) := (Below.refl _ w).alloc (Nat.le_refl _) _
  have HB0 := Lib.hid hb0
  clear hb0
  go_enter Try.func12, Try.ntmps12
  go_wp2_with fail
  refine (alive03 _).mono ?_
  rintro e w1 ⟨rfl, b1⟩
  go_wp2
  go_ret
  exact ⟨rfl, below_to HB0.out b1 HB0.out.size⟩
theorem macInner_b (K : Option Addr) (n c : Nat) (B : Option Addr) (nb cb : Nat) (t : Nat) (os : List UInt8) (w : World)
    (h1 : n = 16)
    (h2 : ((nb : Int) == 0) = false)
    (h3 : 10000 < (nb : Int))
    : Calls Try.prog 12 #[.slice K n c, .slice B nb cb, .int .u16 (t : Int), .agg (bvs os).toArray] w fun e w' => e = .returned (.bool true) ∧ Below w.heap.size w w' := by
  subst h1
  have hb0 : Below w.heap.size w (w.alloc (.cells (bvs os).toArray 30)) := (Below.refl _ w).alloc (Nat.le_refl _) _
  have HB0 := Lib.hid hb0
  clear hb0
  go_enter Try.func12, Try.ntmps12
  go_wp2_with fail
  refine (alive03 _).mono ?_
  rintro e w1 ⟨rfl, b1⟩
  go_wp2
  go_ret
  exact ⟨rfl, below_to HB0.out b1 HB0.out.size⟩

theorem keyOf_inj {x y : W4} (h : keyOf x = keyOf y) : x = y := by
  have f : ∀ z : W4, 0 ≤ wi z.a ∧ wi z.a < 4294967296 ∧ 0 ≤ wi z.b ∧ wi z.b < 4294967296 ∧ 0 ≤ wi z.c ∧ wi z.c < 4294967296 ∧ 0 ≤ wi z.d ∧ wi z.d < 4294967296 := by
    intro z
    have h1 := z.a.isLt
    have h2 := z.b.isLt
    have h3 := z.c.isLt
    have h4 := z.d.isLt
    unfold wi
    omega
  have fx := f x
  have fy := f y
  unfold keyOf at h
  simp only [List.append_assoc] at h
  have e1 := List.append_inj h (by rw [le_len, le_len])
  have e2 := List.append_inj e1.2 (by rw [le_len, le_len])
  have e3 := List.append_inj e2.2 (by rw [le_len, le_len])
  have g1 := le_inj (by omega) (by omega) e1.1
  have g2 := le_inj (by omega) (by omega) e2.1
  have g3 := le_inj (by omega) (by omega) e3.1
  have g4 := le_inj (by omega) (by omega) e3.2
  exact w4_inj (by omega) (by omega) (by omega) (by omega)
def InRel (l os : List UInt8) (N r gx cx gy cy : Nat) (w : World) (i : Value) (wr : World) : Prop :=
  ∃ (k : Nat) (m : List UInt8), k ≤ 8 ∧ i = .int .i64 ((8 * r + k : Nat) : Int) ∧ m.length = N ∧ (∀ j : Nat, j / 8 ≠ r → l[j]? = m[j]?) ∧ Fr wr (w.heap.size + 1) 5 1 (some ⟨gy, 0, none⟩) N cy (bvs m) ∧ Fr wr (w.heap.size + 1) 5 1 (some ⟨gx, 0, none⟩) N cx (bvs l) ∧
    wr.heap[w.heap.size]? = some (.cells (bvs os).toArray 30 (0, 0)) ∧ Below w.heap.size w wr

set_option maxHeartbeats 8000000 in
theorem macInner_ok (K : Option Addr) (c : Nat) (k : List UInt8) (B : Option Addr) (nb cb : Nat) (b : List UInt8) (t : Nat) (ht : t ≤ 65535) (os : List UInt8) (ho : os.length = 8) (w : World) (hk : k.length = 16) (hrk : Rd w w.heap.size 1 K 16 (bvs k))
    (hb : b.length = nb) (hnb0 : 0 < nb) (hnb : (nb : Int) ≤ 10000) (hrb : Rd w w.heap.size 1 B nb (bvs b)) :
    Calls Try.prog 12 #[.slice K 16 c, .slice B nb cb, .int .u16 (t : Int), .agg (bvs os).toArray] w fun e w' => e = .returned (.bool true) ∧ Below w.heap.size w w' := by
  have hne1 : ((nb : Int) == 0) = false := by simp; omega
  have hne2 : decide (10000 < (nb : Int)) = false := by simp; omega
  have hb0 : Below w.heap.size w (w.alloc (.cells (bvs os).toArray 30)) := (Below.refl _ w).alloc (Nat.le_refl _) _
  have ho0 : (w.alloc (.cells (bvs os).toArray 30)).heap[w.heap.size]? = some (.cells (bvs os).toArray 30 (0, 0)) := heap_alloc_new w _
  have hz0 : (w.alloc (.cells (bvs os).toArray 30)).heap.size = w.heap.size + 1 := by rw [World.size_alloc]
  have HB0 := Lib.hid hb0
  have HO0 := Lib.hid ho0
  have HZ0 := Lib.hid hz0
  clear hb0 ho0 hz0
  have m0 : IntKind.i64.wrap (t : Int) = (t : Int) := IntWalk.i64_in _ (by omega)
  have m1 : (t : Int).tmod (nb : Int) = ((t % nb : Nat) : Int) := by rw [Int.tmod_eq_emod_of_nonneg (by omega)]; omega
  have hlt := Nat.mod_lt t hnb0
  obtain ⟨q, hq⟩ : ∃ q, q = t % nb := ⟨_, rfl⟩
  rw [← hq] at m1 hlt
  clear hq
  have m2 : ((17 : Int) + (q : Int)).tdiv 8 = (((17 + q) / 8 : Nat) : Int) := by rw [Int.tdiv_eq_ediv_of_nonneg (by omega)]; omega
  have HRK := Lib.hid hrk
  have HRB := Lib.hid hrb
  clear hrk hrb
  go_enter Try.func12, Try.ntmps12
  go_wp2_with fail
  refine (alive03 _).mono ?_
  rintro e w1 ⟨rfl, b1⟩
  have B1 := below_to HB0.out b1 HB0.out.size
  have O1 := (b1.block _ (by rw [HZ0.out]; omega)).trans HO0.out
  have hz1 : w.heap.size + 1 ≤ w1.heap.size := by have := b1.size; rw [HZ0.out] at this; exact this
  have HX1 := Lib.hid ((HRB.out.below B1).more B1.size)
  have HC1 := Lib.hid ((HRK.out.below B1).more B1.size)
  have HB1 := Lib.hid B1
  have HO1 := Lib.hid O1
  clear B1 O1 b1 HB0 HO0 HZ0
  go_wp2_with (first
    | (at_builtin; refine wpList_append_to rfl (.tmp 33) (.tmp 34) rfl okB rfl (Fr.zero_ (w := w1.alloc (.cells #[] 5)) (base := w1.heap.size)) rfl (HC1.out.below (below_new w1 _)) (bvs_one _) 16 rfl (bvs k) rfl (by unfold maxLen; omega) (by omega) (by rw [World.size_alloc]; omega) ?_; intro D4 d4 w4 f4 g4 _; have hb4 := (below_new w1 (.cells #[] 5)).grown g4 (by rw [World.size_alloc]; omega) (by intro q hq; rw [rowOf_zero] at hq; cases hq); have HB4 := Lib.hid hb4; have HF4 := Lib.hid f4; clear hb4 f4 g4)
    | (at_builtin; refine wpList_append_to rfl (.tmp 35) (.tmp 36) rfl okB rfl (HF4.out.alloc _) rfl (Rd.made w4 _ 1 1 _ rfl) (ones1 rfl) 17 rfl (bvs (k ++ [1])) (bvs_app k [1]).symm (by unfold maxLen; omega) (by omega) (by have := HB4.out.size; rw [World.size_alloc]; omega) ?_; intro D5 d5 w5 f5 g5 _; have hb5 := (below_alloc HB4.out (.cells #[.int .u8 1] 5) (Nat.le_refl _)).grown g5 (by have := HB4.out.size; rw [World.size_alloc]; omega) (fun q hq => (HF4.out.row _ hq).1); have HB5 := Lib.hid hb5; have HF5 := Lib.hid f5; clear hb5 f5 g5)
    | (at_builtin; refine wpList_append_to rfl (.tmp 37) (.tmp 38) rfl okB rfl HF5.out rfl (HX1.out.below HB5.out) (bvs_one _) (17 + nb) (by omega) (bvs (k ++ ([1] ++ b))) (by rw [← List.append_assoc, bvs_app (k ++ [1])]) (by unfold maxLen; omega) (by omega) HB5.out.size ?_; intro D6 d6 w6 f6 g6 _; obtain ⟨gx, rfl, hgx1, hgx2⟩ := f6.form (by have := f6.nc; omega); have hb6 := HB5.out.grown g6 HB5.out.size (fun q hq => (HF5.out.row _ hq).1); have HB6 := Lib.hid hb6; have HF6 := Lib.hid f6; clear hb6 f6 g6)
    | (at_builtin; go_loud (refine wpList_append_to rfl (.tmp 40) (.tmp 41) rfl okB rfl (Fr.zero_ (w := w6.alloc (.cells #[] 5)) (base := w1.heap.size)) rfl ((HF6.out.alloc (.cells #[] 5)).rd) (bvs_one _) (17 + nb) (by omega) (bvs (k ++ ([1] ++ b))) rfl (by unfold maxLen; omega) (by omega) (by have := HB6.out.size; rw [World.size_alloc]; omega) ?_); intro D7 d7 w7 f7 g7 h7; obtain ⟨gy, rfl, hgy1, hgy2⟩ := f7.form (by have := f7.nc; omega); have hgy : gy = w6.heap.size + 1 := (by have hn7 := f7.nc; rw [rowOf_zero, rowOf_some _ _ _ (by omega), World.size_alloc] at h7; rcases h7 with h7 | h7; (simp at h7); (simpa using h7)); clear h7; have hb7 := (below_alloc HB6.out (.cells #[] 5) (Nat.le_refl _)).grown g7 (by have := HB6.out.size; rw [World.size_alloc]; omega) (by intro q hq; rw [rowOf_zero] at hq; cases hq); have hx7 := (HF6.out.alloc (.cells #[] 5)).kept g7 (.inr (by have hn6 := HF6.out.nc; rw [rowOf_zero, rowOf_some _ _ _ (by omega)]; simp)); have HB7 := Lib.hid hb7; have HF7 := Lib.hid f7; have HX7 := Lib.hid hx7; clear hb7 f7 g7 hx7))
  obtain rfl := hgy
  have m4 : (17 + (q : Int)) / 8 * 8 = ((8 * ((17 + q) / 8) : Nat) : Int) := by omega
  have hr8 : 8 * ((17 + q) / 8) < 17 + nb := by omega
  rw [m4]
  have hB7 : Below w.heap.size w w7 := below_to HB1.out HB7.out HB1.out.size
  have hO7 := (HB7.out.block w.heap.size (by omega)).trans HO1.out
  have hF7 := HF7.out.mono hz1
  have hX7 := HX7.out.mono hz1
  have hxy : gx ≠ w6.heap.size + 1 := by omega
  have hgx : w.heap.size + 1 ≤ gx := by omega
  have hgy : w.heap.size + 1 ≤ w6.heap.size + 1 := by omega
  have hll : (k ++ ([1] ++ b)).length = 17 + nb := by simp only [List.length_append, List.length_cons, List.length_nil, hk, hb]; omega
  have hN9 : 17 + nb ≤ 10017 := by omega
  clear m0 m1 m2 m4 hlt HB4 HF4 HB5 HF5 HB6 HF6 HB7 HF7 HX7 HX1 HC1 HB1 HO1 hgx1 hgx2 hgy1 hgy2 HRK HRB hk hb hz1 hne1 hne2
  generalize (17 + q) / 8 = r at *
  generalize k ++ ([1] ++ b) = l at *
  generalize w6.heap.size + 1 = gy at *
  generalize 17 + nb = N at *
  obtain ⟨F, hF⟩ : ∃ F, F = 8 * r := ⟨_, rfl⟩
  rw [← hF] at hr8 ⊢
  have HF := Lib.hid hF
  clear hF
  go_loopw [13] (fun i wr => InRel l os N r gx d6 gy d7 w i wr) (fun i _ => F + 8 - (intOf i).toNat)
  case atStart => exact ⟨0, l, by omega, by rw [HF.out]; rfl, hll, fun _ _ => rfl, hF7, hX7, hO7, hB7⟩
  case round =>
    clear hF7 hX7 hO7 hB7
    obtain ⟨i, m, hi, rfl, hm, hsame, hf, hx, ho2, hbw⟩ := hrel
    rw [← HF.out]
    have hcast : ((F + i : Nat) : Int) = (F : Int) + (i : Int) := by omega
    rw [hcast]
    have HM := Lib.hid hsame
    have HY := Lib.hid hf
    have HX := Lib.hid hx
    have HO := Lib.hid ho2
    have HB := Lib.hid hbw
    have j3 : 0 ≤ (i : Int) := by omega
    have j5 : 0 ≤ (F : Int) + (i : Int) := by omega
    have j6 : ((F : Int) + (i : Int)).toNat = F + i := by omega
    by_cases hi8 : i < 8
    · have j1 : decide ((F : Int) + (i : Int) < (F : Int) + 8) = true := by simp; omega
      have j1' : (F : Int) + (i : Int) < (F : Int) + 8 := by omega
      by_cases hin : F + i < N
      · have j2 : (F : Int) + (i : Int) < (N : Int) := by omega
        by_cases h17 : 17 ≤ (F : Int) + (i : Int)
        · have j7 : (F : Int) + (i : Int) - (F : Int) = (i : Int) := by omega
          have hoc : wr.cell? ⟨w.heap.size, i, none⟩ = some (.int .u8 (os[i].toNat : Int)) := by
            simp [World.cell?, ho2, bvs, bv, show i < os.length by omega]
          obtain ⟨u, hu, hcell⟩ := hf.cell (i := F + i) hin
          have hfro := hf.frozen (i := F + i) hin
          clear hu hf hx ho2 hbw hsame hcast
          go_wp2
          go_roundw
          case rel =>
            refine ⟨i + 1, m.set (F + i) os[i], by omega, by rw [← HF.out]; simp; omega, by simp [hm], ?_, ?_, HX.out.setCell (p := ⟨gy, F + i, none⟩) (by rw [rowOf_some _ _ _ (by have := HX.out.nc; omega)]; simpa using hxy) _, ?_, HB.out.setCell (p := ⟨gy, F + i, none⟩) (by show w.heap.size ≤ gy; omega) _⟩
            · intro j hj
              have := HF.out
              rw [List.getElem?_set_ne (by omega)]
              exact HM.out j hj
            · have h := HY.out.set (by have := HY.out.nc; omega) (F + i) (.int .u8 (os[i].toNat : Int))
              simpa [bvs, bv, List.map_set] using h
            · exact (Below.heap_setCell _ _ _ _ (by show w.heap.size ≠ gy; omega)).trans HO.out
          case measure => simp [intOf]; omega
        · clear hf hx ho2 hbw hsame hcast
          go_wp2
          go_roundw
          case rel => exact ⟨i + 1, m, by omega, by rw [← HF.out]; simp; omega, hm, HM.out, HY.out, HX.out, HO.out, HB.out⟩
          case measure => simp [intOf]; omega
      · have hex : decide ((F : Int) + (i : Int) < (N : Int)) = false := by simp; omega
        have hrl := hx.rd
        have hrm := hf.rd
        have hdl := hx.nc
        have hdm := hf.nc
        have hbs := hbw.size
        have hCl := fun W (h : Below wr.heap.size wr W) => x_key (some ⟨gx, 0, none⟩) N d6 l W hll (by omega) hdl ((hrl.below h).more h.size)
        have hCm := fun W (h : Below wr.heap.size wr W) => x_key (some ⟨gy, 0, none⟩) N d7 m W hm (by omega) hdm ((hrm.below h).more h.size)
        have hinj : (((str (keyOf (fourOf l))).toList == (str (keyOf (fourOf m))).toList) == ((str l).toList == (str m).toList)) = true := by
          rw [str_toList, str_toList, str_toList, str_toList]
          by_cases he : l = m
          · subst he; simp
          · have hf4 : fourOf l ≠ fourOf m := fun h4 => he (four_piece (by omega) (by have := HF.out; omega) hsame h4)
            have hr1 : (l == m) = false := by simpa using he
            have hr2 : (keyOf (fourOf l) == keyOf (fourOf m)) = false := by
              simp only [beq_eq_false_iff_ne]
              exact fun h => hf4 (keyOf_inj h)
            rw [hr1, hr2]
            rfl
        have HCl := Lib.hid hCl
        have HCm := Lib.hid hCm
        have HRL := Lib.hid hrl
        have HRM := Lib.hid hrm
        clear hCl hCm hrl hrm hbw hf hx ho2 hsame hcast
        generalize keyOf (fourOf l) = X at *
        generalize keyOf (fourOf m) = Y at *
        have hrefl : Below wr.heap.size wr wr := Below.refl _ _
        go_wp2
        refine wp_region_held_drew (S := fun W => Below wr.heap.size wr W) (by kernel_rfl) (Below.refl wr.heap.size wr).drew (fun hS => ?_)
        refine wpAnyH_take (i := 0) (v := ?_) rfl (by kernel_rfl) (by kernel_rfl) (by kernel_rfl) (fun _ _ _ h => h) (Or.inl ⟨by rfl, ?hyq⟩) hS ?_
        case hyq =>
          intro w hw
          go_simp
          try (with_reducible rfl)
        refine wpAnyH_take (i := 3) (v := ?_) rfl (by kernel_rfl) (by kernel_rfl) (by kernel_rfl) (fun _ _ _ h => h) (Or.inl ⟨by rfl, ?hyq⟩) hS ?_
        case hyq =>
          intro w hw
          go_simp
          try (with_reducible rfl)
        refine wpAnyH_take (i := 7) (v := ?_) rfl (by kernel_rfl) (by kernel_rfl) (by kernel_rfl) (fun _ _ _ h => h) (Or.inl ⟨by rfl, ?hyq⟩) hS ?_
        case hyq =>
          intro w hw
          go_simp
          try (with_reducible rfl)
        refine wpAnyH_take (i := 8) (v := ?_) rfl (by kernel_rfl) (by kernel_rfl) (by kernel_rfl) (fun _ _ _ h => h) (Or.inl ⟨by rfl, ?hyq⟩) hS ?_
        case hyq =>
          intro w hw
          have kx := conv (HRL.out.below hw) d6
          go_simp
          try (with_reducible rfl)
        refine wpAnyH_take (i := 9) (v := ?_) rfl (by kernel_rfl) (by kernel_rfl) (by kernel_rfl) (fun _ _ _ h => h) (Or.inl ⟨by rfl, ?hyq⟩) hS ?_
        case hyq =>
          intro w hw
          go_simp
          try (with_reducible rfl)
        refine wpAnyH_take (i := 10) (v := ?_) rfl (by kernel_rfl) (by kernel_rfl) (by kernel_rfl) (fun _ _ _ h => h) (Or.inl ⟨by rfl, ?hyq⟩) hS ?_
        case hyq =>
          intro w hw
          have ky := conv (HRM.out.below hw) d7
          go_simp
          try (with_reducible rfl)
        refine wpAnyH_take (i := 11) (v := ?_) rfl (by kernel_rfl) (by kernel_rfl) (by kernel_rfl) (fun _ _ _ h => h) (Or.inl ⟨by rfl, ?hyq⟩) hS ?_
        case hyq =>
          intro w hw
          go_simp
          try (with_reducible rfl)
        refine wpAnyH_ready (rs := [1]) (by kernel_rfl) (by simp) ?_
        refine all_consH rfl (fun K hK => ?_) ?_
        · skip
          refine Stp.mk ?_
          go_simp
          go_wp2_with fail
          refine (HCl.out _ hS).mono ?_
          rintro e w2 ⟨A1, c1, rfl, f1, b1⟩
          have hSn := below_to hS b1 hS.size
          have HF1 := Lib.hid f1
          clear f1 b1
          go_wp2
          refine hK.out _ _ hSn (fun hS => ?_)
          clear hK K hSn
          refine wpAnyH_ready (rs := [2, 4]) (by kernel_rfl) (by simp) ?_
          refine all_consH rfl (fun K hK => ?_) ?_
          · skip
            refine Stp.mk ?_
            have k1 := conv HF1.out.rd c1
            go_simp
            clear k1
            have hSn := hS
            refine hK.out _ _ hSn (fun hS => ?_)
            clear hK K hSn
            refine wpAnyH_ready (rs := [4]) (by kernel_rfl) (by simp) ?_
            refine all_consH rfl (fun K hK => ?_) ?_
            · skip
              refine Stp.mk ?_
              go_simp
              go_wp2_with fail
              refine (HCm.out _ hS).mono ?_
              rintro e w3 ⟨A2, c2, rfl, f2, b2⟩
              have hSn := below_to hS b2 hS.size
              have HF2 := Lib.hid f2
              replace HF1 := Lib.hid (HF1.out.below b2 (Nat.le_refl _))
              clear f2 b2
              go_wp2
              refine hK.out _ _ hSn (fun hS => ?_)
              clear hK K hSn
              refine wpAnyH_ready (rs := [5]) (by kernel_rfl) (by simp) ?_
              refine all_consH rfl (fun K hK => ?_) ?_
              · skip
                refine Stp.mk ?_
                have k2 := conv HF2.out.rd c2
                go_simp
                clear k2
                have hSn := hS
                refine hK.out _ _ hSn (fun hS => ?_)
                clear hK K hSn
                refine wpAnyH_take (i := 6) (v := ?_) rfl (by kernel_rfl) (by kernel_rfl) (by kernel_rfl) (fun _ _ _ h => h) (Or.inl ⟨by rfl, ?hyq⟩) hS ?_
                case hyq =>
                  intro w hw
                  go_simp
                  try (with_reducible rfl)
                refine wpAnyH_take (i := 12) (v := ?_) rfl (by kernel_rfl) (by kernel_rfl) (by kernel_rfl) (fun _ _ _ h => h) (Or.inl ⟨by rfl, ?hyq⟩) hS ?_
                case hyq =>
                  intro w hw
                  go_simp
                  try (with_reducible rfl)
                refine wpAnyH_take (i := 13) (v := ?_) rfl (by kernel_rfl) (by kernel_rfl) (by kernel_rfl) (fun _ _ _ h => h) (Or.inl ⟨by rfl, ?hyq⟩) hS ?_
                case hyq =>
                  intro w hw
                  go_simp
                  try (with_reducible rfl)
                refine wpAnyH_done (by kernel_rfl) ?_ _
                have hbw := below_to HB.out hS hbs
                clear HF1 HF2
                go_wp2
                go_ret
                exact ⟨rfl, hbw⟩
              exact AllReadyH.nil
            exact AllReadyH.nil
          refine all_consH rfl (fun K hK => ?_) ?_
          · skip
            refine Stp.mk ?_
            go_simp
            go_wp2_with fail
            refine (HCm.out _ hS).mono ?_
            rintro e w3 ⟨A2, c2, rfl, f2, b2⟩
            have hSn := below_to hS b2 hS.size
            have HF2 := Lib.hid f2
            replace HF1 := Lib.hid (HF1.out.below b2 (Nat.le_refl _))
            clear f2 b2
            go_wp2
            refine hK.out _ _ hSn (fun hS => ?_)
            clear hK K hSn
            refine wpAnyH_ready (rs := [2, 5]) (by kernel_rfl) (by simp) ?_
            refine all_consH rfl (fun K hK => ?_) ?_
            · skip
              refine Stp.mk ?_
              have k1 := conv HF1.out.rd c1
              go_simp
              clear k1
              have hSn := hS
              refine hK.out _ _ hSn (fun hS => ?_)
              clear hK K hSn
              refine wpAnyH_ready (rs := [5]) (by kernel_rfl) (by simp) ?_
              refine all_consH rfl (fun K hK => ?_) ?_
              · skip
                refine Stp.mk ?_
                have k2 := conv HF2.out.rd c2
                go_simp
                clear k2
                have hSn := hS
                refine hK.out _ _ hSn (fun hS => ?_)
                clear hK K hSn
                refine wpAnyH_take (i := 6) (v := ?_) rfl (by kernel_rfl) (by kernel_rfl) (by kernel_rfl) (fun _ _ _ h => h) (Or.inl ⟨by rfl, ?hyq⟩) hS ?_
                case hyq =>
                  intro w hw
                  go_simp
                  try (with_reducible rfl)
                refine wpAnyH_take (i := 12) (v := ?_) rfl (by kernel_rfl) (by kernel_rfl) (by kernel_rfl) (fun _ _ _ h => h) (Or.inl ⟨by rfl, ?hyq⟩) hS ?_
                case hyq =>
                  intro w hw
                  go_simp
                  try (with_reducible rfl)
                refine wpAnyH_take (i := 13) (v := ?_) rfl (by kernel_rfl) (by kernel_rfl) (by kernel_rfl) (fun _ _ _ h => h) (Or.inl ⟨by rfl, ?hyq⟩) hS ?_
                case hyq =>
                  intro w hw
                  go_simp
                  try (with_reducible rfl)
                refine wpAnyH_done (by kernel_rfl) ?_ _
                have hbw := below_to HB.out hS hbs
                clear HF1 HF2
                go_wp2
                go_ret
                exact ⟨rfl, hbw⟩
              exact AllReadyH.nil
            refine all_consH rfl (fun K hK => ?_) ?_
            · skip
              refine Stp.mk ?_
              have k2 := conv HF2.out.rd c2
              go_simp
              clear k2
              have hSn := hS
              refine hK.out _ _ hSn (fun hS => ?_)
              clear hK K hSn
              refine wpAnyH_ready (rs := [2]) (by kernel_rfl) (by simp) ?_
              refine all_consH rfl (fun K hK => ?_) ?_
              · skip
                refine Stp.mk ?_
                have k1 := conv HF1.out.rd c1
                go_simp
                clear k1
                have hSn := hS
                refine hK.out _ _ hSn (fun hS => ?_)
                clear hK K hSn
                refine wpAnyH_take (i := 6) (v := ?_) rfl (by kernel_rfl) (by kernel_rfl) (by kernel_rfl) (fun _ _ _ h => h) (Or.inl ⟨by rfl, ?hyq⟩) hS ?_
                case hyq =>
                  intro w hw
                  go_simp
                  try (with_reducible rfl)
                refine wpAnyH_take (i := 12) (v := ?_) rfl (by kernel_rfl) (by kernel_rfl) (by kernel_rfl) (fun _ _ _ h => h) (Or.inl ⟨by rfl, ?hyq⟩) hS ?_
                case hyq =>
                  intro w hw
                  go_simp
                  try (with_reducible rfl)
                refine wpAnyH_take (i := 13) (v := ?_) rfl (by kernel_rfl) (by kernel_rfl) (by kernel_rfl) (fun _ _ _ h => h) (Or.inl ⟨by rfl, ?hyq⟩) hS ?_
                case hyq =>
                  intro w hw
                  go_simp
                  try (with_reducible rfl)
                refine wpAnyH_done (by kernel_rfl) ?_ _
                have hbw := below_to HB.out hS hbs
                clear HF1 HF2
                go_wp2
                go_ret
                exact ⟨rfl, hbw⟩
              exact AllReadyH.nil
            exact AllReadyH.nil
          exact AllReadyH.nil
        exact AllReadyH.nil
    · have hex : decide ((F : Int) + (i : Int) < (F : Int) + 8) = false := by simp; omega
      have hrl := hx.rd
      have hrm := hf.rd
      have hdl := hx.nc
      have hdm := hf.nc
      have hbs := hbw.size
      have hCl := fun W (h : Below wr.heap.size wr W) => x_key (some ⟨gx, 0, none⟩) N d6 l W hll (by omega) hdl ((hrl.below h).more h.size)
      have hCm := fun W (h : Below wr.heap.size wr W) => x_key (some ⟨gy, 0, none⟩) N d7 m W hm (by omega) hdm ((hrm.below h).more h.size)
      have hinj : (((str (keyOf (fourOf l))).toList == (str (keyOf (fourOf m))).toList) == ((str l).toList == (str m).toList)) = true := by
        rw [str_toList, str_toList, str_toList, str_toList]
        by_cases he : l = m
        · subst he; simp
        · have hf4 : fourOf l ≠ fourOf m := fun h4 => he (four_piece (by omega) (by have := HF.out; omega) hsame h4)
          have hr1 : (l == m) = false := by simpa using he
          have hr2 : (keyOf (fourOf l) == keyOf (fourOf m)) = false := by
            simp only [beq_eq_false_iff_ne]
            exact fun h => hf4 (keyOf_inj h)
          rw [hr1, hr2]
          rfl
      have HCl := Lib.hid hCl
      have HCm := Lib.hid hCm
      have HRL := Lib.hid hrl
      have HRM := Lib.hid hrm
      clear hCl hCm hrl hrm hbw hf hx ho2 hsame hcast
      generalize keyOf (fourOf l) = X at *
      generalize keyOf (fourOf m) = Y at *
      have hrefl : Below wr.heap.size wr wr := Below.refl _ _
      go_wp2
      refine wp_region_held_drew (S := fun W => Below wr.heap.size wr W) (by kernel_rfl) (Below.refl wr.heap.size wr).drew (fun hS => ?_)
      refine wpAnyH_take (i := 0) (v := ?_) rfl (by kernel_rfl) (by kernel_rfl) (by kernel_rfl) (fun _ _ _ h => h) (Or.inl ⟨by rfl, ?hyq⟩) hS ?_
      case hyq =>
        intro w hw
        go_simp
        try (with_reducible rfl)
      refine wpAnyH_take (i := 3) (v := ?_) rfl (by kernel_rfl) (by kernel_rfl) (by kernel_rfl) (fun _ _ _ h => h) (Or.inl ⟨by rfl, ?hyq⟩) hS ?_
      case hyq =>
        intro w hw
        go_simp
        try (with_reducible rfl)
      refine wpAnyH_take (i := 7) (v := ?_) rfl (by kernel_rfl) (by kernel_rfl) (by kernel_rfl) (fun _ _ _ h => h) (Or.inl ⟨by rfl, ?hyq⟩) hS ?_
      case hyq =>
        intro w hw
        go_simp
        try (with_reducible rfl)
      refine wpAnyH_take (i := 8) (v := ?_) rfl (by kernel_rfl) (by kernel_rfl) (by kernel_rfl) (fun _ _ _ h => h) (Or.inl ⟨by rfl, ?hyq⟩) hS ?_
      case hyq =>
        intro w hw
        have kx := conv (HRL.out.below hw) d6
        go_simp
        try (with_reducible rfl)
      refine wpAnyH_take (i := 9) (v := ?_) rfl (by kernel_rfl) (by kernel_rfl) (by kernel_rfl) (fun _ _ _ h => h) (Or.inl ⟨by rfl, ?hyq⟩) hS ?_
      case hyq =>
        intro w hw
        go_simp
        try (with_reducible rfl)
      refine wpAnyH_take (i := 10) (v := ?_) rfl (by kernel_rfl) (by kernel_rfl) (by kernel_rfl) (fun _ _ _ h => h) (Or.inl ⟨by rfl, ?hyq⟩) hS ?_
      case hyq =>
        intro w hw
        have ky := conv (HRM.out.below hw) d7
        go_simp
        try (with_reducible rfl)
      refine wpAnyH_take (i := 11) (v := ?_) rfl (by kernel_rfl) (by kernel_rfl) (by kernel_rfl) (fun _ _ _ h => h) (Or.inl ⟨by rfl, ?hyq⟩) hS ?_
      case hyq =>
        intro w hw
        go_simp
        try (with_reducible rfl)
      refine wpAnyH_ready (rs := [1]) (by kernel_rfl) (by simp) ?_
      refine all_consH rfl (fun K hK => ?_) ?_
      · skip
        refine Stp.mk ?_
        go_simp
        go_wp2_with fail
        refine (HCl.out _ hS).mono ?_
        rintro e w2 ⟨A1, c1, rfl, f1, b1⟩
        have hSn := below_to hS b1 hS.size
        have HF1 := Lib.hid f1
        clear f1 b1
        go_wp2
        refine hK.out _ _ hSn (fun hS => ?_)
        clear hK K hSn
        refine wpAnyH_ready (rs := [2, 4]) (by kernel_rfl) (by simp) ?_
        refine all_consH rfl (fun K hK => ?_) ?_
        · skip
          refine Stp.mk ?_
          have k1 := conv HF1.out.rd c1
          go_simp
          clear k1
          have hSn := hS
          refine hK.out _ _ hSn (fun hS => ?_)
          clear hK K hSn
          refine wpAnyH_ready (rs := [4]) (by kernel_rfl) (by simp) ?_
          refine all_consH rfl (fun K hK => ?_) ?_
          · skip
            refine Stp.mk ?_
            go_simp
            go_wp2_with fail
            refine (HCm.out _ hS).mono ?_
            rintro e w3 ⟨A2, c2, rfl, f2, b2⟩
            have hSn := below_to hS b2 hS.size
            have HF2 := Lib.hid f2
            replace HF1 := Lib.hid (HF1.out.below b2 (Nat.le_refl _))
            clear f2 b2
            go_wp2
            refine hK.out _ _ hSn (fun hS => ?_)
            clear hK K hSn
            refine wpAnyH_ready (rs := [5]) (by kernel_rfl) (by simp) ?_
            refine all_consH rfl (fun K hK => ?_) ?_
            · skip
              refine Stp.mk ?_
              have k2 := conv HF2.out.rd c2
              go_simp
              clear k2
              have hSn := hS
              refine hK.out _ _ hSn (fun hS => ?_)
              clear hK K hSn
              refine wpAnyH_take (i := 6) (v := ?_) rfl (by kernel_rfl) (by kernel_rfl) (by kernel_rfl) (fun _ _ _ h => h) (Or.inl ⟨by rfl, ?hyq⟩) hS ?_
              case hyq =>
                intro w hw
                go_simp
                try (with_reducible rfl)
              refine wpAnyH_take (i := 12) (v := ?_) rfl (by kernel_rfl) (by kernel_rfl) (by kernel_rfl) (fun _ _ _ h => h) (Or.inl ⟨by rfl, ?hyq⟩) hS ?_
              case hyq =>
                intro w hw
                go_simp
                try (with_reducible rfl)
              refine wpAnyH_take (i := 13) (v := ?_) rfl (by kernel_rfl) (by kernel_rfl) (by kernel_rfl) (fun _ _ _ h => h) (Or.inl ⟨by rfl, ?hyq⟩) hS ?_
              case hyq =>
                intro w hw
                go_simp
                try (with_reducible rfl)
              refine wpAnyH_done (by kernel_rfl) ?_ _
              have hbw := below_to HB.out hS hbs
              clear HF1 HF2
              go_wp2
              go_ret
              exact ⟨rfl, hbw⟩
            exact AllReadyH.nil
          exact AllReadyH.nil
        refine all_consH rfl (fun K hK => ?_) ?_
        · skip
          refine Stp.mk ?_
          go_simp
          go_wp2_with fail
          refine (HCm.out _ hS).mono ?_
          rintro e w3 ⟨A2, c2, rfl, f2, b2⟩
          have hSn := below_to hS b2 hS.size
          have HF2 := Lib.hid f2
          replace HF1 := Lib.hid (HF1.out.below b2 (Nat.le_refl _))
          clear f2 b2
          go_wp2
          refine hK.out _ _ hSn (fun hS => ?_)
          clear hK K hSn
          refine wpAnyH_ready (rs := [2, 5]) (by kernel_rfl) (by simp) ?_
          refine all_consH rfl (fun K hK => ?_) ?_
          · skip
            refine Stp.mk ?_
            have k1 := conv HF1.out.rd c1
            go_simp
            clear k1
            have hSn := hS
            refine hK.out _ _ hSn (fun hS => ?_)
            clear hK K hSn
            refine wpAnyH_ready (rs := [5]) (by kernel_rfl) (by simp) ?_
            refine all_consH rfl (fun K hK => ?_) ?_
            · skip
              refine Stp.mk ?_
              have k2 := conv HF2.out.rd c2
              go_simp
              clear k2
              have hSn := hS
              refine hK.out _ _ hSn (fun hS => ?_)
              clear hK K hSn
              refine wpAnyH_take (i := 6) (v := ?_) rfl (by kernel_rfl) (by kernel_rfl) (by kernel_rfl) (fun _ _ _ h => h) (Or.inl ⟨by rfl, ?hyq⟩) hS ?_
              case hyq =>
                intro w hw
                go_simp
                try (with_reducible rfl)
              refine wpAnyH_take (i := 12) (v := ?_) rfl (by kernel_rfl) (by kernel_rfl) (by kernel_rfl) (fun _ _ _ h => h) (Or.inl ⟨by rfl, ?hyq⟩) hS ?_
              case hyq =>
                intro w hw
                go_simp
                try (with_reducible rfl)
              refine wpAnyH_take (i := 13) (v := ?_) rfl (by kernel_rfl) (by kernel_rfl) (by kernel_rfl) (fun _ _ _ h => h) (Or.inl ⟨by rfl, ?hyq⟩) hS ?_
              case hyq =>
                intro w hw
                go_simp
                try (with_reducible rfl)
              refine wpAnyH_done (by kernel_rfl) ?_ _
              have hbw := below_to HB.out hS hbs
              clear HF1 HF2
              go_wp2
              go_ret
              exact ⟨rfl, hbw⟩
            exact AllReadyH.nil
          refine all_consH rfl (fun K hK => ?_) ?_
          · skip
            refine Stp.mk ?_
            have k2 := conv HF2.out.rd c2
            go_simp
            clear k2
            have hSn := hS
            refine hK.out _ _ hSn (fun hS => ?_)
            clear hK K hSn
            refine wpAnyH_ready (rs := [2]) (by kernel_rfl) (by simp) ?_
            refine all_consH rfl (fun K hK => ?_) ?_
            · skip
              refine Stp.mk ?_
              have k1 := conv HF1.out.rd c1
              go_simp
              clear k1
              have hSn := hS
              refine hK.out _ _ hSn (fun hS => ?_)
              clear hK K hSn
              refine wpAnyH_take (i := 6) (v := ?_) rfl (by kernel_rfl) (by kernel_rfl) (by kernel_rfl) (fun _ _ _ h => h) (Or.inl ⟨by rfl, ?hyq⟩) hS ?_
              case hyq =>
                intro w hw
                go_simp
                try (with_reducible rfl)
              refine wpAnyH_take (i := 12) (v := ?_) rfl (by kernel_rfl) (by kernel_rfl) (by kernel_rfl) (fun _ _ _ h => h) (Or.inl ⟨by rfl, ?hyq⟩) hS ?_
              case hyq =>
                intro w hw
                go_simp
                try (with_reducible rfl)
              refine wpAnyH_take (i := 13) (v := ?_) rfl (by kernel_rfl) (by kernel_rfl) (by kernel_rfl) (fun _ _ _ h => h) (Or.inl ⟨by rfl, ?hyq⟩) hS ?_
              case hyq =>
                intro w hw
                go_simp
                try (with_reducible rfl)
              refine wpAnyH_done (by kernel_rfl) ?_ _
              have hbw := below_to HB.out hS hbs
              clear HF1 HF2
              go_wp2
              go_ret
              exact ⟨rfl, hbw⟩
            exact AllReadyH.nil
          exact AllReadyH.nil
        exact AllReadyH.nil
      exact AllReadyH.nil
theorem macInner_walk (K : Option Addr) (n c : Nat) (k : List UInt8) (B : Option Addr) (nb cb : Nat) (b : List UInt8) (t : Nat) (ht : t ≤ 65535) (os : List UInt8) (ho : os.length = 8) (w : World) (hk : k.length = n) (hrk : Rd w w.heap.size 1 K n (bvs k))
    (hb : b.length = nb) (hrb : Rd w w.heap.size 1 B nb (bvs b)) :
    Calls Try.prog 12 #[.slice K n c, .slice B nb cb, .int .u16 (t : Int), .agg (bvs os).toArray] w fun e w' => e = .returned (.bool true) ∧ Below w.heap.size w w' := by
  by_cases h1 : n = 16
  · by_cases h2 : nb = 0
    · exact macInner_z K n c B nb cb t os w h1 h2
    · by_cases h3 : 10000 < (nb : Int)
      · exact macInner_b K n c B nb cb t os w h1 (by simp; omega) h3
      · subst h1
        exact macInner_ok K c k B nb cb b t ht os ho w hk hrk hb (by omega) (by omega) hrb
  · exact macInner_k K n c B nb cb t os w (by simp; omega)
end Go.Proofs.Ytfjjkkakhfgdhaa
