/-
  charterhouseref04: contracts of Stretch, Wrap, Unwrap.
-/
import Derived.Test.YtoggpnncmgcgoaaRef04
import Derived.Test.YtoggpnncmgcgoaaLaw04
namespace Go.Proofs.Ytoggpnncmgcgoaa
open Go.RowKit
set_option linter.unusedVariables false
set_option linter.unusedSimpArgs false
set_option maxRecDepth 100000
attribute [local go_sem] str_toList toList_mk

theorem r_stretch_long (s : ByteArray) (salt : Nat) (w : World) (h : (s.size : Int) > 64) : Calls Try.prog 41 #[.string s, .int .u32 (salt : Int)] w fun e w' => e = .returned (.tuple #[.slice none 0 0, .int .i64 3]) ∧ w = w' := by
  have h64 : (64 : Int) < (s.size : Int) := h
  clear h
  go_enter Try.func41, Try.ntmps41
  go_wp2
  go_ret2
  exact ⟨rfl, rfl⟩
theorem r_stretch_ok (s : ByteArray) (salt : Nat) (w : World) (hs : (salt : Int) < 4294967296) (h : s.size ≤ 64) : Calls Try.prog 41 #[.string s, .int .u32 (salt : Int)] w fun e w' =>
    ∃ A c, e = .returned (.tuple #[.slice A 16 c, .int .i64 0]) ∧ Fr w' w.heap.size 5 1 A 16 c (bvs (stretchL s.data.toList salt)) ∧ Below w.heap.size w w' := by
  have hd64 : decide ((64 : Int) < (s.size : Int)) = false := by simp; omega
  have hst := r_stretched s salt w hs h
  have HST := Lib.hid hst
  clear hst h hs
  go_enter Try.func41, Try.ntmps41
  go_wp2_with fail
  refine HST.out.mono ?_
  rintro e w1 ⟨A1, c1, rfl, f1, b1⟩
  have HF := Lib.hid f1
  clear f1
  go_wp2
  go_ret2
  exact ⟨_, _, rfl, HF.out, b1⟩
theorem r_wrap_long (s : ByteArray) (K : Option Addr) (n c : Nat) (salt : Nat) (w : World) (h : (s.size : Int) > 64) : Calls Try.prog 42 #[.string s, .slice K n c, .int .u32 (salt : Int)] w fun e w' => e = .returned (.tuple #[.slice none 0 0, .int .i64 3]) ∧ w = w' := by
  have h64 : (64 : Int) < (s.size : Int) := h
  clear h
  go_enter Try.func42, Try.ntmps42
  go_wp2
  go_ret2
  exact ⟨rfl, rfl⟩
theorem r_wrap_arg (s : ByteArray) (K : Option Addr) (n c : Nat) (salt : Nat) (w : World) (h : s.size ≤ 64) (hn : ((n : Int) != 16) = true) : Calls Try.prog 42 #[.string s, .slice K n c, .int .u32 (salt : Int)] w fun e w' => e = .returned (.tuple #[.slice none 0 0, .int .i64 2]) ∧ w = w' := by
  have hd64 : decide ((64 : Int) < (s.size : Int)) = false := by simp; omega
  clear h
  go_enter Try.func42, Try.ntmps42
  go_wp2
  go_ret2
  exact ⟨rfl, rfl⟩
theorem r_wrap_ok (s : ByteArray) (K : Option Addr) (c : Nat) (k : List UInt8) (salt : Nat) (w : World) (hs : (salt : Int) < 4294967296) (h : s.size ≤ 64) (hk : k.length = 16) (hrk : Rd w w.heap.size 1 K 16 (bvs k)) :
    Calls Try.prog 42 #[.string s, .slice K 16 c, .int .u32 (salt : Int)] w fun e w' => ∃ D d, e = .returned (.tuple #[.slice D 24 d, .int .i64 0]) ∧ Fr w' w.heap.size 5 1 D 24 d (bvs (wrapL s.data.toList k salt)) ∧ Below w.heap.size w w' := by
  have hd64 : decide ((64 : Int) < (s.size : Int)) = false := by simp; omega
  have hst := r_made s K c k salt w hs h hk hrk
  have HST := Lib.hid hst
  clear hst h hs hrk
  go_enter Try.func42, Try.ntmps42
  go_wp2_with fail
  refine HST.out.mono ?_
  rintro e w1 ⟨A1, c1, rfl, f1, b1⟩
  have HF := Lib.hid f1
  clear f1
  go_wp2
  go_ret2
  exact ⟨_, _, rfl, HF.out, b1⟩
theorem r_unwrap_long (s : ByteArray) (A : Option Addr) (n c : Nat) (w : World) (h : (s.size : Int) > 64) : Calls Try.prog 43 #[.string s, .slice A n c] w fun e w' => e = .returned (.tuple #[.slice none 0 0, .int .i64 3]) ∧ w = w' := by
  have h64 : (64 : Int) < (s.size : Int) := h
  clear h
  go_enter Try.func43, Try.ntmps43
  go_wp2
  go_ret2
  exact ⟨rfl, rfl⟩
theorem r_unwrap_bad (s : ByteArray) (A : Option Addr) (n c : Nat) (w : World) (h : s.size ≤ 64) (hn : ((n : Int) != 24) = true) : Calls Try.prog 43 #[.string s, .slice A n c] w fun e w' => e = .returned (.tuple #[.slice none 0 0, .int .i64 8]) ∧ w = w' := by
  have hd64 : decide ((64 : Int) < (s.size : Int)) = false := by simp; omega
  clear h
  go_enter Try.func43, Try.ntmps43
  go_wp2
  go_ret2
  exact ⟨rfl, rfl⟩
/-- A key, wrapped anew, is sealed as what lay there. -/
theorem wrapL_anew (p l : List UInt8) (hl : l.length = 24) : wrapL p (xorL ((l.drop 4).take 16) (maskL (stretchL p (num (l.take 4))))) (num (l.take 4)) = sealL (stretchL p (num (l.take 4))) (l.take 20) := by
  have h4 : le 4 (num (l.take 4)) = l.take 4 := by
    have := le_num (l.take 4)
    rw [List.length_take, hl] at this
    exact this
  rw [wrapL, xorL_back _ _ (by rw [maskL_len, List.length_take, List.length_drop, hl]; rfl), h4]
  have : l.take 4 ++ (l.drop 4).take 16 = l.take 20 := (List.take_add (l := l) (i := 4) (j := 16)).symm
  rw [this]
theorem Rd.sub16 {w : World} {B n g off : Nat} {l : List UInt8} (h : Rd w B 1 (some ⟨g, off, none⟩) n (bvs l)) (at_ : Nat) (hl : at_ + 16 ≤ n) : Rd w B 1 (some ⟨g, off + at_, none⟩) 16 (bvs ((l.drop at_).take 16)) := by
  have hn := h.1
  rw [bvs_len, Nat.mul_one] at hn
  obtain ⟨b, o, he, hb, hc⟩ := h.2 (by omega)
  injection he with he
  injection he with e1 e2
  subst e1 e2
  refine ⟨by rw [bvs_len, List.length_take, List.length_drop]; omega, fun _ => ⟨g, off + at_, rfl, hb, fun j u hu => ?_⟩⟩
  have hj := (List.getElem?_eq_some_iff.1 hu).1
  rw [bvs_len, List.length_take, List.length_drop] at hj
  have := hc (at_ + j) u (by
    rw [bvs_get] at hu ⊢
    rw [List.getElem?_take_of_lt (by omega), List.getElem?_drop] at hu
    exact hu)
  rw [Nat.add_assoc]
  exact this
set_option maxHeartbeats 2000000 in
theorem r_unwrap_no (s : ByteArray) (B : Option Addr) (d : Nat) (l : List UInt8) (w : World) (h : s.size ≤ 64) (hl : l.length = 24) (hd : 24 ≤ d) (hr : Rd w w.heap.size 1 B 24 (bvs l))
    (hE : sealL (stretchL s.data.toList (num (l.take 4))) (l.take 20) ≠ l)
    : Calls Try.prog 43 #[.string s, .slice B 24 d] w fun e w' =>
    e = .returned (.tuple #[.slice none 0 0, .int .i64 201]) ∧ Below w.heap.size w w' := by
  have hd64 : decide ((64 : Int) < (s.size : Int)) = false := by simp; omega
  have hcap4 : (4 : Int) ≤ (d : Int) := by omega
  have hcap20 : (20 : Int) ≤ (d : Int) := by omega
  have hd4 : ¬ d = 4 := by omega
  have hlt : num (l.take 4) < 4294967296 := by have := num_lt (l.take 4); rw [List.length_take, hl] at this; exact this
  have hwr : IntKind.u32.wrap ((num (l.take 4) : Nat) : Int) = ((num (l.take 4) : Nat) : Int) := by rw [IntKind.wrap_u32]; omega
  have hst := fun W => r_stretched s (num (l.take 4)) W (by omega) h
  have hkl : ((l.drop 4).take 16).length = 16 := by rw [List.length_take, List.length_drop, hl]; rfl
  have hmade := fun D c W hrk => r_made s D c (xorL ((l.drop 4).take 16) (maskL (stretchL s.data.toList (num (l.take 4))))) (num (l.take 4)) W (by omega) h (by rw [xorL_len, hkl]) hrk
  rw [wrapL_anew _ _ hl] at hmade
  have hr4 := hr.take (k := 4) (by omega)
  rw [Nat.mul_one, ← bvs_take] at hr4
  have hnum := ref_number B 4 d (l.take 4) w (by rw [List.length_take, hl]; rfl) (by omega) hr4
  have HNUM := Lib.hid hnum
  have HST := Lib.hid hst
  have HSL := Lib.hid (stretchL_len s.data.toList (num (l.take 4)))
  have HMADE := Lib.hid hmade
  have HR := Lib.hid hr
  have HL := Lib.hid hl
  have HKL := Lib.hid hkl
  obtain ⟨g, o, rfl, hg, -⟩ := hr.2 (by omega)
  have hr16 := hr.range 4 16
  clear hnum hst hmade hr hlt h hr4 hkl hr16
  obtain ⟨S, hS⟩ : ∃ S, S = stretchL s.data.toList (num (l.take 4)) := ⟨_, rfl⟩
  simp only [← hS] at HST HSL HMADE hE ⊢
  generalize num (l.take 4) = salt at *
  obtain ⟨X, hX⟩ : ∃ X, X = sealL S (l.take 20) := ⟨_, rfl⟩
  rw [← hX] at hE
  simp only [← hX] at HMADE
  obtain ⟨k, hk⟩ : ∃ k, k = (l.drop 4).take 16 := ⟨_, rfl⟩
  simp only [← hk] at HMADE HKL ⊢
  obtain ⟨y, hy⟩ : ∃ y, y = xorL k (maskL S) := ⟨_, rfl⟩
  simp only [← hy] at HMADE ⊢
  have hq1 : (X != l) = true := by simpa using hE
  have hq2 : (X == l) = false := by simpa using hE
  have HY := Lib.hid hy
  have HKE := Lib.hid hk
  clear hS hX hy hk
  go_enter Try.func43, Try.ntmps43
  go_wp2_with fail
  refine HNUM.out.mono ?_
  rintro e w1 ⟨rfl, b1⟩
  have HB1 := Lib.hid b1
  have HBc := Lib.hid (Below.refl w1.heap.size w1).drew
  have HR1 := Lib.hid ((HR.out.below b1).more b1.size)
  clear b1
  go_wp2_with fail
  refine wp_region_any (by kernel_rfl) ?_
  try (change wpAny _ _ _ _ _ _ _ (World.drew _))
  refine wpAny_take (i := 0) (v := ?_) rfl (by kernel_rfl) (by kernel_rfl) (by kernel_rfl) (fun _ _ _ h => h) (Or.inl ⟨by rfl, ?hyq⟩) ?_
  case hyq => (intro w; go_simp; try (with_reducible rfl))
  refine wpAny_take (i := 1) (v := ?_) rfl (by kernel_rfl) (by kernel_rfl) (by kernel_rfl) (fun _ _ _ h => h) (Or.inl ⟨by rfl, ?hyq⟩) ?_
  case hyq => (intro w; go_simp; try (with_reducible rfl))
  refine wpAny_take (i := 2) (v := ?_) rfl (by kernel_rfl) (by kernel_rfl) (by kernel_rfl) (fun _ _ _ h => h) (Or.inl ⟨by rfl, ?hyq⟩) ?_
  case hyq => (intro w; go_simp; try (with_reducible rfl))
  refine wpAny_take (i := 3) (v := ?_) rfl (by kernel_rfl) (by kernel_rfl) (by kernel_rfl) (fun _ _ _ h => h) (Or.inl ⟨by rfl, ?hyq⟩) ?_
  case hyq => (intro w; go_simp; try (with_reducible rfl))
  refine wpAny_ready (rs := [4]) (by kernel_rfl) (by simp) ?_
  refine all_cons rfl (fun K hK => ?_) ?_
  · skip
    refine Stp.mk ?_
    go_simp
    go_wp2_with fail
    refine (HST.out _).mono ?_
    rintro e w2 ⟨A2, c2, rfl, f2, b2⟩
    have HF2 := Lib.hid f2
    replace HBc := Lib.hid (below_to HBc.out b2 HBc.out.size)
    clear f2 b2
    go_wp2
    refine wpAny_ready (rs := [5]) (by kernel_rfl) (by simp) ?_
    refine all_cons rfl (fun K hK => ?_) ?_
    · skip
      refine Stp.mk ?_
      go_simp
      go_wp2_with fail
      have hrk := (HR1.out.below HBc.out).sub16 4 (by omega)
      rw [← HKE.out] at hrk
      refine (r_turned (some ⟨g, o + 4, none⟩) (d - 4) k A2 c2 S _ HKL.out (hrk.more HBc.out.size) HSL.out HF2.out.rd).mono ?_
      rintro e w3 ⟨A3, c3, rfl, f3, b3⟩
      rw [← HY.out] at f3
      have HF3 := Lib.hid f3
      have HB3S := Lib.hid (Nat.le_trans HB1.out.size HBc.out.size)
      replace HBc := Lib.hid (below_to HBc.out b3 HBc.out.size)
      clear f3 b3 hrk
      go_wp2
      refine wpAny_take (i := 6) (v := ?_) rfl (by kernel_rfl) (by kernel_rfl) (by kernel_rfl) (fun _ _ _ h => h) (Or.inl ⟨by rfl, ?hyq⟩) ?_
      case hyq => (intro w; go_simp; try (with_reducible rfl))
      refine wpAny_done (by kernel_rfl) ?_ _
      have HBd := Lib.hid HBc.out
      have HBe := Lib.hid (Below.refl w3.heap.size w3).drew
      clear HBc
      go_wp2_with fail
      refine wp_region_any (by kernel_rfl) ?_
      try (change wpAny _ _ _ _ _ _ _ (World.drew _))
      refine wpAny_take (i := 0) (v := ?_) rfl (by kernel_rfl) (by kernel_rfl) (by kernel_rfl) (fun _ _ _ h => h) (Or.inl ⟨by rfl, ?hyq⟩) ?_
      case hyq => (intro w; go_simp; try (with_reducible rfl))
      refine wpAny_take (i := 1) (v := ?_) rfl (by kernel_rfl) (by kernel_rfl) (by kernel_rfl) (fun _ _ _ h => h) (Or.inl ⟨by rfl, ?hyq⟩) ?_
      case hyq => (intro w; go_simp; try (with_reducible rfl))
      refine wpAny_take (i := 2) (v := ?_) rfl (by kernel_rfl) (by kernel_rfl) (by kernel_rfl) (fun _ _ _ h => h) (Or.inl ⟨by rfl, ?hyq⟩) ?_
      case hyq => (intro w; go_simp; try (with_reducible rfl))
      refine wpAny_take (i := 5) (v := ?_) rfl (by kernel_rfl) (by kernel_rfl) (by kernel_rfl) (fun _ _ _ h => h) (Or.inl ⟨by rfl, ?hyq⟩) ?_
      case hyq => (intro w; go_simp; try (with_reducible rfl))
      refine wpAny_ready (rs := [3, 6]) (by kernel_rfl) (by simp) ?_
      refine all_cons rfl (fun K hK => ?_) ?_
      · skip
        refine Stp.mk ?_
        go_simp
        go_wp2_with fail
        refine (HMADE.out A3 c3 _ ((HF3.out.rd.below HBe.out).more HBe.out.size)).mono ?_
        rintro e w4 ⟨A4, c4, rfl, f4, b4⟩
        have HF4 := Lib.hid f4
        replace HBe := Lib.hid (below_to HBe.out b4 HBe.out.size)
        clear f4 b4
        go_wp2
        refine wpAny_ready (rs := [4, 6]) (by kernel_rfl) (by simp) ?_
        refine all_cons rfl (fun K hK => ?_) ?_
        · skip
          refine Stp.mk ?_
          have k1 := conv HF4.out.rd c4
          go_simp
          clear k1
          refine hK _ _ ?_
          clear hK K
          refine wpAny_ready (rs := [6]) (by kernel_rfl) (by simp) ?_
          refine all_cons rfl (fun K hK => ?_) ?_
          · skip
            refine Stp.mk ?_
            have k1 := conv ((HR1.out.below HBd.out).belowH HBe.out HBd.out.size) d
            go_simp
            clear k1
            refine hK _ _ ?_
            clear hK K
            refine wpAny_take (i := 7) (v := ?_) rfl (by kernel_rfl) (by kernel_rfl) (by kernel_rfl) (fun _ _ _ h => h) (Or.inl ⟨by rfl, ?hyq⟩) ?_
            case hyq => (intro w; go_simp; try (with_reducible rfl))
            refine wpAny_done (by kernel_rfl) ?_ _
            have bfin := below_to HB1.out (below_to HBd.out HBe.out HBd.out.size) HB1.out.size
            go_wp2
            go_ret2
            exact ⟨rfl, bfin⟩
          exact AllReady.nil
        refine all_cons rfl (fun K hK => ?_) ?_
        · skip
          refine Stp.mk ?_
          have k1 := conv ((HR1.out.below HBd.out).belowH HBe.out HBd.out.size) d
          go_simp
          clear k1
          refine hK _ _ ?_
          clear hK K
          refine wpAny_ready (rs := [4]) (by kernel_rfl) (by simp) ?_
          refine all_cons rfl (fun K hK => ?_) ?_
          · skip
            refine Stp.mk ?_
            have k1 := conv HF4.out.rd c4
            go_simp
            clear k1
            refine hK _ _ ?_
            clear hK K
            refine wpAny_take (i := 7) (v := ?_) rfl (by kernel_rfl) (by kernel_rfl) (by kernel_rfl) (fun _ _ _ h => h) (Or.inl ⟨by rfl, ?hyq⟩) ?_
            case hyq => (intro w; go_simp; try (with_reducible rfl))
            refine wpAny_done (by kernel_rfl) ?_ _
            have bfin := below_to HB1.out (below_to HBd.out HBe.out HBd.out.size) HB1.out.size
            go_wp2
            go_ret2
            exact ⟨rfl, bfin⟩
          exact AllReady.nil
        exact AllReady.nil
      refine all_cons rfl (fun K hK => ?_) ?_
      · skip
        refine Stp.mk ?_
        have k1 := conv ((HR1.out.below HBd.out).belowH HBe.out HBd.out.size) d
        go_simp
        clear k1
        refine hK _ _ ?_
        clear hK K
        refine wpAny_ready (rs := [3]) (by kernel_rfl) (by simp) ?_
        refine all_cons rfl (fun K hK => ?_) ?_
        · skip
          refine Stp.mk ?_
          go_simp
          go_wp2_with fail
          refine (HMADE.out A3 c3 _ ((HF3.out.rd.below HBe.out).more HBe.out.size)).mono ?_
          rintro e w4 ⟨A4, c4, rfl, f4, b4⟩
          have HF4 := Lib.hid f4
          replace HBe := Lib.hid (below_to HBe.out b4 HBe.out.size)
          clear f4 b4
          go_wp2
          refine wpAny_ready (rs := [4]) (by kernel_rfl) (by simp) ?_
          refine all_cons rfl (fun K hK => ?_) ?_
          · skip
            refine Stp.mk ?_
            have k1 := conv HF4.out.rd c4
            go_simp
            clear k1
            refine hK _ _ ?_
            clear hK K
            refine wpAny_take (i := 7) (v := ?_) rfl (by kernel_rfl) (by kernel_rfl) (by kernel_rfl) (fun _ _ _ h => h) (Or.inl ⟨by rfl, ?hyq⟩) ?_
            case hyq => (intro w; go_simp; try (with_reducible rfl))
            refine wpAny_done (by kernel_rfl) ?_ _
            have bfin := below_to HB1.out (below_to HBd.out HBe.out HBd.out.size) HB1.out.size
            go_wp2
            go_ret2
            exact ⟨rfl, bfin⟩
          exact AllReady.nil
        exact AllReady.nil
      exact AllReady.nil
    exact AllReady.nil
  exact AllReady.nil
set_option maxHeartbeats 2000000 in
theorem r_unwrap_ok (s : ByteArray) (B : Option Addr) (d : Nat) (l : List UInt8) (w : World) (h : s.size ≤ 64) (hl : l.length = 24) (hd : 24 ≤ d) (hr : Rd w w.heap.size 1 B 24 (bvs l))
    (hE : sealL (stretchL s.data.toList (num (l.take 4))) (l.take 20) = l)
    : Calls Try.prog 43 #[.string s, .slice B 24 d] w fun e w' =>
    ∃ D c, e = .returned (.tuple #[.slice D 16 c, .int .i64 0]) ∧ Fr w' w.heap.size 5 1 D 16 c (bvs (xorL ((l.drop 4).take 16) (maskL (stretchL s.data.toList (num (l.take 4)))))) ∧ Below w.heap.size w w' := by
  have hd64 : decide ((64 : Int) < (s.size : Int)) = false := by simp; omega
  have hcap4 : (4 : Int) ≤ (d : Int) := by omega
  have hcap20 : (20 : Int) ≤ (d : Int) := by omega
  have hd4 : ¬ d = 4 := by omega
  have hlt : num (l.take 4) < 4294967296 := by have := num_lt (l.take 4); rw [List.length_take, hl] at this; exact this
  have hwr : IntKind.u32.wrap ((num (l.take 4) : Nat) : Int) = ((num (l.take 4) : Nat) : Int) := by rw [IntKind.wrap_u32]; omega
  have hst := fun W => r_stretched s (num (l.take 4)) W (by omega) h
  have hkl : ((l.drop 4).take 16).length = 16 := by rw [List.length_take, List.length_drop, hl]; rfl
  have hmade := fun D c W hrk => r_made s D c (xorL ((l.drop 4).take 16) (maskL (stretchL s.data.toList (num (l.take 4))))) (num (l.take 4)) W (by omega) h (by rw [xorL_len, hkl]) hrk
  rw [wrapL_anew _ _ hl] at hmade
  have hr4 := hr.take (k := 4) (by omega)
  rw [Nat.mul_one, ← bvs_take] at hr4
  have hnum := ref_number B 4 d (l.take 4) w (by rw [List.length_take, hl]; rfl) (by omega) hr4
  have HNUM := Lib.hid hnum
  have HST := Lib.hid hst
  have HSL := Lib.hid (stretchL_len s.data.toList (num (l.take 4)))
  have HMADE := Lib.hid hmade
  have HR := Lib.hid hr
  have HL := Lib.hid hl
  have HKL := Lib.hid hkl
  obtain ⟨g, o, rfl, hg, -⟩ := hr.2 (by omega)
  have hr16 := hr.range 4 16
  clear hnum hst hmade hr hlt h hr4 hkl hr16
  obtain ⟨S, hS⟩ : ∃ S, S = stretchL s.data.toList (num (l.take 4)) := ⟨_, rfl⟩
  simp only [← hS] at HST HSL HMADE hE ⊢
  generalize num (l.take 4) = salt at *
  obtain ⟨X, hX⟩ : ∃ X, X = sealL S (l.take 20) := ⟨_, rfl⟩
  rw [← hX] at hE
  simp only [← hX] at HMADE
  obtain ⟨k, hk⟩ : ∃ k, k = (l.drop 4).take 16 := ⟨_, rfl⟩
  simp only [← hk] at HMADE HKL ⊢
  obtain ⟨y, hy⟩ : ∃ y, y = xorL k (maskL S) := ⟨_, rfl⟩
  simp only [← hy] at HMADE ⊢
  subst hE
  have HY := Lib.hid hy
  have HKE := Lib.hid hk
  clear hS hX hy hk
  go_enter Try.func43, Try.ntmps43
  go_wp2_with fail
  refine HNUM.out.mono ?_
  rintro e w1 ⟨rfl, b1⟩
  have HB1 := Lib.hid b1
  have HBc := Lib.hid (Below.refl w1.heap.size w1).drew
  have HR1 := Lib.hid ((HR.out.below b1).more b1.size)
  clear b1
  go_wp2_with fail
  refine wp_region_any (by kernel_rfl) ?_
  try (change wpAny _ _ _ _ _ _ _ (World.drew _))
  refine wpAny_take (i := 0) (v := ?_) rfl (by kernel_rfl) (by kernel_rfl) (by kernel_rfl) (fun _ _ _ h => h) (Or.inl ⟨by rfl, ?hyq⟩) ?_
  case hyq => (intro w; go_simp; try (with_reducible rfl))
  refine wpAny_take (i := 1) (v := ?_) rfl (by kernel_rfl) (by kernel_rfl) (by kernel_rfl) (fun _ _ _ h => h) (Or.inl ⟨by rfl, ?hyq⟩) ?_
  case hyq => (intro w; go_simp; try (with_reducible rfl))
  refine wpAny_take (i := 2) (v := ?_) rfl (by kernel_rfl) (by kernel_rfl) (by kernel_rfl) (fun _ _ _ h => h) (Or.inl ⟨by rfl, ?hyq⟩) ?_
  case hyq => (intro w; go_simp; try (with_reducible rfl))
  refine wpAny_take (i := 3) (v := ?_) rfl (by kernel_rfl) (by kernel_rfl) (by kernel_rfl) (fun _ _ _ h => h) (Or.inl ⟨by rfl, ?hyq⟩) ?_
  case hyq => (intro w; go_simp; try (with_reducible rfl))
  refine wpAny_ready (rs := [4]) (by kernel_rfl) (by simp) ?_
  refine all_cons rfl (fun K hK => ?_) ?_
  · skip
    refine Stp.mk ?_
    go_simp
    go_wp2_with fail
    refine (HST.out _).mono ?_
    rintro e w2 ⟨A2, c2, rfl, f2, b2⟩
    have HF2 := Lib.hid f2
    replace HBc := Lib.hid (below_to HBc.out b2 HBc.out.size)
    clear f2 b2
    go_wp2
    refine wpAny_ready (rs := [5]) (by kernel_rfl) (by simp) ?_
    refine all_cons rfl (fun K hK => ?_) ?_
    · skip
      refine Stp.mk ?_
      go_simp
      go_wp2_with fail
      have hrk := (HR1.out.below HBc.out).sub16 4 (by omega)
      rw [← HKE.out] at hrk
      refine (r_turned (some ⟨g, o + 4, none⟩) (d - 4) k A2 c2 S _ HKL.out (hrk.more HBc.out.size) HSL.out HF2.out.rd).mono ?_
      rintro e w3 ⟨A3, c3, rfl, f3, b3⟩
      rw [← HY.out] at f3
      have HF3 := Lib.hid f3
      have HB3S := Lib.hid (Nat.le_trans HB1.out.size HBc.out.size)
      replace HBc := Lib.hid (below_to HBc.out b3 HBc.out.size)
      clear f3 b3 hrk
      go_wp2
      refine wpAny_take (i := 6) (v := ?_) rfl (by kernel_rfl) (by kernel_rfl) (by kernel_rfl) (fun _ _ _ h => h) (Or.inl ⟨by rfl, ?hyq⟩) ?_
      case hyq => (intro w; go_simp; try (with_reducible rfl))
      refine wpAny_done (by kernel_rfl) ?_ _
      have HBd := Lib.hid HBc.out
      have HBe := Lib.hid (Below.refl w3.heap.size w3).drew
      clear HBc
      go_wp2_with fail
      refine wp_region_any (by kernel_rfl) ?_
      try (change wpAny _ _ _ _ _ _ _ (World.drew _))
      refine wpAny_take (i := 0) (v := ?_) rfl (by kernel_rfl) (by kernel_rfl) (by kernel_rfl) (fun _ _ _ h => h) (Or.inl ⟨by rfl, ?hyq⟩) ?_
      case hyq => (intro w; go_simp; try (with_reducible rfl))
      refine wpAny_take (i := 1) (v := ?_) rfl (by kernel_rfl) (by kernel_rfl) (by kernel_rfl) (fun _ _ _ h => h) (Or.inl ⟨by rfl, ?hyq⟩) ?_
      case hyq => (intro w; go_simp; try (with_reducible rfl))
      refine wpAny_take (i := 2) (v := ?_) rfl (by kernel_rfl) (by kernel_rfl) (by kernel_rfl) (fun _ _ _ h => h) (Or.inl ⟨by rfl, ?hyq⟩) ?_
      case hyq => (intro w; go_simp; try (with_reducible rfl))
      refine wpAny_take (i := 5) (v := ?_) rfl (by kernel_rfl) (by kernel_rfl) (by kernel_rfl) (fun _ _ _ h => h) (Or.inl ⟨by rfl, ?hyq⟩) ?_
      case hyq => (intro w; go_simp; try (with_reducible rfl))
      refine wpAny_ready (rs := [3, 6]) (by kernel_rfl) (by simp) ?_
      refine all_cons rfl (fun K hK => ?_) ?_
      · skip
        refine Stp.mk ?_
        go_simp
        go_wp2_with fail
        refine (HMADE.out A3 c3 _ ((HF3.out.rd.below HBe.out).more HBe.out.size)).mono ?_
        rintro e w4 ⟨A4, c4, rfl, f4, b4⟩
        have HF4 := Lib.hid f4
        replace HBe := Lib.hid (below_to HBe.out b4 HBe.out.size)
        clear f4 b4
        go_wp2
        refine wpAny_ready (rs := [4, 6]) (by kernel_rfl) (by simp) ?_
        refine all_cons rfl (fun K hK => ?_) ?_
        · skip
          refine Stp.mk ?_
          have k1 := conv HF4.out.rd c4
          go_simp
          clear k1
          refine hK _ _ ?_
          clear hK K
          refine wpAny_ready (rs := [6]) (by kernel_rfl) (by simp) ?_
          refine all_cons rfl (fun K hK => ?_) ?_
          · skip
            refine Stp.mk ?_
            have k1 := conv ((HR1.out.below HBd.out).belowH HBe.out HBd.out.size) d
            go_simp
            clear k1
            refine hK _ _ ?_
            clear hK K
            refine wpAny_take (i := 7) (v := ?_) rfl (by kernel_rfl) (by kernel_rfl) (by kernel_rfl) (fun _ _ _ h => h) (Or.inl ⟨by rfl, ?hyq⟩) ?_
            case hyq => (intro w; go_simp; try (with_reducible rfl))
            refine wpAny_done (by kernel_rfl) ?_ _
            have bfin := below_to HB1.out (below_to HBd.out HBe.out HBd.out.size) HB1.out.size
            have ffin := HF3.out.below HBe.out (Nat.le_refl _)
            go_wp2
            go_ret2
            exact ⟨_, _, rfl, ffin.mono HB3S.out, bfin⟩
          exact AllReady.nil
        refine all_cons rfl (fun K hK => ?_) ?_
        · skip
          refine Stp.mk ?_
          have k1 := conv ((HR1.out.below HBd.out).belowH HBe.out HBd.out.size) d
          go_simp
          clear k1
          refine hK _ _ ?_
          clear hK K
          refine wpAny_ready (rs := [4]) (by kernel_rfl) (by simp) ?_
          refine all_cons rfl (fun K hK => ?_) ?_
          · skip
            refine Stp.mk ?_
            have k1 := conv HF4.out.rd c4
            go_simp
            clear k1
            refine hK _ _ ?_
            clear hK K
            refine wpAny_take (i := 7) (v := ?_) rfl (by kernel_rfl) (by kernel_rfl) (by kernel_rfl) (fun _ _ _ h => h) (Or.inl ⟨by rfl, ?hyq⟩) ?_
            case hyq => (intro w; go_simp; try (with_reducible rfl))
            refine wpAny_done (by kernel_rfl) ?_ _
            have bfin := below_to HB1.out (below_to HBd.out HBe.out HBd.out.size) HB1.out.size
            have ffin := HF3.out.below HBe.out (Nat.le_refl _)
            go_wp2
            go_ret2
            exact ⟨_, _, rfl, ffin.mono HB3S.out, bfin⟩
          exact AllReady.nil
        exact AllReady.nil
      refine all_cons rfl (fun K hK => ?_) ?_
      · skip
        refine Stp.mk ?_
        have k1 := conv ((HR1.out.below HBd.out).belowH HBe.out HBd.out.size) d
        go_simp
        clear k1
        refine hK _ _ ?_
        clear hK K
        refine wpAny_ready (rs := [3]) (by kernel_rfl) (by simp) ?_
        refine all_cons rfl (fun K hK => ?_) ?_
        · skip
          refine Stp.mk ?_
          go_simp
          go_wp2_with fail
          refine (HMADE.out A3 c3 _ ((HF3.out.rd.below HBe.out).more HBe.out.size)).mono ?_
          rintro e w4 ⟨A4, c4, rfl, f4, b4⟩
          have HF4 := Lib.hid f4
          replace HBe := Lib.hid (below_to HBe.out b4 HBe.out.size)
          clear f4 b4
          go_wp2
          refine wpAny_ready (rs := [4]) (by kernel_rfl) (by simp) ?_
          refine all_cons rfl (fun K hK => ?_) ?_
          · skip
            refine Stp.mk ?_
            have k1 := conv HF4.out.rd c4
            go_simp
            clear k1
            refine hK _ _ ?_
            clear hK K
            refine wpAny_take (i := 7) (v := ?_) rfl (by kernel_rfl) (by kernel_rfl) (by kernel_rfl) (fun _ _ _ h => h) (Or.inl ⟨by rfl, ?hyq⟩) ?_
            case hyq => (intro w; go_simp; try (with_reducible rfl))
            refine wpAny_done (by kernel_rfl) ?_ _
            have bfin := below_to HB1.out (below_to HBd.out HBe.out HBd.out.size) HB1.out.size
            have ffin := HF3.out.below HBe.out (Nat.le_refl _)
            go_wp2
            go_ret2
            exact ⟨_, _, rfl, ffin.mono HB3S.out, bfin⟩
          exact AllReady.nil
        exact AllReady.nil
      exact AllReady.nil
    exact AllReady.nil
  exact AllReady.nil
end Go.Proofs.Ytoggpnncmgcgoaa
