/-
  The walks of layer 1's statements that reach Get: CodeNames, CodeTells, CodeBack.
-/
import Derived.Test.YtgcagenhfddpgaaLaw01
import Derived.Test.YtgcagenhfddpgaaGet
import Derived.Test.YtgcagenhfddpgaaRef01
namespace Go.Proofs.Ytgcagenhfddpgaa
open Go.RowKit
set_option linter.unusedVariables false
set_option maxRecDepth 100000
attribute [local go_sem] str_toList toList_mk

theorem codeTells_walk (n s : Int) (A : Option Addr) (k c : Nat) (b : List UInt8) (a : Int) (w : World) (hb : b.length = k) (hr : Rd w w.heap.size 1 A k (bvs b)) (hk : k ≤ c) :
    Calls Try.prog 7 #[.int .i64 n, .int .i64 s, .slice A k c, .int .i64 a] w fun e w' => e = .returned (.bool true) ∧ Below w.heap.size w w' := by
  by_cases hbig : 10000 < (k : Int)
  · go_enter Try.func7, Try.ntmps7
    go_wp2
    go_ret
    exact ⟨rfl, Below.refl _ _⟩
  · have k0 := conv hr c
    go_enter Try.func7, Try.ntmps7
    go_wp2_with fail
    refine (put_any n s w).mono ?_
    rintro e w1 ⟨A1, c1, rfl, f1, b1⟩
    go_wp2_with fail
    refine (ref_put_any n s w1).mono ?_
    rintro e w2 ⟨A2, c2, rfl, f2, b2⟩
    have b02 : Below w.heap.size w w2 := b1.trans (b2.mono b1.size)
    go_wp2_with fail
    refine (get_any A k c a s w2 b hb (by omega) hk ((hr.below b02).more b02.size)).mono ?_
    rintro e w3 ⟨rfl, b3⟩
    have b03 : Below w.heap.size w w3 := b02.trans (b3.mono b02.size)
    go_wp2_with fail
    refine (ref_get_any A k c a s w3 b hb (by omega) hk ((hr.below b03).more b03.size)).mono ?_
    rintro e w4 ⟨rfl, b4⟩
    have b04 : Below w.heap.size w w4 := b03.trans (b4.mono b03.size)
    have k1 := conv (((f1.below b2 (Nat.le_refl _)).below b3 (Nat.le_refl _)).below b4 (Nat.le_refl _)).rd c1
    have k2 := conv ((f2.below b3 (Nat.le_refl _)).below b4 (Nat.le_refl _)).rd c2
    have k3 := conv (hr.below b04) c
    clear f1 f2 b1 b2 b3 b4 b02 b03 k0
    go_wp2
    go_ret
    exact ⟨rfl, b04⟩

theorem codeNames_walk (w : World) : Calls Try.prog 6 #[] w fun e w' => e = .returned (.bool true) ∧ Below w.heap.size w w' := by
  have v1 : getV [7, 2, 1] 1 2 = 258 := by decide
  have v2 : getE [7, 2, 1] 1 2 = 0 := by decide
  have v3 : getE [7, 2, 1] 2 2 = 8 := by decide
  have v4 : getE [7, 2, 1] 4 1 = 2 := by decide
  have hrd : ∀ W : World, Rd (W.alloc (.cells #[.int .u8 7, .int .u8 2, .int .u8 1] 5)) (W.heap.size + 1) 1 (some ⟨W.heap.size, 0, none⟩) 3 (bvs [7, 2, 1]) := fun W => Rd.made W _ 1 3 (bvs [7, 2, 1]) rfl
  have hbw : ∀ (W : World) (o : Obj), Below W.heap.size W (W.alloc o) := fun W o => (Below.refl _ W).alloc (Nat.le_refl _) o
  have HR := Lib.hid hrd
  have HB := Lib.hid hbw
  clear hrd hbw
  go_enter Try.func6, Try.ntmps6
  go_wp2_with fail
  refine (get_any _ 3 3 1 2 _ [7, 2, 1] rfl (by decide) (by decide) ((HR.out w).more (by simp))).mono ?_
  rintro e w1 ⟨rfl, b1⟩
  replace b1 := (HB.out w _).trans (b1.mono (by simp))
  go_wp2_with fail
  refine (get_any _ 3 3 2 2 _ [7, 2, 1] rfl (by decide) (by decide) ((HR.out w1).more (by simp))).mono ?_
  rintro e w2 ⟨rfl, b2⟩
  replace b2 := (HB.out w1 _).trans (b2.mono (by simp))
  go_wp2_with fail
  refine (get_any _ 3 3 4 1 _ [7, 2, 1] rfl (by decide) (by decide) ((HR.out w2).more (by simp))).mono ?_
  rintro e w3 ⟨rfl, b3⟩
  replace b3 := (HB.out w2 _).trans (b3.mono (by simp))
  go_wp2_with fail
  refine (alive01 w3).mono ?_
  rintro e w4 ⟨rfl, b4⟩
  go_wp2
  go_ret
  exact ⟨rfl, b1.trans ((b2.trans ((b3.trans (b4.mono b3.size)).mono b2.size)).mono b1.size)⟩

theorem codeBack_a (n s : Int) (A : Option Addr) (k c : Nat) (x : List UInt8) (D : Option Addr) (m d : Nat) (y : List UInt8) (a : Int) (w : World) (hx : x.length = k) (hrx : Rd w w.heap.size 1 A k (bvs x)) (hk : k ≤ c) (hk1 : (k : Int) ≤ 1000)
    (hy : y.length = m) (hry : Rd w w.heap.size 1 D m (bvs y)) (hm1 : (m : Int) ≤ 1000) (hp : PutOk n s) (hg : getE x a s = 0) :
    Calls Try.prog 8 #[.int .i64 n, .int .i64 s, .slice A k c, .slice D m d, .int .i64 a] w fun e w' => e = .returned (.bool true) ∧ Below w.heap.size w w' := by
  obtain ⟨S, rfl⟩ : ∃ S : Nat, s = (S : Int) := ⟨s.toNat, by have := hp.1; omega⟩
  have hS : S ≤ 4 := by have := hp.2.1; omega
  have hS' : (S : Int) ≤ 4 := by omega
  have hl : (putL n S).length = S := by rw [putL_yes hp, le_len]; omega
  have hE := putE_yes hp
  obtain ⟨g1, g2⟩ := get_put hp x y
  rw [hx] at g1 g2
  have hp' := put_any n S
  rw [hl, hE] at hp'
  have HP := Lib.hid hp'
  have HL := Lib.hid hl
  have HX := Lib.hid hx
  have HY := Lib.hid hy
  have G1 := Lib.hid g1
  have G2 := Lib.hid g2
  have HG := Lib.hid hg
  clear hp' hl hx hy g1 g2 hE hg
  have hk2 : ¬ 1000 < (k : Int) := by omega
  have hm2 : ¬ 1000 < (m : Int) := by omega
  go_enter Try.func8, Try.ntmps8
  go_wp2_with fail
  refine (alive01 w).mono ?_
  rintro e w1 ⟨rfl, b1⟩
  go_wp2_with fail
  refine (HP.out w1).mono ?_
  rintro e w2 ⟨A2, c2, rfl, f2, b2⟩
  have b02 : Below w.heap.size w w2 := b1.trans (b2.mono b1.size)
  have hb2 := b2.size
  go_wp2_with (first
    | (at_builtin; refine wpList_append_to rfl (.tmp 43) (.tmp 44) rfl okB rfl (Fr.none_ (base := w2.heap.size)) rfl (hrx.below b02) (bvs_one _) k (Nat.zero_add k) _ (List.nil_append _) (by unfold maxLen; omega) (by omega) (Nat.le_refl _) ?_; intro D3 c3 w3 f3 g3 _; have b3 : Below w2.heap.size w2 w3 := grownBy_below g3 (Nat.le_refl _) (by simp [rowOf_zero]); clear g3)
    | (at_builtin; refine wpList_append_to rfl (.tmp 46) (.tmp 47) rfl okB rfl f3 rfl (f2.below b3 (Nat.le_refl _)).rd (bvs_one _) _ rfl _ (bvs_app _ _).symm (by unfold maxLen; omega) (by omega) b3.size ?_; intro D4 c4 w4 f4 g4 _; have b4 : Below w2.heap.size w2 w4 := b3.grown g4 b3.size (fun g hg => (f3.row g hg).1); clear g4 f3 b3)
    | (at_builtin; refine wpList_append_to rfl (.tmp 49) (.tmp 50) rfl okB rfl f4 rfl ((hry.below b02).belowH b4 b02.size) (bvs_one _) _ rfl _ (bvs_app _ _).symm (by unfold maxLen; omega) (by omega) b4.size ?_; intro D5 c5 w5 f5 g5 _; have b5 : Below w2.heap.size w2 w5 := b4.grown g5 b4.size (fun g hg => (f4.row g hg).1); clear g5 f4 b4))
  refine (get_any _ _ _ _ _ w5 (x ++ putL n S ++ y) ?_ (by omega) f5.nc f5.rd).mono ?_
  · rw [List.length_append, List.length_append, HX.out, HL.out, HY.out]
  rintro e w6 ⟨rfl, b6⟩
  rw [G1.out, G2.out]
  have b06 : Below w.heap.size w w6 := (b02.trans (b5.mono b02.size)).trans (b6.mono (Nat.le_trans b02.size b5.size))
  clear f2 f5 b1 b2 b02 hb2 b5 b6
  go_wp2_with fail
  refine (get_any A k c a S w6 x HX.out (by omega) hk ((hrx.below b06).more b06.size)).mono ?_
  rintro e w7 ⟨rfl, b7⟩
  have b07 : Below w.heap.size w w7 := b06.trans (b7.mono b06.size)
  clear b7 b06
  obtain ⟨q1, q2⟩ := put_get HG.out
  have q3 := put_any (getV x a S) S
  rw [q2, putE_yes q1] at q3
  obtain ⟨⟨_, _, a0, a1⟩, a2⟩ := getE_zero HG.out
  rw [HX.out] at a1 a2
  have hlen : ((x.drop a.toNat).take (S : Int).toNat).length = S := by rw [List.length_take, List.length_drop, HX.out]; omega
  rw [hlen] at q3
  rw [HG.out]
  have Q3 := Lib.hid q3
  have HLn := Lib.hid hlen
  clear q1 q2 q3 hlen
  generalize getV x a S = V at *
  go_wp2_with fail
  refine (Q3.out w7).mono ?_
  rintro e w8 ⟨A8, c8, rfl, f8, b8⟩
  have b08 : Below w.heap.size w w8 := b07.trans (b8.mono b07.size)
  have e1 : (a + S).toNat - a.toNat = S := by omega
  have r8 : Rd w8 w.heap.size 1 (Option.map (fun x => x.add a.toNat) A) ((a + S).toNat - a.toNat) (bvs ((x.drop a.toNat).take (S : Int).toNat)) := by
    by_cases hc : c = a.toNat
    · have h0 : (a + S).toNat - a.toNat = 0 := by omega
      have hn : (x.drop a.toNat).take (S : Int).toNat = [] := by
        apply List.eq_nil_of_length_eq_zero
        rw [HLn.out]
        omega
      rw [h0, hn]
      exact Rd.nil_
    · have h := ((hrx.below b08).cut (l := a.toNat) (m := c) (by omega) hk).take (k := (a + S).toNat - a.toNat) (by omega)
      rw [if_neg hc] at h
      simp only [Nat.mul_one] at h
      rw [e1] at h ⊢
      rw [bvs_take, bvs_drop, Int.toNat_natCast]
      exact h
  have k8 := fun N => conv (f8.rd.drewN N) c8
  have k9 := fun N => conv (r8.drewN N) (c - a.toNat)
  have hca : ¬ c = a.toNat := by have := hp.1; omega
  have hw : IntKind.i64.wrap (a + (S : Int)) = a + (S : Int) := IntWalk.i64_in _ (by omega)
  have hb1 : a ≤ a + (S : Int) := by omega
  have hb2 : a + (S : Int) ≤ (c : Int) := by omega
  clear f8 r8 e1
  go_wp2
  go_quiet (fail)
  go_wp2
  go_ret
  exact ⟨rfl, below_drewN b08 _⟩
theorem codeBack_b (n s : Int) (A : Option Addr) (k c : Nat) (x : List UInt8) (D : Option Addr) (m d : Nat) (y : List UInt8) (a : Int) (w : World) (hx : x.length = k) (hrx : Rd w w.heap.size 1 A k (bvs x)) (hk : k ≤ c) (hk1 : (k : Int) ≤ 1000)
    (hy : y.length = m) (hry : Rd w w.heap.size 1 D m (bvs y)) (hm1 : (m : Int) ≤ 1000) (hp : PutOk n s) (hg : getE x a s ≠ 0) :
    Calls Try.prog 8 #[.int .i64 n, .int .i64 s, .slice A k c, .slice D m d, .int .i64 a] w fun e w' => e = .returned (.bool true) ∧ Below w.heap.size w w' := by
  obtain ⟨S, rfl⟩ : ∃ S : Nat, s = (S : Int) := ⟨s.toNat, by have := hp.1; omega⟩
  have hS : S ≤ 4 := by have := hp.2.1; omega
  have hS' : (S : Int) ≤ 4 := by omega
  have hl : (putL n S).length = S := by rw [putL_yes hp, le_len]; omega
  have hE := putE_yes hp
  obtain ⟨g1, g2⟩ := get_put hp x y
  rw [hx] at g1 g2
  have hp' := put_any n S
  rw [hl, hE] at hp'
  have HP := Lib.hid hp'
  have HL := Lib.hid hl
  have HX := Lib.hid hx
  have HY := Lib.hid hy
  have G1 := Lib.hid g1
  have G2 := Lib.hid g2
  have HG := Lib.hid hg
  clear hp' hl hx hy g1 g2 hE hg
  have hk2 : ¬ 1000 < (k : Int) := by omega
  have hm2 : ¬ 1000 < (m : Int) := by omega
  go_enter Try.func8, Try.ntmps8
  go_wp2_with fail
  refine (alive01 w).mono ?_
  rintro e w1 ⟨rfl, b1⟩
  go_wp2_with fail
  refine (HP.out w1).mono ?_
  rintro e w2 ⟨A2, c2, rfl, f2, b2⟩
  have b02 : Below w.heap.size w w2 := b1.trans (b2.mono b1.size)
  have hb2 := b2.size
  go_wp2_with (first
    | (at_builtin; refine wpList_append_to rfl (.tmp 43) (.tmp 44) rfl okB rfl (Fr.none_ (base := w2.heap.size)) rfl (hrx.below b02) (bvs_one _) k (Nat.zero_add k) _ (List.nil_append _) (by unfold maxLen; omega) (by omega) (Nat.le_refl _) ?_; intro D3 c3 w3 f3 g3 _; have b3 : Below w2.heap.size w2 w3 := grownBy_below g3 (Nat.le_refl _) (by simp [rowOf_zero]); clear g3)
    | (at_builtin; refine wpList_append_to rfl (.tmp 46) (.tmp 47) rfl okB rfl f3 rfl (f2.below b3 (Nat.le_refl _)).rd (bvs_one _) _ rfl _ (bvs_app _ _).symm (by unfold maxLen; omega) (by omega) b3.size ?_; intro D4 c4 w4 f4 g4 _; have b4 : Below w2.heap.size w2 w4 := b3.grown g4 b3.size (fun g hg => (f3.row g hg).1); clear g4 f3 b3)
    | (at_builtin; refine wpList_append_to rfl (.tmp 49) (.tmp 50) rfl okB rfl f4 rfl ((hry.below b02).belowH b4 b02.size) (bvs_one _) _ rfl _ (bvs_app _ _).symm (by unfold maxLen; omega) (by omega) b4.size ?_; intro D5 c5 w5 f5 g5 _; have b5 : Below w2.heap.size w2 w5 := b4.grown g5 b4.size (fun g hg => (f4.row g hg).1); clear g5 f4 b4))
  refine (get_any _ _ _ _ _ w5 (x ++ putL n S ++ y) ?_ (by omega) f5.nc f5.rd).mono ?_
  · rw [List.length_append, List.length_append, HX.out, HL.out, HY.out]
  rintro e w6 ⟨rfl, b6⟩
  rw [G1.out, G2.out]
  have b06 : Below w.heap.size w w6 := (b02.trans (b5.mono b02.size)).trans (b6.mono (Nat.le_trans b02.size b5.size))
  clear f2 f5 b1 b2 b02 hb2 b5 b6
  go_wp2_with fail
  refine (get_any A k c a S w6 x HX.out (by omega) hk ((hrx.below b06).more b06.size)).mono ?_
  rintro e w7 ⟨rfl, b7⟩
  have b07 : Below w.heap.size w w7 := b06.trans (b7.mono b06.size)
  clear b7 b06
  rw [getV_err HG.out]
  have hne : (getE x a S != 0) = true := by
    have := HG.out
    simpa using this
  go_wp2
  go_ret
  exact ⟨rfl, b07⟩
theorem codeBack_c (n s : Int) (A : Option Addr) (k c : Nat) (x : List UInt8) (D : Option Addr) (m d : Nat) (y : List UInt8) (a : Int) (w : World) (hx : x.length = k) (hrx : Rd w w.heap.size 1 A k (bvs x)) (hk : k ≤ c) (hk1 : (k : Int) ≤ 1000)
    (hm1 : (m : Int) ≤ 1000) (hp : ¬ PutOk n s) (hg : getE x a s = 0) :
    Calls Try.prog 8 #[.int .i64 n, .int .i64 s, .slice A k c, .slice D m d, .int .i64 a] w fun e w' => e = .returned (.bool true) ∧ Below w.heap.size w w' := by
  have HP := Lib.hid (put_err n s)
  have HX := Lib.hid hx
  have HG := Lib.hid hg
  have HN := Lib.hid hp
  clear hx hg hp
  have hk2 : ¬ 1000 < (k : Int) := by omega
  have hm2 : ¬ 1000 < (m : Int) := by omega
  go_enter Try.func8, Try.ntmps8
  go_wp2_with fail
  refine (alive01 w).mono ?_
  rintro e w1 ⟨rfl, b1⟩
  go_wp2_with fail
  refine (HP.out w1 HN.out).mono ?_
  rintro e w2 ⟨rfl, rfl⟩
  go_wp2_with fail
  refine (get_any A k c a s w1 x HX.out (by omega) hk ((hrx.below b1).more b1.size)).mono ?_
  rintro e w7 ⟨rfl, b7⟩
  have b07 : Below w.heap.size w w7 := b1.trans (b7.mono b1.size)
  clear b7 b1
  obtain ⟨S, rfl⟩ : ∃ S : Nat, s = (S : Int) := ⟨s.toNat, by have := (getE_zero HG.out).1.1; omega⟩
  have hS : S ≤ 4 := by have := (getE_zero HG.out).1.2.1; omega
  have hS' : (S : Int) ≤ 4 := by omega
  have hS0 := (getE_zero HG.out).1.1
  obtain ⟨q1, q2⟩ := put_get HG.out
  have q3 := put_any (getV x a S) S
  rw [q2, putE_yes q1] at q3
  obtain ⟨⟨_, _, a0, a1⟩, a2⟩ := getE_zero HG.out
  rw [HX.out] at a1 a2
  have hlen : ((x.drop a.toNat).take (S : Int).toNat).length = S := by rw [List.length_take, List.length_drop, HX.out]; omega
  rw [hlen] at q3
  rw [HG.out]
  have Q3 := Lib.hid q3
  have HLn := Lib.hid hlen
  clear q1 q2 q3 hlen
  generalize getV x a S = V at *
  go_wp2_with fail
  refine (Q3.out w7).mono ?_
  rintro e w8 ⟨A8, c8, rfl, f8, b8⟩
  have b08 : Below w.heap.size w w8 := b07.trans (b8.mono b07.size)
  have e1 : (a + S).toNat - a.toNat = S := by omega
  have r8 : Rd w8 w.heap.size 1 (Option.map (fun x => x.add a.toNat) A) ((a + S).toNat - a.toNat) (bvs ((x.drop a.toNat).take (S : Int).toNat)) := by
    by_cases hc : c = a.toNat
    · have h0 : (a + S).toNat - a.toNat = 0 := by omega
      have hn : (x.drop a.toNat).take (S : Int).toNat = [] := by
        apply List.eq_nil_of_length_eq_zero
        rw [HLn.out]
        omega
      rw [h0, hn]
      exact Rd.nil_
    · have h := ((hrx.below b08).cut (l := a.toNat) (m := c) (by omega) hk).take (k := (a + S).toNat - a.toNat) (by omega)
      rw [if_neg hc] at h
      simp only [Nat.mul_one] at h
      rw [e1] at h ⊢
      rw [bvs_take, bvs_drop, Int.toNat_natCast]
      exact h
  have k8 := fun N => conv (f8.rd.drewN N) c8
  have k9 := fun N => conv (r8.drewN N) (c - a.toNat)
  have hca : ¬ c = a.toNat := by omega
  have hw : IntKind.i64.wrap (a + (S : Int)) = a + (S : Int) := IntWalk.i64_in _ (by omega)
  have hb1 : a ≤ a + (S : Int) := by omega
  have hb2 : a + (S : Int) ≤ (c : Int) := by omega
  clear f8 r8 e1
  go_wp2
  go_quiet (fail)
  go_wp2
  go_ret
  exact ⟨rfl, below_drewN b08 _⟩
theorem codeBack_d (n s : Int) (A : Option Addr) (k c : Nat) (x : List UInt8) (D : Option Addr) (m d : Nat) (y : List UInt8) (a : Int) (w : World) (hx : x.length = k) (hrx : Rd w w.heap.size 1 A k (bvs x)) (hk : k ≤ c) (hk1 : (k : Int) ≤ 1000)
    (hm1 : (m : Int) ≤ 1000) (hp : ¬ PutOk n s) (hg : getE x a s ≠ 0) :
    Calls Try.prog 8 #[.int .i64 n, .int .i64 s, .slice A k c, .slice D m d, .int .i64 a] w fun e w' => e = .returned (.bool true) ∧ Below w.heap.size w w' := by
  have HP := Lib.hid (put_err n s)
  have HX := Lib.hid hx
  have HG := Lib.hid hg
  have HN := Lib.hid hp
  clear hx hg hp
  have hk2 : ¬ 1000 < (k : Int) := by omega
  have hm2 : ¬ 1000 < (m : Int) := by omega
  go_enter Try.func8, Try.ntmps8
  go_wp2_with fail
  refine (alive01 w).mono ?_
  rintro e w1 ⟨rfl, b1⟩
  go_wp2_with fail
  refine (HP.out w1 HN.out).mono ?_
  rintro e w2 ⟨rfl, rfl⟩
  go_wp2_with fail
  refine (get_any A k c a s w1 x HX.out (by omega) hk ((hrx.below b1).more b1.size)).mono ?_
  rintro e w7 ⟨rfl, b7⟩
  have b07 : Below w.heap.size w w7 := b1.trans (b7.mono b1.size)
  clear b7 b1
  rw [getV_err HG.out]
  have hne : (getE x a s != 0) = true := by
    have := HG.out
    simpa using this
  go_wp2
  go_ret
  exact ⟨rfl, b07⟩

theorem codeBack_walk (n s : Int) (A : Option Addr) (k c : Nat) (x : List UInt8) (D : Option Addr) (m d : Nat) (y : List UInt8) (a : Int) (w : World) (hx : x.length = k) (hrx : Rd w w.heap.size 1 A k (bvs x)) (hk : k ≤ c)
    (hy : y.length = m) (hry : Rd w w.heap.size 1 D m (bvs y)) :
    Calls Try.prog 8 #[.int .i64 n, .int .i64 s, .slice A k c, .slice D m d, .int .i64 a] w fun e w' => e = .returned (.bool true) ∧ Below w.heap.size w w' := by
  by_cases h1 : 1000 < (k : Int)
  · go_enter Try.func8, Try.ntmps8
    go_wp2_with fail
    refine (alive01 w).mono ?_
    rintro e w1 ⟨rfl, b1⟩
    go_wp2
    go_ret
    exact ⟨rfl, b1⟩
  · by_cases h2 : 1000 < (m : Int)
    · go_enter Try.func8, Try.ntmps8
      go_wp2_with fail
      refine (alive01 w).mono ?_
      rintro e w1 ⟨rfl, b1⟩
      go_wp2
      go_ret
      exact ⟨rfl, b1⟩
    · by_cases hp : PutOk n s
      · by_cases hg : getE x a s = 0
        · exact codeBack_a n s A k c x D m d y a w hx hrx hk (by omega) hy hry (by omega) hp hg
        · exact codeBack_b n s A k c x D m d y a w hx hrx hk (by omega) hy hry (by omega) hp hg
      · by_cases hg : getE x a s = 0
        · exact codeBack_c n s A k c x D m d y a w hx hrx hk (by omega) (by omega) hp hg
        · exact codeBack_d n s A k c x D m d y a w hx hrx hk (by omega) (by omega) hp hg
end Go.Proofs.Ytgcagenhfddpgaa
