/-
  The walks of layer 3's statements: alive, MacNames, MacNested.
-/
import Derived.Test.YtfjjkkakhfgdhaaMac
import Derived.Test.YtfjjkkakhfgdhaaLaw02d
namespace Go.Proofs.Ytfjjkkakhfgdhaa
open Go.RowKit
set_option linter.unusedVariables false
set_option linter.unusedSimpArgs false
set_option maxRecDepth 100000
attribute [local go_sem] str_toList toList_mk

def noughts (n : Nat) : List UInt8 := List.replicate n 0
theorem noughts_len (n : Nat) : (noughts n).length = n := List.length_replicate
theorem run_mkN (kl kc : IntKind) (n : Nat) (hn : n ≤ 1000000000) (w : World) :
    (Instr.makeSlice 28 (.int kl (n : Int)) (.int kc (n : Int))).run Try.prog w = .ok (.slice (some ⟨w.heap.size, 0, none⟩) n n) (w.alloc (.cells (bvs (noughts n)).toArray 5)) :=
  run_mkB okB kl kc n hn w
theorem fr_mkN (w : World) (n : Nat) (hn : n ≤ 1000000000) {base : Nat} (hb : base ≤ w.heap.size) : Fr (w.alloc (.cells (bvs (noughts n)).toArray 5)) base 5 1 (some ⟨w.heap.size, 0, none⟩) n n (bvs (noughts n)) := fr_mkB w _ n hn hb

theorem alive03 (w : World) : Calls Try.prog 32 #[] w fun e w' => e = .returned (.bool true) ∧ Below w.heap.size w w' := by
  have hmk15 : ∀ W, (Instr.makeSlice 28 (.int .i64 15) (.int .i64 15)).run Try.prog W = .ok (.slice (some ⟨W.heap.size, 0, none⟩) 15 15) (W.alloc (.cells (bvs (noughts 15)).toArray 5)) := fun W => run_mkN .i64 .i64 15 (by omega) W
  have hmk16 : ∀ W, (Instr.makeSlice 28 (.int .i64 16) (.int .i64 16)).run Try.prog W = .ok (.slice (some ⟨W.heap.size, 0, none⟩) 16 16) (W.alloc (.cells (bvs (noughts 16)).toArray 5)) := fun W => run_mkN .i64 .i64 16 (by omega) W
  go_enter Try.func32, Try.ntmps32
  go_wp2_with fail
  refine (m_tag_bad _ 15 15 none 0 0 _ (by decide)).mono ?_
  rintro e w1 ⟨rfl, hw1⟩
  have B1 := below_new w (.cells (bvs (noughts 15)).toArray 5)
  rw [hw1] at B1
  clear hw1
  go_wp2_with fail
  refine (m_tag _ 16 (noughts 16) none 0 0 [] _ (noughts_len 16) (fr_mkN w1 16 (by omega) (Nat.le_refl _)).rd rfl (by decide) Rd.nil_).mono ?_
  rintro e w2 ⟨rfl, b2⟩
  have B2 := below_to (below_alloc B1 (.cells (bvs (noughts 16)).toArray 5) (Nat.le_refl _)) b2 (by rw [World.size_alloc]; have := B1.size; omega)
  clear b2
  go_wp2_with fail
  have B3 := below_alloc (below_alloc B2 (.cells (bvs (noughts 16)).toArray 5) (Nat.le_refl _)) (.cells #[] 5) (Nat.le_refl _)
  have f3 := (fr_mkN w2 16 (by omega) (Nat.le_refl w2.heap.size)).alloc (.cells #[] 5)
  refine (m_tag _ 16 (noughts 16) _ 0 0 [] _ (noughts_len 16) f3.rd rfl (by decide) (Rd.nil_)).mono ?_
  rintro e w4 ⟨rfl, b4⟩
  have B4 := below_to B3 b4 B3.size
  clear B3 f3 b4 hmk15 hmk16
  generalize wi (tagOf (noughts 16) []) = t
  go_wp2
  go_ret
  exact ⟨by simp, B4⟩

theorem macNames_walk (w : World) : Calls Try.prog 9 #[] w fun e w' => e = .returned (.bool true) ∧ Below w.heap.size w w' := by
  go_enter Try.func9, Try.ntmps9
  go_wp2_with fail
  refine (alive03 w).mono ?_
  rintro e w1 ⟨rfl, b1⟩
  go_wp2
  go_ret
  exact ⟨rfl, b1⟩

theorem macNested_k (K : Option Addr) (n c : Nat) (A : Option Addr) (na ca : Nat) (B : Option Addr) (nb cb : Nat) (w : World)
    (h1 : ((n : Int) != 16) = true)
    : Calls Try.prog 11 #[.slice K n c, .slice A na ca, .slice B nb cb] w fun e w' => e = .returned (.bool true) ∧ Below w.heap.size w w' := by
  go_enter Try.func11, Try.ntmps11
  go_wp2_with fail
  refine (alive03 w).mono ?_
  rintro e w1 ⟨rfl, b1⟩
  go_wp2
  go_ret
  exact ⟨rfl, b1⟩
theorem macNested_a (K : Option Addr) (n c : Nat) (A : Option Addr) (na ca : Nat) (B : Option Addr) (nb cb : Nat) (w : World)
    (h1 : n = 16)
    (h2 : 10000 < (na : Int))
    : Calls Try.prog 11 #[.slice K n c, .slice A na ca, .slice B nb cb] w fun e w' => e = .returned (.bool true) ∧ Below w.heap.size w w' := by
  subst h1
  go_enter Try.func11, Try.ntmps11
  go_wp2_with fail
  refine (alive03 w).mono ?_
  rintro e w1 ⟨rfl, b1⟩
  go_wp2
  go_ret
  exact ⟨rfl, b1⟩
theorem macNested_b (K : Option Addr) (n c : Nat) (A : Option Addr) (na ca : Nat) (B : Option Addr) (nb cb : Nat) (w : World)
    (h1 : n = 16)
    (h2 : decide (10000 < (na : Int)) = false)
    (h3 : 10000 < (nb : Int))
    : Calls Try.prog 11 #[.slice K n c, .slice A na ca, .slice B nb cb] w fun e w' => e = .returned (.bool true) ∧ Below w.heap.size w w' := by
  subst h1
  go_enter Try.func11, Try.ntmps11
  go_wp2_with fail
  refine (alive03 w).mono ?_
  rintro e w1 ⟨rfl, b1⟩
  go_wp2
  go_ret
  exact ⟨rfl, b1⟩

set_option maxHeartbeats 4000000 in
theorem macNested_ok_eq (K : Option Addr) (c : Nat) (k : List UInt8) (A : Option Addr) (na ca : Nat) (a : List UInt8) (B : Option Addr) (nb cb : Nat) (b : List UInt8) (w : World) (hk : k.length = 16) (hrk : Rd w w.heap.size 1 K 16 (bvs k))
    (ha : a.length = na) (hna : (na : Int) ≤ 10000) (hra : Rd w w.heap.size 1 A na (bvs a)) (hb : b.length = nb) (hnb : (nb : Int) ≤ 10000) (hrb : Rd w w.heap.size 1 B nb (bvs b))
    (he : innerOf k a = innerOf k b)
    : Calls Try.prog 11 #[.slice K 16 c, .slice A na ca, .slice B nb cb] w fun e w' => e = .returned (.bool true) ∧ Below w.heap.size w w' := by
  have hta : (fourOf (k ++ ([2] ++ innerOf k a))).a = tagOf k a := rfl
  have htb : (fourOf (k ++ ([2] ++ innerOf k b))).a = tagOf k b := rfl
  have hka : keyOf (fourOf (k ++ ([1] ++ a))) = innerOf k a := rfl
  have hkb : keyOf (fourOf (k ++ ([1] ++ b))) = innerOf k b := rfl
  have hT1 := fun W (h : Below w.heap.size w W) => m_tag K c k A na ca a W hk ((hrk.below h).more h.size) ha (by omega) ((hra.below h).more h.size)
  have hT2 := fun W (h : Below w.heap.size w W) => m_tag K c k B nb cb b W hk ((hrk.below h).more h.size) hb (by omega) ((hrb.below h).more h.size)
  have hK1 := fun (D : Option Addr) (d : Nat) (W : World) hc hr => x_key D (17 + na) d (k ++ ([1] ++ a)) W (by simp only [List.length_append, List.length_cons, List.length_nil, hk, ha]; omega) (by omega) hc hr
  have hK2 := fun (D : Option Addr) (d : Nat) (W : World) hc hr => x_key D (17 + nb) d (k ++ ([1] ++ b)) W (by simp only [List.length_append, List.length_cons, List.length_nil, hk, hb]; omega) (by omega) hc hr
  have hS1 := fun (D : Option Addr) (d : Nat) (W : World) hc hr => x_sum D 33 d (k ++ ([2] ++ innerOf k a)) W (by simp only [List.length_append, List.length_cons, List.length_nil, hk, innerOf_len]) (by decide) hc hr
  rw [hka] at hK1
  rw [hkb] at hK2
  rw [hta] at hS1
  have hTT : tagOf k a = tagOf k b := by rw [← hta, ← htb, he]
  rw [← he] at hK2
  rw [← hTT] at hT2
  have HT1 := Lib.hid hT1
  have HT2 := Lib.hid hT2
  have HK1 := Lib.hid hK1
  have HK2 := Lib.hid hK2
  have HS1 := Lib.hid hS1
  have HRK := Lib.hid hrk
  have HRA := Lib.hid hra
  have HRB := Lib.hid hrb
  clear hTT he
  clear hT1 hT2 hK1 hK2 hS1 hta htb hka hkb hrk hra hrb
  generalize wi (tagOf k a) = ta at *
  have hil : (innerOf k a).length = 16 := innerOf_len k a
  generalize innerOf k a = ia at *
  go_enter Try.func11, Try.ntmps11
  go_wp2_with fail
  refine (alive03 w).mono ?_
  rintro e w1 ⟨rfl, b1⟩
  go_wp2_with fail
  refine (HT1.out w1 b1).mono ?_
  rintro e w2 ⟨rfl, b2⟩
  have B2 := below_to b1 b2 b1.size
  go_wp2_with fail
  refine (HT2.out w2 B2).mono ?_
  rintro e w3 ⟨rfl, b3⟩
  have B3 := below_to B2 b3 B2.size
  clear b1 b2 b3 B2 HT1 HT2
  have HX1 := Lib.hid ((HRA.out.below B3).more B3.size)
  have HB1 := Lib.hid B3
  have HC1 := Lib.hid ((HRK.out.below B3).more B3.size)
  clear B3
  go_wp2_with (first
    | (at_builtin; refine wpList_append_to rfl (.tmp 51) (.tmp 52) rfl okB rfl (Fr.zero_ (w := w3.alloc (.cells #[] 5)) (base := w3.heap.size)) rfl (HC1.out.below (below_new w3 _)) (bvs_one _) 16 rfl (bvs k) rfl (by unfold maxLen; omega) (by omega) (by rw [World.size_alloc]; omega) ?_; intro D14 d14 w14 f14 g14 _; have hb14 := (below_new w3 (.cells #[] 5)).grown g14 (by rw [World.size_alloc]; omega) (by intro q hq; rw [rowOf_zero] at hq; cases hq); have HB14 := Lib.hid hb14; have HF14 := Lib.hid f14; clear hb14 f14 g14)
    | (at_builtin; refine wpList_append_to rfl (.tmp 53) (.tmp 54) rfl okB rfl (HF14.out.alloc _) rfl (Rd.made w14 _ 1 1 _ rfl) (ones1 rfl) 17 rfl (bvs (k ++ [1])) (bvs_app k [1]).symm (by unfold maxLen; omega) (by omega) (by have := HB14.out.size; rw [World.size_alloc]; omega) ?_; intro D15 d15 w15 f15 g15 _; have hb15 := (below_alloc HB14.out (.cells #[.int .u8 1] 5) (Nat.le_refl _)).grown g15 (by have := HB14.out.size; rw [World.size_alloc]; omega) (fun q hq => (HF14.out.row _ hq).1); have HB15 := Lib.hid hb15; have HF15 := Lib.hid f15; clear hb15 f15 g15)
    | (at_builtin; go_loud (refine wpList_append_to rfl (.tmp 55) (.tmp 56) rfl okB rfl HF15.out rfl (HX1.out.below HB15.out) (bvs_one _) (17 + na) (by omega) (bvs (k ++ ([1] ++ a))) (by rw [← List.append_assoc, bvs_app (k ++ [1])]) (by unfold maxLen; omega) (by omega) HB15.out.size ?_); intro D16 d16 w16 f16 g16 _; have hb16 := HB15.out.grown g16 HB15.out.size (fun q hq => (HF15.out.row _ hq).1); have HB16 := Lib.hid hb16; have HF16 := Lib.hid f16; clear hb16 f16 g16))
  refine (HK1.out D16 d16 w16 HF16.out.nc HF16.out.rd).mono ?_
  rintro e w17 ⟨A17, c17, rfl, f17, b17'⟩
  have b17 := below_to HB16.out b17' HB16.out.size
  have B17 := below_to HB1.out b17 HB1.out.size
  clear b17' HB14 HB15 HB16 HF14 HF15 HF16 HX1 HC1 HB1
  have HX2 := Lib.hid ((HRB.out.below B17).more B17.size)
  have HB2 := Lib.hid B17
  have HC2 := Lib.hid ((HRK.out.below B17).more B17.size)
  clear B17
  go_wp2_with (first
    | (at_builtin; refine wpList_append_to rfl (.tmp 59) (.tmp 60) rfl okB rfl (Fr.zero_ (w := w17.alloc (.cells #[] 5)) (base := w17.heap.size)) rfl (HC2.out.below (below_new w17 _)) (bvs_one _) 16 rfl (bvs k) rfl (by unfold maxLen; omega) (by omega) (by rw [World.size_alloc]; omega) ?_; intro D24 d24 w24 f24 g24 _; have hb24 := (below_new w17 (.cells #[] 5)).grown g24 (by rw [World.size_alloc]; omega) (by intro q hq; rw [rowOf_zero] at hq; cases hq); have HB24 := Lib.hid hb24; have HF24 := Lib.hid f24; clear hb24 f24 g24)
    | (at_builtin; refine wpList_append_to rfl (.tmp 61) (.tmp 62) rfl okB rfl (HF24.out.alloc _) rfl (Rd.made w24 _ 1 1 _ rfl) (ones1 rfl) 17 rfl (bvs (k ++ [1])) (bvs_app k [1]).symm (by unfold maxLen; omega) (by omega) (by have := HB24.out.size; rw [World.size_alloc]; omega) ?_; intro D25 d25 w25 f25 g25 _; have hb25 := (below_alloc HB24.out (.cells #[.int .u8 1] 5) (Nat.le_refl _)).grown g25 (by have := HB24.out.size; rw [World.size_alloc]; omega) (fun q hq => (HF24.out.row _ hq).1); have HB25 := Lib.hid hb25; have HF25 := Lib.hid f25; clear hb25 f25 g25)
    | (at_builtin; go_loud (refine wpList_append_to rfl (.tmp 63) (.tmp 64) rfl okB rfl HF25.out rfl (HX2.out.below HB25.out) (bvs_one _) (17 + nb) (by omega) (bvs (k ++ ([1] ++ b))) (by rw [← List.append_assoc, bvs_app (k ++ [1])]) (by unfold maxLen; omega) (by omega) HB25.out.size ?_); intro D26 d26 w26 f26 g26 _; have hb26 := HB25.out.grown g26 HB25.out.size (fun q hq => (HF25.out.row _ hq).1); have HB26 := Lib.hid hb26; have HF26 := Lib.hid f26; clear hb26 f26 g26))
  refine (HK2.out D26 d26 w26 HF26.out.nc HF26.out.rd).mono ?_
  rintro e w27 ⟨A27, c27, rfl, f27, b27'⟩
  have b27 := below_to HB26.out b27' HB26.out.size
  have B27 := below_to HB2.out b27 HB2.out.size
  clear b27' HB24 HB25 HB26 HF24 HF25 HF26 HX2 HC2 HB2
  have k1 := conv (f17.below b27 (Nat.le_refl _)).rd c17
  have k2 := conv f27.rd c27
  have HX3 := Lib.hid ((f17.below b27 (Nat.le_refl _)).rd)
  have HB3 := Lib.hid B27
  have HC3 := Lib.hid ((HRK.out.below B27).more B27.size)
  clear B27
  clear f17 f27 b27
  go_wp2_with (first
    | (at_builtin; refine wpList_append_to rfl (.tmp 78) (.tmp 79) rfl okB rfl (Fr.zero_ (w := w27.alloc (.cells #[] 5)) (base := w27.heap.size)) rfl (HC3.out.below (below_new w27 _)) (bvs_one _) 16 rfl (bvs k) rfl (by unfold maxLen; omega) (by omega) (by rw [World.size_alloc]; omega) ?_; intro D34 d34 w34 f34 g34 _; have hb34 := (below_new w27 (.cells #[] 5)).grown g34 (by rw [World.size_alloc]; omega) (by intro q hq; rw [rowOf_zero] at hq; cases hq); have HB34 := Lib.hid hb34; have HF34 := Lib.hid f34; clear hb34 f34 g34)
    | (at_builtin; refine wpList_append_to rfl (.tmp 80) (.tmp 81) rfl okB rfl (HF34.out.alloc _) rfl (Rd.made w34 _ 1 1 _ rfl) (ones1 rfl) 17 rfl (bvs (k ++ [2])) (bvs_app k [2]).symm (by unfold maxLen; omega) (by omega) (by have := HB34.out.size; rw [World.size_alloc]; omega) ?_; intro D35 d35 w35 f35 g35 _; have hb35 := (below_alloc HB34.out (.cells #[.int .u8 2] 5) (Nat.le_refl _)).grown g35 (by have := HB34.out.size; rw [World.size_alloc]; omega) (fun q hq => (HF34.out.row _ hq).1); have HB35 := Lib.hid hb35; have HF35 := Lib.hid f35; clear hb35 f35 g35)
    | (at_builtin; go_loud (refine wpList_append_to rfl (.tmp 82) (.tmp 83) rfl okB rfl HF35.out rfl (HX3.out.below HB35.out) (bvs_one _) (33) (by omega) (bvs (k ++ ([2] ++ ia))) (by rw [← List.append_assoc, bvs_app (k ++ [2])]) (by unfold maxLen; omega) (by omega) HB35.out.size ?_); intro D36 d36 w36 f36 g36 _; have hb36 := HB35.out.grown g36 HB35.out.size (fun q hq => (HF35.out.row _ hq).1); have HB36 := Lib.hid hb36; have HF36 := Lib.hid f36; clear hb36 f36 g36))
  refine (HS1.out D36 d36 w36 HF36.out.nc HF36.out.rd).mono ?_
  rintro e w37 ⟨rfl, b37⟩
  have B37 := below_to (below_to HB3.out HB36.out HB3.out.size) b37 (Nat.le_trans HB3.out.size HB36.out.size)
  go_wp2
  go_ret
  exact ⟨by simp, B37⟩
set_option maxHeartbeats 4000000 in
theorem macNested_ok_ne (K : Option Addr) (c : Nat) (k : List UInt8) (A : Option Addr) (na ca : Nat) (a : List UInt8) (B : Option Addr) (nb cb : Nat) (b : List UInt8) (w : World) (hk : k.length = 16) (hrk : Rd w w.heap.size 1 K 16 (bvs k))
    (ha : a.length = na) (hna : (na : Int) ≤ 10000) (hra : Rd w w.heap.size 1 A na (bvs a)) (hb : b.length = nb) (hnb : (nb : Int) ≤ 10000) (hrb : Rd w w.heap.size 1 B nb (bvs b))
    (he : (innerOf k a == innerOf k b) = false)
    : Calls Try.prog 11 #[.slice K 16 c, .slice A na ca, .slice B nb cb] w fun e w' => e = .returned (.bool true) ∧ Below w.heap.size w w' := by
  have hta : (fourOf (k ++ ([2] ++ innerOf k a))).a = tagOf k a := rfl
  have htb : (fourOf (k ++ ([2] ++ innerOf k b))).a = tagOf k b := rfl
  have hka : keyOf (fourOf (k ++ ([1] ++ a))) = innerOf k a := rfl
  have hkb : keyOf (fourOf (k ++ ([1] ++ b))) = innerOf k b := rfl
  have hT1 := fun W (h : Below w.heap.size w W) => m_tag K c k A na ca a W hk ((hrk.below h).more h.size) ha (by omega) ((hra.below h).more h.size)
  have hT2 := fun W (h : Below w.heap.size w W) => m_tag K c k B nb cb b W hk ((hrk.below h).more h.size) hb (by omega) ((hrb.below h).more h.size)
  have hK1 := fun (D : Option Addr) (d : Nat) (W : World) hc hr => x_key D (17 + na) d (k ++ ([1] ++ a)) W (by simp only [List.length_append, List.length_cons, List.length_nil, hk, ha]; omega) (by omega) hc hr
  have hK2 := fun (D : Option Addr) (d : Nat) (W : World) hc hr => x_key D (17 + nb) d (k ++ ([1] ++ b)) W (by simp only [List.length_append, List.length_cons, List.length_nil, hk, hb]; omega) (by omega) hc hr
  have hS1 := fun (D : Option Addr) (d : Nat) (W : World) hc hr => x_sum D 33 d (k ++ ([2] ++ innerOf k a)) W (by simp only [List.length_append, List.length_cons, List.length_nil, hk, innerOf_len]) (by decide) hc hr
  rw [hka] at hK1
  rw [hkb] at hK2
  rw [hta] at hS1
  have HT1 := Lib.hid hT1
  have HT2 := Lib.hid hT2
  have HK1 := Lib.hid hK1
  have HK2 := Lib.hid hK2
  have HS1 := Lib.hid hS1
  have HRK := Lib.hid hrk
  have HRA := Lib.hid hra
  have HRB := Lib.hid hrb
  clear hT1 hT2 hK1 hK2 hS1 hta htb hka hkb hrk hra hrb
  generalize wi (tagOf k a) = ta at *
  generalize wi (tagOf k b) = tb at *
  generalize innerOf k b = ib at *
  have hil : (innerOf k a).length = 16 := innerOf_len k a
  generalize innerOf k a = ia at *
  go_enter Try.func11, Try.ntmps11
  go_wp2_with fail
  refine (alive03 w).mono ?_
  rintro e w1 ⟨rfl, b1⟩
  go_wp2_with fail
  refine (HT1.out w1 b1).mono ?_
  rintro e w2 ⟨rfl, b2⟩
  have B2 := below_to b1 b2 b1.size
  go_wp2_with fail
  refine (HT2.out w2 B2).mono ?_
  rintro e w3 ⟨rfl, b3⟩
  have B3 := below_to B2 b3 B2.size
  clear b1 b2 b3 B2 HT1 HT2
  have HX1 := Lib.hid ((HRA.out.below B3).more B3.size)
  have HB1 := Lib.hid B3
  have HC1 := Lib.hid ((HRK.out.below B3).more B3.size)
  clear B3
  go_wp2_with (first
    | (at_builtin; refine wpList_append_to rfl (.tmp 51) (.tmp 52) rfl okB rfl (Fr.zero_ (w := w3.alloc (.cells #[] 5)) (base := w3.heap.size)) rfl (HC1.out.below (below_new w3 _)) (bvs_one _) 16 rfl (bvs k) rfl (by unfold maxLen; omega) (by omega) (by rw [World.size_alloc]; omega) ?_; intro D14 d14 w14 f14 g14 _; have hb14 := (below_new w3 (.cells #[] 5)).grown g14 (by rw [World.size_alloc]; omega) (by intro q hq; rw [rowOf_zero] at hq; cases hq); have HB14 := Lib.hid hb14; have HF14 := Lib.hid f14; clear hb14 f14 g14)
    | (at_builtin; refine wpList_append_to rfl (.tmp 53) (.tmp 54) rfl okB rfl (HF14.out.alloc _) rfl (Rd.made w14 _ 1 1 _ rfl) (ones1 rfl) 17 rfl (bvs (k ++ [1])) (bvs_app k [1]).symm (by unfold maxLen; omega) (by omega) (by have := HB14.out.size; rw [World.size_alloc]; omega) ?_; intro D15 d15 w15 f15 g15 _; have hb15 := (below_alloc HB14.out (.cells #[.int .u8 1] 5) (Nat.le_refl _)).grown g15 (by have := HB14.out.size; rw [World.size_alloc]; omega) (fun q hq => (HF14.out.row _ hq).1); have HB15 := Lib.hid hb15; have HF15 := Lib.hid f15; clear hb15 f15 g15)
    | (at_builtin; go_loud (refine wpList_append_to rfl (.tmp 55) (.tmp 56) rfl okB rfl HF15.out rfl (HX1.out.below HB15.out) (bvs_one _) (17 + na) (by omega) (bvs (k ++ ([1] ++ a))) (by rw [← List.append_assoc, bvs_app (k ++ [1])]) (by unfold maxLen; omega) (by omega) HB15.out.size ?_); intro D16 d16 w16 f16 g16 _; have hb16 := HB15.out.grown g16 HB15.out.size (fun q hq => (HF15.out.row _ hq).1); have HB16 := Lib.hid hb16; have HF16 := Lib.hid f16; clear hb16 f16 g16))
  refine (HK1.out D16 d16 w16 HF16.out.nc HF16.out.rd).mono ?_
  rintro e w17 ⟨A17, c17, rfl, f17, b17'⟩
  have b17 := below_to HB16.out b17' HB16.out.size
  have B17 := below_to HB1.out b17 HB1.out.size
  clear b17' HB14 HB15 HB16 HF14 HF15 HF16 HX1 HC1 HB1
  have HX2 := Lib.hid ((HRB.out.below B17).more B17.size)
  have HB2 := Lib.hid B17
  have HC2 := Lib.hid ((HRK.out.below B17).more B17.size)
  clear B17
  go_wp2_with (first
    | (at_builtin; refine wpList_append_to rfl (.tmp 59) (.tmp 60) rfl okB rfl (Fr.zero_ (w := w17.alloc (.cells #[] 5)) (base := w17.heap.size)) rfl (HC2.out.below (below_new w17 _)) (bvs_one _) 16 rfl (bvs k) rfl (by unfold maxLen; omega) (by omega) (by rw [World.size_alloc]; omega) ?_; intro D24 d24 w24 f24 g24 _; have hb24 := (below_new w17 (.cells #[] 5)).grown g24 (by rw [World.size_alloc]; omega) (by intro q hq; rw [rowOf_zero] at hq; cases hq); have HB24 := Lib.hid hb24; have HF24 := Lib.hid f24; clear hb24 f24 g24)
    | (at_builtin; refine wpList_append_to rfl (.tmp 61) (.tmp 62) rfl okB rfl (HF24.out.alloc _) rfl (Rd.made w24 _ 1 1 _ rfl) (ones1 rfl) 17 rfl (bvs (k ++ [1])) (bvs_app k [1]).symm (by unfold maxLen; omega) (by omega) (by have := HB24.out.size; rw [World.size_alloc]; omega) ?_; intro D25 d25 w25 f25 g25 _; have hb25 := (below_alloc HB24.out (.cells #[.int .u8 1] 5) (Nat.le_refl _)).grown g25 (by have := HB24.out.size; rw [World.size_alloc]; omega) (fun q hq => (HF24.out.row _ hq).1); have HB25 := Lib.hid hb25; have HF25 := Lib.hid f25; clear hb25 f25 g25)
    | (at_builtin; go_loud (refine wpList_append_to rfl (.tmp 63) (.tmp 64) rfl okB rfl HF25.out rfl (HX2.out.below HB25.out) (bvs_one _) (17 + nb) (by omega) (bvs (k ++ ([1] ++ b))) (by rw [← List.append_assoc, bvs_app (k ++ [1])]) (by unfold maxLen; omega) (by omega) HB25.out.size ?_); intro D26 d26 w26 f26 g26 _; have hb26 := HB25.out.grown g26 HB25.out.size (fun q hq => (HF25.out.row _ hq).1); have HB26 := Lib.hid hb26; have HF26 := Lib.hid f26; clear hb26 f26 g26))
  refine (HK2.out D26 d26 w26 HF26.out.nc HF26.out.rd).mono ?_
  rintro e w27 ⟨A27, c27, rfl, f27, b27'⟩
  have b27 := below_to HB26.out b27' HB26.out.size
  have B27 := below_to HB2.out b27 HB2.out.size
  clear b27' HB24 HB25 HB26 HF24 HF25 HF26 HX2 HC2 HB2
  have k1 := conv (f17.below b27 (Nat.le_refl _)).rd c17
  have k2 := conv f27.rd c27
  have HX3 := Lib.hid ((f17.below b27 (Nat.le_refl _)).rd)
  have HB3 := Lib.hid B27
  have HC3 := Lib.hid ((HRK.out.below B27).more B27.size)
  clear B27
  clear f17 f27 b27
  go_wp2_with (first
    | (at_builtin; refine wpList_append_to rfl (.tmp 78) (.tmp 79) rfl okB rfl (Fr.zero_ (w := w27.alloc (.cells #[] 5)) (base := w27.heap.size)) rfl (HC3.out.below (below_new w27 _)) (bvs_one _) 16 rfl (bvs k) rfl (by unfold maxLen; omega) (by omega) (by rw [World.size_alloc]; omega) ?_; intro D34 d34 w34 f34 g34 _; have hb34 := (below_new w27 (.cells #[] 5)).grown g34 (by rw [World.size_alloc]; omega) (by intro q hq; rw [rowOf_zero] at hq; cases hq); have HB34 := Lib.hid hb34; have HF34 := Lib.hid f34; clear hb34 f34 g34)
    | (at_builtin; refine wpList_append_to rfl (.tmp 80) (.tmp 81) rfl okB rfl (HF34.out.alloc _) rfl (Rd.made w34 _ 1 1 _ rfl) (ones1 rfl) 17 rfl (bvs (k ++ [2])) (bvs_app k [2]).symm (by unfold maxLen; omega) (by omega) (by have := HB34.out.size; rw [World.size_alloc]; omega) ?_; intro D35 d35 w35 f35 g35 _; have hb35 := (below_alloc HB34.out (.cells #[.int .u8 2] 5) (Nat.le_refl _)).grown g35 (by have := HB34.out.size; rw [World.size_alloc]; omega) (fun q hq => (HF34.out.row _ hq).1); have HB35 := Lib.hid hb35; have HF35 := Lib.hid f35; clear hb35 f35 g35)
    | (at_builtin; go_loud (refine wpList_append_to rfl (.tmp 82) (.tmp 83) rfl okB rfl HF35.out rfl (HX3.out.below HB35.out) (bvs_one _) (33) (by omega) (bvs (k ++ ([2] ++ ia))) (by rw [← List.append_assoc, bvs_app (k ++ [2])]) (by unfold maxLen; omega) (by omega) HB35.out.size ?_); intro D36 d36 w36 f36 g36 _; have hb36 := HB35.out.grown g36 HB35.out.size (fun q hq => (HF35.out.row _ hq).1); have HB36 := Lib.hid hb36; have HF36 := Lib.hid f36; clear hb36 f36 g36))
  refine (HS1.out D36 d36 w36 HF36.out.nc HF36.out.rd).mono ?_
  rintro e w37 ⟨rfl, b37⟩
  have B37 := below_to (below_to HB3.out HB36.out HB3.out.size) b37 (Nat.le_trans HB3.out.size HB36.out.size)
  go_wp2
  go_ret
  exact ⟨by simp, B37⟩

theorem macNested_walk (K : Option Addr) (n c : Nat) (k : List UInt8) (A : Option Addr) (na ca : Nat) (a : List UInt8) (B : Option Addr) (nb cb : Nat) (b : List UInt8) (w : World) (hk : k.length = n) (hrk : Rd w w.heap.size 1 K n (bvs k))
    (ha : a.length = na) (hra : Rd w w.heap.size 1 A na (bvs a)) (hb : b.length = nb) (hrb : Rd w w.heap.size 1 B nb (bvs b)) :
    Calls Try.prog 11 #[.slice K n c, .slice A na ca, .slice B nb cb] w fun e w' => e = .returned (.bool true) ∧ Below w.heap.size w w' := by
  by_cases h1 : n = 16
  · subst h1
    by_cases h2 : 10000 < (na : Int)
    · exact macNested_a K 16 c A na ca B nb cb w rfl h2
    · by_cases h3 : 10000 < (nb : Int)
      · exact macNested_b K 16 c A na ca B nb cb w rfl (by simp; omega) h3
      · by_cases he : innerOf k a = innerOf k b
        · exact macNested_ok_eq K c k A na ca a B nb cb b w hk hrk ha (by omega) hra hb (by omega) hrb he
        · exact macNested_ok_ne K c k A na ca a B nb cb b w hk hrk ha (by omega) hra hb (by omega) hrb (by simpa using he)
  · exact macNested_k K n c A na ca B nb cb w (by simp; omega)
end Go.Proofs.Ytfjjkkakhfgdhaa
