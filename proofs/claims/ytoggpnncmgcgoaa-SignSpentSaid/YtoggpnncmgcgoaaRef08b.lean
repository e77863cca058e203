/-
  charterhouseref08: contracts of Node, Public, May, Sign, Same.
-/
import Derived.Test.YtoggpnncmgcgoaaSignF
import Derived.Test.YtoggpnncmgcgoaaLaw07d
namespace Go.Proofs.Ytoggpnncmgcgoaa
open Go.RowKit
set_option linter.unusedVariables false
set_option linter.unusedSimpArgs false
set_option maxRecDepth 100000
attribute [local go_sem] str_toList toList_mk

theorem q_node (S : Option Addr) (sc : Nat) (seed : List UInt8) (hs : seed.length = 16) : ∀ (h : Nat) (hh : h ≤ 3) (p : Nat) (hp : p < 2 ^ (3 - h)) (w : World) (hr : Rd w w.heap.size 1 S 16 (bvs seed)),
    Calls Try.prog 59 #[.slice S 16 sc, .int .i64 (h : Int), .int .i64 (p : Int)] w fun e w' => ∃ D d, e = .returned (.slice D 16 d) ∧ Fr w' w.heap.size 5 1 D 16 d (bvs (nodeL seed h p)) ∧ Below w.heap.size w w'
  | 0, _, p, hp, w, hr => by
    have hq := q_public S sc seed p w hs hr (by simpa using hp)
    have HQ := Lib.hid hq
    clear hq hr hp
    have hn : nodeL seed 0 p = pubL seed p := rfl
    rw [hn]
    generalize pubL seed p = y at *
    go_enter Try.func59, Try.ntmps59
    go_wp2_with fail
    refine HQ.out.mono ?_
    rintro e w1 ⟨D, d, rfl, f1, b1⟩
    go_wp2
    go_ret
    exact ⟨_, _, rfl, f1, b1⟩
  | h + 1, hh, p, hp, w, hr => by
    have hpw : 2 ^ (3 - h) = 2 * 2 ^ (3 - (h + 1)) := by
      rw [two_pow (show h < 3 by omega), show 3 - (h + 1) = 2 - h by omega]
    have hp8 : p < 8 := Nat.lt_of_lt_of_le hp (Nat.pow_le_pow_right (by omega) (show 3 - (h + 1) ≤ 3 by omega) : 2 ^ (3 - (h + 1)) ≤ 2 ^ 3)
    have ih1 := fun W (hb : Below w.heap.size w W) => q_node S sc seed hs h (by omega) (2 * p) (by omega) W ((hr.below hb).more hb.size)
    have ih2 := fun W (hb : Below w.heap.size w W) => q_node S sc seed hs h (by omega) (2 * p + 1) (by omega) W ((hr.below hb).more hb.size)
    have hn : nodeL seed (h + 1) p = aboveL h (nodeL seed h (2 * p)) (nodeL seed h (2 * p + 1)) := rfl
    have l1 := nodeL_len seed h (2 * p)
    have l2 := nodeL_len seed h (2 * p + 1)
    have e1 : ((h + 1 : Nat) : Int) = (h : Int) + 1 := by omega
    have e2 : ((2 * p : Nat) : Int) = 2 * (p : Int) := by omega
    have e3 : ((2 * p + 1 : Nat) : Int) = 2 * (p : Int) + 1 := by omega
    have hne : (((h : Int) + 1) == 0) = false := by simp; omega
    rw [hn, e1]
    simp only [e2] at ih1
    simp only [e3] at ih2
    have IH1 := Lib.hid ih1
    have IH2 := Lib.hid ih2
    clear ih1 ih2 hr hn e1 e2 e3 hpw hp
    generalize nodeL seed h (2 * p) = x at *
    generalize nodeL seed h (2 * p + 1) = y at *
    have L1 := Lib.hid l1
    have L2 := Lib.hid l2
    clear l1 l2
    go_enter Try.func59, Try.ntmps59
    go_wp2_with fail
    refine (IH1.out w (Below.refl _ _)).mono ?_
    rintro e w1 ⟨D1, d1, rfl, f1, b1⟩
    go_wp2_with fail
    refine (IH2.out w1 b1).mono ?_
    rintro e w2 ⟨D2, d2, rfl, f2, b2⟩
    have HF1 := Lib.hid (f1.below b2 (Nat.le_refl _))
    have HF2 := Lib.hid f2
    have HB2 := Lib.hid (below_to b1 b2 b1.size)
    clear f1 f2 b1 b2
    go_wp2_with fail
    refine (q_up h (by omega) D1 d1 x D2 d2 y w2 L1.out L2.out HF1.out.rd HF2.out.rd).mono ?_
    rintro e w3 ⟨D3, d3, rfl, f3, b3⟩
    have hf := f3.mono (base' := w.heap.size) HB2.out.size
    have hb := below_to HB2.out b3 HB2.out.size
    clear f3 b3
    go_wp2
    go_ret
    exact ⟨_, _, rfl, hf, hb⟩
theorem q_spublic_bad (S : Option Addr) (n c : Nat) (w : World) (h : ((n : Int) != 16) = true) :
    Calls Try.prog 32 #[.slice S n c] w fun e w' => e = .returned (.tuple #[.slice none 0 0, .int .i64 2]) ∧ w = w' := by
  go_enter Try.func32, Try.ntmps32
  go_wp2
  go_ret2
  exact ⟨rfl, rfl⟩
theorem q_spublic (S : Option Addr) (sc : Nat) (seed : List UInt8) (w : World) (hs : seed.length = 16) (hr : Rd w w.heap.size 1 S 16 (bvs seed)) :
    Calls Try.prog 32 #[.slice S 16 sc] w fun e w' => ∃ D d, e = .returned (.tuple #[.slice D 16 d, .int .i64 0]) ∧ Fr w' w.heap.size 5 1 D 16 d (bvs (nodeL seed 3 0)) ∧ Below w.heap.size w w' := by
  have hq := q_node S sc seed hs 3 (Nat.le_refl _) 0 (by decide) w hr
  have HQ := Lib.hid hq
  clear hq hr
  generalize nodeL seed 3 0 = y at *
  go_enter Try.func32, Try.ntmps32
  go_wp2_with fail
  refine HQ.out.mono ?_
  rintro e w1 ⟨D, d, rfl, f1, b1⟩
  go_wp2
  go_ret2
  exact ⟨_, _, rfl, f1, b1⟩
/-! ### May, Sign -/
theorem q_may (S : Option Addr) (n c : Nat) (spent : Int) (w : World) :
    Calls Try.prog 61 #[.agg #[.slice S n c, .int .i64 spent]] w fun e w' => e = .returned (.bool (mayB n spent)) ∧ Below w.heap.size w w' := by
  by_cases h1 : n = 16
  · subst h1
    by_cases h2 : 0 ≤ spent
    · by_cases h3 : spent ≤ 8
      · rw [show mayB 16 spent = true by simp [mayB, h2, h3]]
        go_enter Try.func61, Try.ntmps61
        go_wp2
        go_ret
        exact ⟨rfl, below_new w _⟩
      · rw [show mayB 16 spent = false by simp [mayB]; omega]
        go_enter Try.func61, Try.ntmps61
        go_wp2
        go_ret
        exact ⟨rfl, below_new w _⟩
    · rw [show mayB 16 spent = false by simp [mayB]; omega]
      go_enter Try.func61, Try.ntmps61
      go_wp2
      go_ret
      exact ⟨rfl, below_new w _⟩
  · rw [show mayB n spent = false by simp [mayB]; omega]
    have hne : ((n : Int) == 16) = false := by simp; omega
    go_enter Try.func61, Try.ntmps61
    go_wp2
    go_ret
    exact ⟨rfl, below_new w _⟩
theorem q_sign_may (S : Option Addr) (n c : Nat) (spent : Int) (T : Option Addr) (m t : Nat) (w : World) (h : mayB n spent = false) :
    Calls Try.prog 34 #[.agg #[.slice S n c, .int .i64 spent], .slice T m t] w fun e w' => e = .returned (.tuple #[.agg #[.slice none 0 0, .int .i64 0], .slice none 0 0, .int .i64 8]) ∧ Below w.heap.size w w' := by
  have hq := fun W => q_may S n c spent W
  rw [h] at hq
  have HQ := Lib.hid hq
  clear hq h
  have P4 : Pair ((w.alloc (.cells #[.slice S n c, .int .i64 spent] 47)).alloc (.cells #[.slice none 0 0, .int .i64 0] 47)) (w.heap.size + 1) (.slice none 0 0) (.int .i64 0) := by
    have := heap_alloc_new (w.alloc (.cells #[.slice S n c, .int .i64 spent] 47)) (.cells #[.slice none 0 0, .int .i64 0] 47)
    rwa [World.size_alloc] at this
  have HP4 := Lib.hid P4
  clear P4
  go_enter Try.func34, Try.ntmps34
  go_wp2_with fail
  refine (HQ.out _).mono ?_
  rintro e w1 ⟨rfl, b1⟩
  have P4 := HP4.out.low b1 HP4.out.lt
  have hb := below_to (below_alloc (below_new w (.cells #[.slice S n c, .int .i64 spent] 47)) (.cells #[.slice none 0 0, .int .i64 0] 47) (Nat.le_refl _)) b1 (by rw [World.size_alloc, World.size_alloc]; omega)
  obtain ⟨b4, hb4⟩ : ∃ b, b = w.heap.size + 1 := ⟨_, rfl⟩
  rw [← hb4] at P4
  simp only [← hb4]
  have HB4 := Lib.hid hb4
  clear hb4 b1
  have c0 := P4.c0
  have c1 := P4.c1
  have f0 := P4.f (i := 0)
  have f1 := P4.f (i := 1)
  have HP := Lib.hid P4
  clear P4 HP4
  go_wp2
  have hP := HP.out.put (.slice none 0 0) (.int .i64 0)
  have d0 := hP.c0
  have d1 := hP.c1
  exact bodyPost_ret (v := .tuple #[.agg #[.slice none 0 0, .int .i64 0], .slice none 0 0, .int .i64 8]) (by simp [results, Try.results34, go_sem, d0, d1]) rfl
    ⟨rfl, (hb.setCell (p := ⟨b4, 0, none⟩) (by show _ ≤ b4; have := HB4.out; omega) _).setCell (p := ⟨b4, 1, none⟩) (by show _ ≤ b4; have := HB4.out; omega) _⟩
theorem q_sign_spent (S : Option Addr) (c : Nat) (T : Option Addr) (m t : Nat) (w : World) :
    Calls Try.prog 34 #[.agg #[.slice S 16 c, .int .i64 8], .slice T m t] w fun e w' => e = .returned (.tuple #[.agg #[.slice none 0 0, .int .i64 0], .slice none 0 0, .int .i64 80]) ∧ Below w.heap.size w w' := by
  have hq := fun W => q_may S 16 c 8 W
  rw [show mayB 16 8 = true from rfl] at hq
  have HQ := Lib.hid hq
  clear hq
  have P2 : Pair ((w.alloc (.cells #[.slice S 16 c, .int .i64 8] 47)).alloc (.cells #[.slice none 0 0, .int .i64 0] 47)) w.heap.size (.slice S 16 c) (.int .i64 8) := (Below.heap_alloc _ _ _ (by rw [World.size_alloc]; omega)).trans (heap_alloc_new w _)
  have P4 : Pair ((w.alloc (.cells #[.slice S 16 c, .int .i64 8] 47)).alloc (.cells #[.slice none 0 0, .int .i64 0] 47)) (w.heap.size + 1) (.slice none 0 0) (.int .i64 0) := by
    have := heap_alloc_new (w.alloc (.cells #[.slice S 16 c, .int .i64 8] 47)) (.cells #[.slice none 0 0, .int .i64 0] 47)
    rwa [World.size_alloc] at this
  have HP4 := Lib.hid P4
  have HP2 := Lib.hid P2
  clear P4 P2
  go_enter Try.func34, Try.ntmps34
  go_wp2_with fail
  refine (HQ.out _).mono ?_
  rintro e w1 ⟨rfl, b1⟩
  have P4 := HP4.out.low b1 HP4.out.lt
  have P2 := HP2.out.low b1 HP2.out.lt
  have hb := below_to (below_alloc (below_new w (.cells #[.slice S 16 c, .int .i64 8] 47)) (.cells #[.slice none 0 0, .int .i64 0] 47) (Nat.le_refl _)) b1 (by rw [World.size_alloc, World.size_alloc]; omega)
  obtain ⟨b4, hb4⟩ : ∃ b, b = w.heap.size + 1 := ⟨_, rfl⟩
  rw [← hb4] at P4
  simp only [← hb4]
  have HB4 := Lib.hid hb4
  clear hb4 b1
  have c0 := P4.c0
  have c1 := P4.c1
  have f0 := P4.f (i := 0)
  have f1 := P4.f (i := 1)
  have e1 := P2.c1
  have HP := Lib.hid P4
  clear P4 HP4 P2 HP2
  go_wp2
  have hP := HP.out.put (.slice none 0 0) (.int .i64 0)
  have d0 := hP.c0
  have d1 := hP.c1
  exact bodyPost_ret (v := .tuple #[.agg #[.slice none 0 0, .int .i64 0], .slice none 0 0, .int .i64 80]) (by simp [results, Try.results34, go_sem, d0, d1]) rfl
    ⟨rfl, (hb.setCell (p := ⟨b4, 0, none⟩) (by show _ ≤ b4; have := HB4.out; omega) _).setCell (p := ⟨b4, 1, none⟩) (by show _ ≤ b4; have := HB4.out; omega) _⟩
def QgRel (seed : List UInt8) (spent : Nat) (text : List UInt8) (w2 : World) (sg a i : Value) (wr : World) : Prop :=
  ∃ (r : Nat) (E : Option Addr) (e : Nat), r ≤ 3 ∧ i = .int .i64 (r : Int) ∧ a = .int .i64 ((spent / 2 ^ r : Nat) : Int) ∧ sg = .slice E (161 + 16 * r) e ∧ Fr wr w2.heap.size 5 1 E (161 + 16 * r) e (bvs (sgN seed spent text r)) ∧ Below w2.heap.size w2 wr
set_option maxHeartbeats 8000000 in
theorem q_ssign (S : Option Addr) (sc : Nat) (seed : List UInt8) (spent : Nat) (T : Option Addr) (m t : Nat) (text : List UInt8) (w : World) (hs : seed.length = 16) (hr : Rd w w.heap.size 1 S 16 (bvs seed)) (hsp : spent < 8)
    (hl : text.length = m) (hm : m ≤ 1000000) (hrt : Rd w w.heap.size 1 T m (bvs text)) :
    Calls Try.prog 34 #[.agg #[.slice S 16 sc, .int .i64 (spent : Int)], .slice T m t] w fun e w' => ∃ D d E ec, e = .returned (.tuple #[.agg #[.slice D 16 d, .int .i64 ((spent : Int) + 1)], .slice E 209 ec, .int .i64 0]) ∧
      Fr w' w.heap.size 5 1 D 16 d (bvs seed) ∧ Fr w' w.heap.size 5 1 E 209 ec (bvs (sgL seed spent text)) ∧ Below w.heap.size w w' := by
  have hq := fun W => q_may S 16 sc (spent : Int) W
  rw [show mayB 16 (spent : Int) = true by simp [mayB]; omega] at hq
  have hsig := fun W (h : Below w.heap.size w W) => q_sign S sc seed spent T m t text W hs ((hr.below h).more h.size) hsp hl hm ((hrt.below h).more h.size)
  have hnode := fun h (hh : h ≤ 3) p (hp : p < 2 ^ (3 - h)) W (hb : Below w.heap.size w W) => q_node S sc seed hs h hh p hp W ((hr.below hb).more hb.size)
  have h3 : ((spent : Int) == 8) = false := by simp; omega
  have P2 : Pair ((w.alloc (.cells #[.slice S 16 sc, .int .i64 (spent : Int)] 47)).alloc (.cells #[.slice none 0 0, .int .i64 0] 47)) w.heap.size (.slice S 16 sc) (.int .i64 (spent : Int)) := (Below.heap_alloc _ _ _ (by rw [World.size_alloc]; omega)).trans (heap_alloc_new w _)
  have P4 : Pair ((w.alloc (.cells #[.slice S 16 sc, .int .i64 (spent : Int)] 47)).alloc (.cells #[.slice none 0 0, .int .i64 0] 47)) (w.heap.size + 1) (.slice none 0 0) (.int .i64 0) := by
    have := heap_alloc_new (w.alloc (.cells #[.slice S 16 sc, .int .i64 (spent : Int)] 47)) (.cells #[.slice none 0 0, .int .i64 0] 47)
    rwa [World.size_alloc] at this
  have hb0 := below_alloc (below_new w (.cells #[.slice S 16 sc, .int .i64 (spent : Int)] 47)) (.cells #[.slice none 0 0, .int .i64 0] 47) (Nat.le_refl _)
  have hw8 := wrap8_nat spent
  have HQ := Lib.hid hq
  have HSIG := Lib.hid hsig
  have HNODE := Lib.hid hnode
  have HSP := Lib.hid hsp
  have HSR := Lib.hid hr
  have HSL := Lib.hid hs
  have HP2 := Lib.hid P2
  have HP4 := Lib.hid P4
  have HB0 := Lib.hid hb0
  have hsp2 : (spent : Int) ≤ 7 := by omega
  clear hq hsig hnode hsp hr hrt hl hm P2 P4 hb0 hs
  go_enter Try.func34, Try.ntmps34
  go_wp2_with fail
  obtain ⟨b2, hb2⟩ : ∃ b, b = w.heap.size := ⟨_, rfl⟩
  obtain ⟨w0, hw0⟩ : ∃ W, W = (w.alloc (.cells #[.slice S 16 sc, .int .i64 (spent : Int)] 47)).alloc (.cells #[.slice none 0 0, .int .i64 0] 47) := ⟨_, rfl⟩
  have P2 := HP2.out
  have P4 := HP4.out
  have B0 := HB0.out
  rw [← hw0] at P2 P4 B0
  rw [← hb2] at P2 P4
  simp only [← hb2, ← hw0]
  have HW2 := Lib.hid hb2
  clear HP2 HP4 HB0 hb2 hw0
  refine (HQ.out w0).mono ?_
  rintro e w1 ⟨rfl, b1⟩
  have P2' := P2.low b1 P2.lt
  have P4' := P4.low b1 P4.lt
  have B1 := below_to B0 b1 B0.size
  have q0 := P2'.c0
  have q1 := P2'.c1
  have HP2 := Lib.hid P2'
  have HP4 := Lib.hid P4'
  have HB1 := Lib.hid B1
  clear P2 P4 P2' P4' B0 B1 b1
  go_wp2_with fail
  refine (HSIG.out w1 HB1.out).mono ?_
  rintro e w2 ⟨D1, d1, rfl, f1, b1⟩
  have P2' := HP2.out.low b1 HP2.out.lt
  have P4' := HP4.out.low b1 HP4.out.lt
  have B2 := below_to HB1.out b1 HB1.out.size
  have HF1 := Lib.hid (f1.mono (base' := w.heap.size) HB1.out.size)
  have q0 := P2'.c0
  have q1 := P2'.c1
  have HP2 := Lib.hid P2'
  have HP4 := Lib.hid P4'
  have HB2 := Lib.hid B2
  have hsg0 := sgN_zero seed spent text
  obtain ⟨x, hx⟩ : ∃ x, x = UInt8.ofNat spent := ⟨_, rfl⟩
  rw [← hx] at hw8 hsg0
  have HSG0 := Lib.hid hsg0
  have hfr : Fr (w2.alloc (.cells (bvs [x]).toArray 5)) w2.heap.size 5 1 (some ⟨w2.heap.size, 0, none⟩) 1 1 (bvs [x]) := Fr.made w2 _ 1 1 (Nat.le_refl _) (by unfold maxLen; omega) (Nat.le_refl _) (by simp [bvs]) (by simp [bvs]) (by simp [bvs])
  have HFR := Lib.hid hfr
  have HRD1 := Lib.hid ((HF1.out.alloc (.cells (bvs [x]).toArray 5)).rd)
  clear P2' P4' B2 hsg0 hx hfr b1 f1 HSIG HQ
  go_wp2_with (at_builtin; refine wpList_append_to rfl (.tmp 34) (.tmp 35) rfl okB rfl HFR.out rfl HRD1.out (bvs_one _) 161 rfl (bvs (sgN seed spent text 0)) HSG0.out (by unfold maxLen; omega) (by omega) (by rw [World.size_alloc]; omega) ?_; intro E0 e0 w3 f3 g3 _; have b3 := (below_new w2 (.cells (bvs [x]).toArray 5)).grown g3 (by rw [World.size_alloc]; omega) (fun q hq => (HFR.out.row _ hq).1); have HF3 := Lib.hid f3; have HB3 := Lib.hid b3; have p1 := (HP2.out.low b3 HP2.out.lt).c1; clear f3 g3 b3)
  go_loopw [9, 10, 11] (fun sg a i wr => QgRel seed spent text w2 sg a i wr) (fun _ _ i _ => 3 - (intOf i).toNat)
  case atStart => exact ⟨0, E0, e0, by omega, rfl, by simp, rfl, HF3.out, HB3.out⟩
  case round =>
    clear HF3 HB3 HFR HRD1 HSG0 q0 q1 p1
    obtain ⟨r, E, e, hr3, rfl, rfl, rfl, hf, hb⟩ := hrel
    have P2' := HP2.out.low hb HP2.out.lt
    have q0 := P2'.c0
    have q1 := P2'.c1
    have hBr := below_to HB2.out hb HB2.out.size
    have HBR := Lib.hid hBr
    have HE := Lib.hid hf
    have HB := Lib.hid hb
    clear hf hb hBr P2'
    by_cases hlt : r < 3
    · have h8 := HSP.out
      have hpw := two_pow hlt
      have ha : spent / 2 ^ r < 2 ^ (3 - r) := by
        rw [Nat.div_lt_iff_lt_mul (Nat.pow_pos (by omega)), ← Nat.pow_add, show 3 - r + r = 3 by omega]
        exact h8
      have hj : sib (spent / 2 ^ r) < 2 ^ (3 - r) := by
        rw [hpw] at ha ⊢
        exact sib_lt ha
      have ha8 : spent / 2 ^ r < 8 := Nat.lt_of_le_of_lt (Nat.div_le_self _ _) h8
      have hnd := HNODE.out r (by omega) _ hj wr HBR.out
      have hsn : bvs (sgN seed spent text r) ++ bvs (nodeL seed r (sib (spent / 2 ^ r))) = bvs (sgN seed spent text (r + 1)) := by rw [← bvs_app]; rfl
      have hup : ((spent / 2 ^ r : Nat) : Int) / 2 = ((spent / 2 ^ (r + 1) : Nat) : Int) := by rw [Nat.pow_succ, ← Nat.div_div_eq_div_mul]; omega
      have HSN := Lib.hid hsn
      have HUP := Lib.hid hup
      have HND := Lib.hid hnd
      clear hsn hup hpw hnd hj ha
      generalize nodeL seed r (sib (spent / 2 ^ r)) = nd at *
      obtain ⟨a, hae⟩ : ∃ a, a = spent / 2 ^ r := ⟨_, rfl⟩
      rw [← hae] at ha8 HUP HND
      rw [← hae]
      have HAE := Lib.hid hae
      clear hae
      have hmod : (a : Int).tmod 2 = (a : Int) % 2 := Int.tmod_eq_emod_of_nonneg (by omega)
      by_cases hpar : a % 2 = 1
      · have hsb : ((sib a : Nat) : Int) = (a : Int) - 1 := by unfold sib; rw [if_pos hpar]; omega
        have hm2 : (a : Int) % 2 = 1 := by omega
        rw [hsb] at HND
        clear hsb hpar
        go_wp2_with fail
        refine HND.out.mono ?_
        rintro e' w4 ⟨D4, d4, rfl, f4, b4⟩
        have HE4 := Lib.hid (HE.out.below b4 (Nat.le_refl _))
        have HB4 := Lib.hid (below_to HB.out b4 HB.out.size)
        have HRD := Lib.hid f4.rd
        clear f4 b4
        go_wp2_with (at_builtin; refine wpList_append_to rfl (.tmp 50) (.tmp 55) rfl okB rfl HE4.out rfl HRD.out (bvs_one _) (161 + 16 * (r + 1)) (by omega) (bvs (sgN seed spent text (r + 1))) HSN.out (by unfold maxLen; omega) (by omega) HB4.out.size ?_; intro E2 e2 w5 f5 g5 _; have b5 := HB4.out.grown g5 HB4.out.size (fun q hq => (HE4.out.row _ hq).1); have HF5 := Lib.hid f5; have HB5 := Lib.hid b5; clear f5 g5 b5)
        go_roundw
        case rel => exact ⟨r + 1, E2, e2, by omega, by simp, by rw [← HUP.out], rfl, HF5.out, HB5.out⟩
        case measure => simp [intOf]; omega
      · have hsb : ((sib a : Nat) : Int) = (a : Int) + 1 := by unfold sib; rw [if_neg hpar]; omega
        have hm2 : (a : Int) % 2 = 0 := by omega
        rw [hsb] at HND
        clear hsb hpar
        go_wp2_with fail
        refine HND.out.mono ?_
        rintro e' w4 ⟨D4, d4, rfl, f4, b4⟩
        have HE4 := Lib.hid (HE.out.below b4 (Nat.le_refl _))
        have HB4 := Lib.hid (below_to HB.out b4 HB.out.size)
        have HRD := Lib.hid f4.rd
        clear f4 b4
        go_wp2_with (at_builtin; refine wpList_append_to rfl (.tmp 50) (.tmp 55) rfl okB rfl HE4.out rfl HRD.out (bvs_one _) (161 + 16 * (r + 1)) (by omega) (bvs (sgN seed spent text (r + 1))) HSN.out (by unfold maxLen; omega) (by omega) HB4.out.size ?_; intro E2 e2 w5 f5 g5 _; have b5 := HB4.out.grown g5 HB4.out.size (fun q hq => (HE4.out.row _ hq).1); have HF5 := Lib.hid f5; have HB5 := Lib.hid b5; clear f5 g5 b5)
        go_roundw
        case rel => exact ⟨r + 1, E2, e2, by omega, by simp, by rw [← HUP.out], rfl, HF5.out, HB5.out⟩
        case measure => simp [intOf]; omega
    · obtain rfl : r = 3 := by omega
      have hEl : 161 + 16 * 3 = 209 := by omega
      rw [hEl] at HE ⊢
      have hsL : sgN seed spent text 3 = sgL seed spent text := rfl
      rw [hsL] at HE
      have hrs := (HSR.out.below HBR.out)
      have HRS := Lib.hid hrs
      have HSL16 := Lib.hid (show (bvs seed).length = 16 by rw [bvs_len]; exact HSL.out)
      have P2r := HP2.out.low HB.out HP2.out.lt
      have P4r := HP4.out.low HB.out HP4.out.lt
      have HP2r := Lib.hid P2r
      have HP4r := Lib.hid P4r
      have hsum : IntKind.i64.wrap ((spent : Int) + 1) = (spent : Int) + 1 := IntWalk.i64_in _ (by omega)
      clear hEl hsL hrs P2r P4r HP2 HP4
      go_wp2_with (at_builtin; refine wpList_append_to rfl (.tmp 59) (.tmp 61) rfl okB rfl (Fr.none_ (w := wr) (base := wr.heap.size)) rfl HRS.out (bvs_one _) 16 rfl (bvs seed) rfl (by unfold maxLen; omega) (by omega) (Nat.le_refl _) ?_; intro D6 d6 w6 f6 g6 _; have b6 := (Below.refl wr.heap.size wr).grown g6 (Nat.le_refl _) (by intro q hq; rw [rowOf_zero] at hq; cases hq); have HF6 := Lib.hid f6; have HB6 := Lib.hid b6; have HP6 := Lib.hid (HP4r.out.low b6 HP4r.out.lt); have z1 := (HP2r.out.low b6 HP2r.out.lt).c1; have y0 := HP6.out.c0; have y1 := HP6.out.c1; have g0 := HP6.out.f (i := 0); have g1 := HP6.out.f (i := 1); clear f6 g6 b6)
      have hP := HP6.out.put (.slice D6 16 d6) (.int .i64 ((spent : Int) + 1))
      have t0 := hP.c0
      have t1 := hP.c1
      have hb2w := HW2.out
      have hB5 := below_to HBR.out HB6.out HBR.out.size
      have hE6 := HE.out.below HB6.out (Nat.le_refl _)
      exact bodyPost_ret (v := .tuple #[.agg #[.slice D6 16 d6, .int .i64 ((spent : Int) + 1)], .slice E 209 e, .int .i64 0]) (by simp [results, Try.results34, go_sem, t0, t1]) rfl
        ⟨_, _, _, _, rfl, fr_pair (HF6.out.mono HBR.out.size) HP6.out _ _, fr_pair (hE6.mono (HB2.out.size)) HP6.out _ _, (hB5.setCell (p := ⟨b2 + 1, 0, none⟩) (by show _ ≤ b2 + 1; omega) _).setCell (p := ⟨b2 + 1, 1, none⟩) (by show _ ≤ b2 + 1; omega) _⟩
/-! ### Same -/
theorem q_ssame (A : Option Addr) (n c : Nat) (B : Option Addr) (d : Nat) (l : List UInt8) (spent : Int) (w : World) (hra : Rd w w.heap.size 1 A n (bvs l)) (hrb : Rd w w.heap.size 1 B n (bvs l)) :
    Calls Try.prog 35 #[.agg #[.slice A n c, .int .i64 spent], .agg #[.slice B n d, .int .i64 spent]] w fun e w' => e = .returned (.bool true) ∧ Below w.heap.size w w' := by
  have hb := below_alloc (below_new w (.cells #[.slice A n c, .int .i64 spent] 47)) (.cells #[.slice B n d, .int .i64 spent] 47) (Nat.le_refl _)
  have k1 := conv ((hra.below hb).more hb.size) c
  have k2 := conv ((hrb.below hb).more hb.size) d
  have HB := Lib.hid hb
  clear hra hrb hb
  go_enter Try.func35, Try.ntmps35
  go_wp2
  go_ret
  exact ⟨rfl, HB.out⟩
end Go.Proofs.Ytoggpnncmgcgoaa
