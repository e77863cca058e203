/-
  The walk of layer 8's statement SignRight.
-/
import Derived.Test.YtoggpnncmgcgoaaLaw08b
import Derived.LoopN
namespace Go.Proofs.Ytoggpnncmgcgoaa
open Go.RowKit
set_option linter.unusedVariables false
set_option linter.unusedSimpArgs false
set_option maxRecDepth 100000
attribute [local go_sem] str_toList toList_mk

theorem sright_sb (S : Option Addr) (n c : Nat) (spent : Int) (T : Option Addr) (m t : Nat) (w : World)
    (h : 10000 < (n : Int)) : Calls Try.prog 11 #[.agg #[.slice S n c, .int .i64 spent], .slice T m t] w fun e w' => e = .returned (.bool true) ∧ Below w.heap.size w w' := by
  have P2 := Pair.new w (.slice S n c) (.int .i64 spent)
  have B0 := below_new w (.cells #[.slice S n c, .int .i64 spent] 47)
  have HP2 := Lib.hid P2
  have HB0 := Lib.hid B0
  clear P2 B0
  go_enter Try.func11, Try.ntmps11
  go_wp2_with fail
  refine (alive08 _).mono ?_
  rintro e w1 ⟨rfl, b1⟩
  have q0 := (HP2.out.low b1 HP2.out.lt).c0
  have B1 := Lib.hid (below_to HB0.out b1 HB0.out.size)
  clear b1
  go_wp2
  go_ret
  exact ⟨rfl, B1.out⟩
theorem sright_tb (S : Option Addr) (n c : Nat) (spent : Int) (T : Option Addr) (m t : Nat) (w : World)
    (h1 : decide (10000 < (n : Int)) = false)
    (h : 10000 < (m : Int)) : Calls Try.prog 11 #[.agg #[.slice S n c, .int .i64 spent], .slice T m t] w fun e w' => e = .returned (.bool true) ∧ Below w.heap.size w w' := by
  have P2 := Pair.new w (.slice S n c) (.int .i64 spent)
  have B0 := below_new w (.cells #[.slice S n c, .int .i64 spent] 47)
  have HP2 := Lib.hid P2
  have HB0 := Lib.hid B0
  clear P2 B0
  go_enter Try.func11, Try.ntmps11
  go_wp2_with fail
  refine (alive08 _).mono ?_
  rintro e w1 ⟨rfl, b1⟩
  have q0 := (HP2.out.low b1 HP2.out.lt).c0
  have B1 := Lib.hid (below_to HB0.out b1 HB0.out.size)
  clear b1
  go_wp2
  go_ret
  exact ⟨rfl, B1.out⟩
theorem sright_len (S : Option Addr) (n c : Nat) (seed : List UInt8) (spent : Int) (T : Option Addr) (m t : Nat) (w : World) (h1 : decide (10000 < (n : Int)) = false) (h2 : decide (10000 < (m : Int)) = false)
    (hs : seed.length = n) (hr : Rd w w.heap.size 1 S n (bvs seed)) (h : ((n : Int) != 16) = true) : Calls Try.prog 11 #[.agg #[.slice S n c, .int .i64 spent], .slice T m t] w fun e w' => e = .returned (.bool true) ∧ Below w.heap.size w w' := by
  have P2 := Pair.new w (.slice S n c) (.int .i64 spent)
  have hp := fun (W : World) (h' : Below w.heap.size w W) => x_public_bad S n c W h
  have hsg := fun (W : World) => x_sign_len S n c spent T m t W h
  have B0 := below_new w (.cells #[.slice S n c, .int .i64 spent] 47)
  have HP2 := Lib.hid P2
  have HB0 := Lib.hid B0
  have HP := Lib.hid hp
  have HSG := Lib.hid hsg
  clear P2 B0 hp hsg hr
  go_enter Try.func11, Try.ntmps11
  go_wp2_with fail
  obtain ⟨b2, hb2⟩ : ∃ b, b = w.heap.size := ⟨_, rfl⟩
  obtain ⟨w0, hw0⟩ : ∃ W, W = w.alloc (.cells #[.slice S n c, .int .i64 spent] 47) := ⟨_, rfl⟩
  have P2 := HP2.out
  have B0 := HB0.out
  rw [← hw0] at P2 B0
  rw [← hb2] at P2
  simp only [← hb2, ← hw0]
  clear HP2 HB0 hb2 hw0
  refine (alive08 w0).mono ?_
  rintro e w1 ⟨rfl, b1⟩
  have P2' := P2.low b1 P2.lt
  have q0 := P2'.c0
  have q1 := P2'.c1
  have HP2 := Lib.hid P2'
  have B1 := Lib.hid (below_to B0 b1 B0.size)
  clear b1 P2 P2' B0
  go_wp2_with fail
  refine (HP.out w1 B1.out).mono ?_
  rintro e w2 ⟨rfl, rfl⟩
  go_wp2
  refine wp_loop_rounds 1 ?_
  rw [rounds_succ]
  go_wp2_with fail
  refine (HSG.out _).mono ?_
  rintro e w3 ⟨rfl, b3⟩
  have P2' := HP2.out.low b3 HP2.out.lt
  have q0 := P2'.c0
  have q1 := P2'.c1
  have B3 := Lib.hid (below_alloc (below_to B1.out b3 B1.out.size) (.cells #[.slice none 0 0, .int .i64 0] 47) (Nat.le_refl _))
  have hl2 := P2'.lt
  clear b3 P2'
  go_wp2
  go_ret
  exact ⟨rfl, B3.out⟩
theorem sright_low (S : Option Addr) (n c : Nat) (seed : List UInt8) (spent : Int) (T : Option Addr) (m t : Nat) (w : World) (h1 : decide (10000 < (n : Int)) = false) (h2 : decide (10000 < (m : Int)) = false)
    (hs : seed.length = n) (hr : Rd w w.heap.size 1 S n (bvs seed)) (h : n = 16 ∧ spent < 0) : Calls Try.prog 11 #[.agg #[.slice S n c, .int .i64 spent], .slice T m t] w fun e w' => e = .returned (.bool true) ∧ Below w.heap.size w w' := by
  obtain ⟨rfl, h⟩ := h
  have hlt : decide (spent < 0) = true := by simpa using h
  have P2 := Pair.new w (.slice S 16 c) (.int .i64 spent)
  have hp := fun (W : World) (h' : Below w.heap.size w W) => x_public S c seed W hs ((hr.below h').more h'.size)
  have hsg := fun (W : World) => x_sign_low S 16 c spent T m t W ⟨rfl, h⟩
  have B0 := below_new w (.cells #[.slice S 16 c, .int .i64 spent] 47)
  have HP2 := Lib.hid P2
  have HB0 := Lib.hid B0
  have HP := Lib.hid hp
  have HSG := Lib.hid hsg
  clear P2 B0 hp hsg hr
  go_enter Try.func11, Try.ntmps11
  go_wp2_with fail
  obtain ⟨b2, hb2⟩ : ∃ b, b = w.heap.size := ⟨_, rfl⟩
  obtain ⟨w0, hw0⟩ : ∃ W, W = w.alloc (.cells #[.slice S 16 c, .int .i64 spent] 47) := ⟨_, rfl⟩
  have P2 := HP2.out
  have B0 := HB0.out
  rw [← hw0] at P2 B0
  rw [← hb2] at P2
  simp only [← hb2, ← hw0]
  clear HP2 HB0 hb2 hw0
  refine (alive08 w0).mono ?_
  rintro e w1 ⟨rfl, b1⟩
  have P2' := P2.low b1 P2.lt
  have q0 := P2'.c0
  have q1 := P2'.c1
  have HP2 := Lib.hid P2'
  have B1 := Lib.hid (below_to B0 b1 B0.size)
  clear b1 P2 P2' B0
  go_wp2_with fail
  refine (HP.out w1 B1.out).mono ?_
  rintro e w2 ⟨D1, d1, rfl, f1, b2'⟩
  have P2' := HP2.out.low b2' HP2.out.lt
  have q0 := P2'.c0
  have q1 := P2'.c1
  have HP2 := Lib.hid P2'
  have B1 := Lib.hid (below_to B1.out b2' B1.out.size)
  clear f1 b2' P2'
  go_wp2
  refine wp_loop_rounds 1 ?_
  rw [rounds_succ]
  go_wp2_with fail
  refine (HSG.out _).mono ?_
  rintro e w3 ⟨rfl, b3⟩
  have P2' := HP2.out.low b3 HP2.out.lt
  have q0 := P2'.c0
  have q1 := P2'.c1
  have B3 := Lib.hid (below_alloc (below_to B1.out b3 B1.out.size) (.cells #[.slice none 0 0, .int .i64 0] 47) (Nat.le_refl _))
  have hl2 := P2'.lt
  clear b3 P2'
  go_wp2
  go_ret
  exact ⟨rfl, B3.out⟩
theorem sright_high (S : Option Addr) (n c : Nat) (seed : List UInt8) (spent : Int) (T : Option Addr) (m t : Nat) (w : World) (h1 : decide (10000 < (n : Int)) = false) (h2 : decide (10000 < (m : Int)) = false)
    (hs : seed.length = n) (hr : Rd w w.heap.size 1 S n (bvs seed)) (h : n = 16 ∧ 8 < spent) : Calls Try.prog 11 #[.agg #[.slice S n c, .int .i64 spent], .slice T m t] w fun e w' => e = .returned (.bool true) ∧ Below w.heap.size w w' := by
  obtain ⟨rfl, h⟩ := h
  have hlt : decide (8 < spent) = true := by simpa using h
  have P2 := Pair.new w (.slice S 16 c) (.int .i64 spent)
  have hp := fun (W : World) (h' : Below w.heap.size w W) => x_public S c seed W hs ((hr.below h').more h'.size)
  have hsg := fun (W : World) => x_sign_high S 16 c spent T m t W ⟨rfl, h⟩
  have B0 := below_new w (.cells #[.slice S 16 c, .int .i64 spent] 47)
  have HP2 := Lib.hid P2
  have HB0 := Lib.hid B0
  have HP := Lib.hid hp
  have HSG := Lib.hid hsg
  clear P2 B0 hp hsg hr
  go_enter Try.func11, Try.ntmps11
  go_wp2_with fail
  obtain ⟨b2, hb2⟩ : ∃ b, b = w.heap.size := ⟨_, rfl⟩
  obtain ⟨w0, hw0⟩ : ∃ W, W = w.alloc (.cells #[.slice S 16 c, .int .i64 spent] 47) := ⟨_, rfl⟩
  have P2 := HP2.out
  have B0 := HB0.out
  rw [← hw0] at P2 B0
  rw [← hb2] at P2
  simp only [← hb2, ← hw0]
  clear HP2 HB0 hb2 hw0
  refine (alive08 w0).mono ?_
  rintro e w1 ⟨rfl, b1⟩
  have P2' := P2.low b1 P2.lt
  have q0 := P2'.c0
  have q1 := P2'.c1
  have HP2 := Lib.hid P2'
  have B1 := Lib.hid (below_to B0 b1 B0.size)
  clear b1 P2 P2' B0
  go_wp2_with fail
  refine (HP.out w1 B1.out).mono ?_
  rintro e w2 ⟨D1, d1, rfl, f1, b2'⟩
  have P2' := HP2.out.low b2' HP2.out.lt
  have q0 := P2'.c0
  have q1 := P2'.c1
  have HP2 := Lib.hid P2'
  have B1 := Lib.hid (below_to B1.out b2' B1.out.size)
  clear f1 b2' P2'
  go_wp2
  refine wp_loop_rounds 1 ?_
  rw [rounds_succ]
  go_wp2_with fail
  refine (HSG.out _).mono ?_
  rintro e w3 ⟨rfl, b3⟩
  have P2' := HP2.out.low b3 HP2.out.lt
  have q0 := P2'.c0
  have q1 := P2'.c1
  have B3 := Lib.hid (below_alloc (below_to B1.out b3 B1.out.size) (.cells #[.slice none 0 0, .int .i64 0] 47) (Nat.le_refl _))
  have hl2 := P2'.lt
  clear b3 P2'
  go_wp2
  go_ret
  exact ⟨rfl, B3.out⟩
theorem at_cell2 {w : World} {B g o : Nat} {sig : List UInt8} (hs : sig.length = 209) (h : Rd w B 1 (some ⟨g, o, none⟩) 209 (bvs sig)) : w.cell? ⟨g, o, none⟩ = some (.int .u8 (atL sig : Int)) := by
  obtain ⟨g', o', u, he, hg, hu, cx⟩ := h.at_ (k := 0) (by omega)
  cases he
  have hu2 : u = .int .u8 (atL sig : Int) := by
    rw [bvs_get, List.getElem?_eq_getElem (by omega)] at hu
    rw [atL, List.getD_eq_getElem?_getD, List.getElem?_eq_getElem (by omega)]
    simpa [bv] using hu.symm
  subst hu2
  rw [Nat.add_zero] at cx
  exact cx
def SrRel (seed : List UInt8) (b2 : Nat) (D1 : Option Addr) (d1 : Nat) (w : World) (s8 : Value) (wr : World) : Prop :=
  ∃ (k : Nat) (A : Option Addr) (c : Nat), k ≤ 8 ∧ s8 = .int .i64 (k : Int) ∧ Pair wr b2 (.slice A 16 c) (.int .i64 (k : Int)) ∧ Rd wr wr.heap.size 1 A 16 (bvs seed) ∧ (∀ a, A = some a → a.block ≠ b2) ∧ Fr wr w.heap.size 5 1 D1 16 d1 (bvs (nodeL seed 3 0)) ∧ Below w.heap.size w wr
theorem grown_pair (w : World) (b : Nat) (u0 u1 : Value) : w.grownBy ((w.setCell ⟨b, 0, none⟩ u0).setCell ⟨b, 1, none⟩ u1) (some b) :=
  ⟨rfl, rfl, rfl, by simp [World.setCell], fun k _ hk => (Below.heap_setCell _ _ _ _ (fun e => hk (by rw [e]))).trans (Below.heap_setCell _ _ _ _ (fun e => hk (by rw [e])))⟩
theorem fr_not {w : World} {base n c b : Nat} {A : Option Addr} {xs : List Value} {v0 v1 : Value} (h : Fr w base 5 1 A n c xs) (hc : 0 < c) (hb : Pair w b v0 v1) : ∀ a, A = some a → a.block ≠ b := fun a e hab => by
  obtain ⟨g, hg, -, -⟩ := h.form hc
  rw [hg] at e
  cases e
  obtain ⟨cur, fz, hcl⟩ := h.cells_ g (by rw [hg]; exact rowOf_some g 0 c hc)
  have : g = b := hab
  subst this
  unfold Pair at hb
  rw [hcl] at hb
  cases hb
set_option maxHeartbeats 8000000 in
theorem sright_ok (S : Option Addr) (c : Nat) (seed : List UInt8) (spent : Nat) (T : Option Addr) (m t : Nat) (text : List UInt8) (w : World) (h2 : decide (10000 < (m : Int)) = false)
    (hs : seed.length = 16) (hr : Rd w w.heap.size 1 S 16 (bvs seed)) (hsp : spent ≤ 8) (hl : text.length = m) (hmt : m ≤ t) (hrt : Rd w w.heap.size 1 T m (bvs text)) :
    Calls Try.prog 11 #[.agg #[.slice S 16 c, .int .i64 (spent : Int)], .slice T m t] w fun e w' => e = .returned (.bool true) ∧ Below w.heap.size w w' := by
  have hm : (m : Int) ≤ 1000000 := by simp at h2; omega
  have P2 := Pair.new w (.slice S 16 c) (.int .i64 (spent : Int))
  have hp := fun (W : World) (h' : Below w.heap.size w W) => x_public S c seed W hs ((hr.below h').more h'.size)
  have hsg := fun (A : Option Addr) (c : Nat) (k : Nat) (hk : k < 8) (W : World) (h' : Below w.heap.size w W) (hA : Rd W W.heap.size 1 A 16 (bvs seed)) => x_sign A c seed k T m t text W hs hA hk hl hm hmt ((hrt.below h').more h'.size)
  have hck := fun (P E : Option Addr) (pc ec : Nat) (k : Nat) (hk : k < 8) (W : World) (h' : Below w.heap.size w W) (hP : Rd W W.heap.size 1 P 16 (bvs (nodeL seed 3 0))) (hec : 209 ≤ ec) (hE : Rd W W.heap.size 1 E 209 (bvs (sgL seed k text))) =>
    x_check_ok P pc (nodeL seed 3 0) T m t text E ec (sgL seed k text) W (nodeL_len _ _ _) hP hl hm hmt ((hrt.below h').more h'.size) (sgL_len _ _ _) hec hE (by rw [atL_sg seed hk]; exact hk)
  have hSb : ∀ a, S = some a → a.block < w.heap.size := fun a e => by
    obtain ⟨b, o, e2, hb, -⟩ := hr.2 (by omega)
    rw [e] at e2
    cases e2
    exact hb
  have B0 := below_new w (.cells #[.slice S 16 c, .int .i64 (spent : Int)] 47)
  have HP2 := Lib.hid P2
  have HB0 := Lib.hid B0
  have HP := Lib.hid hp
  have HSG := Lib.hid hsg
  have HCK := Lib.hid hck
  have HSB := Lib.hid hSb
  have HSP := Lib.hid hsp
  have HR := Lib.hid hr
  clear P2 B0 hp hsg hck hr hrt hSb hsp hs hl hm hmt
  go_enter Try.func11, Try.ntmps11
  go_wp2_with fail
  obtain ⟨b2, hb2⟩ : ∃ b, b = w.heap.size := ⟨_, rfl⟩
  obtain ⟨w0, hw0⟩ : ∃ W, W = w.alloc (.cells #[.slice S 16 c, .int .i64 (spent : Int)] 47) := ⟨_, rfl⟩
  have P2 := HP2.out
  have B0 := HB0.out
  rw [← hw0] at P2 B0
  rw [← hb2] at P2
  simp only [← hb2, ← hw0]
  have HW2 := Lib.hid hb2
  clear HP2 HB0 hb2 hw0
  refine (alive08 w0).mono ?_
  rintro e w1 ⟨rfl, b1⟩
  have P2' := P2.low b1 P2.lt
  have q0 := P2'.c0
  have q1 := P2'.c1
  have HP2 := Lib.hid P2'
  have B1 := Lib.hid (below_to B0 b1 B0.size)
  clear b1 P2 P2' B0
  go_wp2_with fail
  refine (HP.out w1 B1.out).mono ?_
  rintro e w2 ⟨D1, d1, rfl, f1, b2'⟩
  have P2' := HP2.out.low b2' HP2.out.lt
  have q0 := P2'.c0
  have q1 := P2'.c1
  have HP2 := Lib.hid P2'
  have F1 := Lib.hid (f1.mono (base' := w.heap.size) B1.out.size)
  have B1 := Lib.hid (below_to B1.out b2' B1.out.size)
  clear f1 b2' P2'
  go_wp2_with fail
  go_loopw [8] (fun s8 wr => SrRel seed b2 D1 d1 w s8 wr) (fun s8 _ => 8 - (intOf s8).toNat)
  case atStart => exact ⟨spent, S, c, HSP.out, rfl, HP2.out, (HR.out.below B1.out).more B1.out.size, fun a e => by have := HSB.out a e; have := HW2.out; omega, F1.out, B1.out⟩
  case round =>
    clear q0 q1
    obtain ⟨k, A, c', hk8, rfl, hP, hA, hAb, hF, hB⟩ := hrel
    have q0 := hP.c0
    have q1 := hP.c1
    by_cases hk : k < 8
    · have hsg := HSG.out A c' k hk wr hB hA
      have hat := atL_sg seed hk text
      have hok := chk_right seed hk text
      have hck := fun (E : Option Addr) (ec : Nat) => HCK.out D1 E d1 ec k hk
      rw [hok] at hck
      have hsl := sgL_len seed k text
      have HS2 := Lib.hid hsg
      have HC2 := Lib.hid hck
      have HAT := Lib.hid hat
      have HSL := Lib.hid hsl
      have HPk := Lib.hid hP
      have HA := Lib.hid hA
      have HAB := Lib.hid hAb
      have HF := Lib.hid hF
      have HB := Lib.hid hB
      clear hsg hck hat hsl hP hA hAb hF hB hok
      generalize sgL seed k text = sg at *
      go_wp2_with fail
      refine HS2.out.mono ?_
      rintro e' w3 ⟨D, d, E, ec, rfl, f3, g3, b3⟩
      obtain ⟨gE, rfl, -, -⟩ := g3.form (by have := g3.nc; omega)
      have P9 := Pair.new w3 (.slice D 16 d) (.int .i64 ((k : Int) + 1))
      have bb := below_alloc b3 (.cells #[.slice D 16 d, .int .i64 ((k : Int) + 1)] 47) (Nat.le_refl _)
      have PK3 := HPk.out.low bb HPk.out.lt
      have F3 := Lib.hid ((f3.mono (base' := w.heap.size) HB.out.size).alloc (.cells #[.slice D 16 d, .int .i64 ((k : Int) + 1)] 47))
      have G3 := Lib.hid ((g3.mono (base' := w.heap.size) HB.out.size).alloc (.cells #[.slice D 16 d, .int .i64 ((k : Int) + 1)] 47))
      have HF3 := Lib.hid (HF.out.below bb (Nat.le_refl _))
      have HA3 := Lib.hid ((HA.out.below bb).more bb.size)
      have B3 := Lib.hid (below_to HB.out bb HB.out.size)
      have hec := G3.out.nc
      obtain ⟨b9, hb9⟩ : ∃ b, b = w3.heap.size := ⟨_, rfl⟩
      obtain ⟨w3a, hw3a⟩ : ∃ W, W = w3.alloc (.cells #[.slice D 16 d, .int .i64 ((k : Int) + 1)] 47) := ⟨_, rfl⟩
      rw [← hw3a] at P9 PK3
      rw [← hb9] at P9
      simp only [← hw3a] at F3 G3 HF3 HA3 B3
      have HP9 := Lib.hid P9
      have HPK3 := Lib.hid PK3
      have HB9 := Lib.hid hb9
      have HW3A := Lib.hid hw3a
      clear P9 PK3 hb9 hw3a f3 g3 bb b3 q0 q1 HF HA HPk HB
      go_wp2_with fail
      simp only [← HB9.out, ← HW3A.out]
      refine (HC2.out _ _ w3a B3.out HF3.out.rd hec G3.out.rd).mono ?_
      rintro e' w4 ⟨rfl, b4⟩
      have P9 := HP9.out.low b4 HP9.out.lt
      have P2 := HPK3.out.low b4 HPK3.out.lt
      have F4 := F3.out.below b4 (Nat.le_refl _)
      have G4 := G3.out.below b4 (Nat.le_refl _)
      have A4 := (HA3.out.below b4).more b4.size
      have HF4 := HF3.out.below b4 (Nat.le_refl _)
      have B4 := below_to B3.out b4 B3.out.size
      have y0 := P9.c0
      have y1 := P9.c1
      have z0 := P2.c0
      have z1 := P2.c1
      have x0 := P2.f (i := 0)
      have x1 := P2.f (i := 1)
      have q3 := conv F4.rd d
      have q4 := conv A4 c'
      have ce := at_cell2 HSL.out G4.rd
      rw [HAT.out] at ce
      have hw8 := u8_of k hk
      have hsum : IntKind.i64.wrap ((k : Int) + 1) = (k : Int) + 1 := IntWalk.i64_in _ (by omega)
      have hR := grown_pair w4 b2 (.slice D 16 d) (.int .i64 ((k : Int) + 1))
      have hnb := fr_not F4 (by have := F4.nc; omega) P2
      have R1 := Lib.hid ((F4.rd.grown_ne hR (Nat.le_refl _) (fun a e => by intro e2; injection e2 with e2; exact hnb a e e2)).more hR.size)
      have R2 := Lib.hid (fr_pair HF4 P2 (.slice D 16 d) (.int .i64 ((k : Int) + 1)))
      have R3 := Lib.hid (P2.put (.slice D 16 d) (.int .i64 ((k : Int) + 1)))
      have hwb := HW2.out
      have R4 := Lib.hid ((B4.setCell (p := ⟨b2, 0, none⟩) (by show _ ≤ b2; omega) (.slice D 16 d)).setCell (p := ⟨b2, 1, none⟩) (by show _ ≤ b2; omega) (.int .i64 ((k : Int) + 1)))
      have HNB := Lib.hid hnb
      clear P9 P2 F4 G4 A4 HF4 B4 b4 hR hnb hwb
      go_wp2
      go_roundw
      case rel => exact ⟨k + 1, D, d, by omega, by simp, R3.out, R1.out, HNB.out, R2.out, R4.out⟩
      case measure => simp [intOf]; omega
    · obtain rfl : k = 8 := by omega
      have HPk := Lib.hid hP
      have HB := Lib.hid hB
      clear hP hA hAb hF hB
      go_wp2_with fail
      refine (x_sign_spent A 16 c' 8 T m t wr ⟨rfl, rfl⟩).mono ?_
      rintro e' w3 ⟨rfl, b3⟩
      have P3 := HPk.out.low b3 HPk.out.lt
      have q0 := P3.c0
      have q1 := P3.c1
      have B3 := Lib.hid (below_alloc (below_to HB.out b3 HB.out.size) (.cells #[.slice none 0 0, .int .i64 0] 47) (Nat.le_refl _))
      clear P3 b3
      go_wp2
      go_ret
      exact ⟨rfl, B3.out⟩
theorem signRight_walk (S : Option Addr) (n c : Nat) (seed : List UInt8) (spent : Int) (T : Option Addr) (m t : Nat) (text : List UInt8) (w : World)
    (hs : seed.length = n) (hr : Rd w w.heap.size 1 S n (bvs seed)) (hl : text.length = m) (hmt : m ≤ t) (hrt : Rd w w.heap.size 1 T m (bvs text)) :
    Calls Try.prog 11 #[.agg #[.slice S n c, .int .i64 spent], .slice T m t] w fun e w' => e = .returned (.bool true) ∧ Below w.heap.size w w' := by
  by_cases h1 : 10000 < (n : Int)
  · exact sright_sb S n c spent T m t w h1
  by_cases h2 : 10000 < (m : Int)
  · exact sright_tb S n c spent T m t w (by simp; omega) h2
  by_cases h3 : n = 16
  · by_cases h4 : spent < 0
    · exact sright_low S n c seed spent T m t w (by simp; omega) (by simp; omega) hs hr ⟨h3, h4⟩
    by_cases h5 : 8 < spent
    · exact sright_high S n c seed spent T m t w (by simp; omega) (by simp; omega) hs hr ⟨h3, h5⟩
    obtain ⟨k, rfl⟩ := Int.eq_ofNat_of_zero_le (show 0 ≤ spent by omega)
    subst h3
    exact sright_ok S c seed k T m t text w (by simp; omega) hs hr (by omega) hl hmt hrt
  · exact sright_len S n c seed spent T m t w (by simp; omega) (by simp; omega) hs hr (by simp; omega)
end Go.Proofs.Ytoggpnncmgcgoaa
