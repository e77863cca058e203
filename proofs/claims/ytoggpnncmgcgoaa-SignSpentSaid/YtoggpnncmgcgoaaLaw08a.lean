/-
  The walk of layer 8's statement SignTells.
-/
import Derived.Test.YtoggpnncmgcgoaaRef08b
namespace Go.Proofs.Ytoggpnncmgcgoaa
open Go.RowKit
set_option linter.unusedVariables false
set_option linter.unusedSimpArgs false
set_option maxRecDepth 100000
attribute [local go_sem] str_toList toList_mk

def outSP (seed : List UInt8) : List UInt8 × Int := if seed.length = 16 then (nodeL seed 3 0, 0) else ([], 2)
/-- What Sign answers: the signer's seed and count, the signature, the error. -/
structure SgOut where
  seed : List UInt8
  spent : Int
  sig : List UInt8
  err : Int
def outSS (seed : List UInt8) (spent : Int) (text : List UInt8) : SgOut :=
  if mayB seed.length spent = true then (if spent = 8 then ⟨[], 0, [], 80⟩ else ⟨seed, (spent.toNat : Int) + 1, sgL seed spent.toNat text, 0⟩) else ⟨[], 0, [], 8⟩
def ToldS (w : World) (o : SgOut) (e : Ending) (w' : World) : Prop :=
  ∃ D n d E m ec, e = .returned (.tuple #[.agg #[.slice D n d, .int .i64 o.spent], .slice E m ec, .int .i64 o.err]) ∧ o.seed.length = n ∧ o.sig.length = m ∧ Fr w' w.heap.size 5 1 D n d (bvs o.seed) ∧ Fr w' w.heap.size 5 1 E m ec (bvs o.sig) ∧ Below w.heap.size w w'
theorem toldS_nil (w w' : World) (x : Int) (e : Ending) (h : e = .returned (.tuple #[.agg #[.slice none 0 0, .int .i64 0], .slice none 0 0, .int .i64 x]) ∧ Below w.heap.size w w') : ToldS w ⟨[], 0, [], x⟩ e w' := ⟨none, 0, 0, none, 0, 0, h.1, rfl, rfl, Fr.none_, Fr.none_, h.2⟩
theorem t_x_spub (S : Option Addr) (n c : Nat) (seed : List UInt8) (w : World) (hs : seed.length = n) (hr : Rd w w.heap.size 1 S n (bvs seed)) :
    Calls Try.prog 31 #[.slice S n c] w (ToldF w (outSP seed)) := by
  by_cases h : n = 16
  · subst h
    rw [outSP, if_pos hs]
    refine (x_public S c seed w hs hr).mono ?_
    rintro e w' ⟨D, d, rfl, f, b⟩
    exact ⟨D, 16, d, rfl, nodeL_len _ _ _, f, b⟩
  · rw [outSP, if_neg (by omega)]
    refine (x_public_bad S n c w (by simp; omega)).mono ?_
    rintro e w' ⟨rfl, rfl⟩
    exact toldF_nil w w 2 _ ⟨rfl, Below.refl _ _⟩
theorem t_x_ssign (S : Option Addr) (n c : Nat) (seed : List UInt8) (spent : Int) (T : Option Addr) (m t : Nat) (text : List UInt8) (w : World) (hs : seed.length = n) (hr : Rd w w.heap.size 1 S n (bvs seed))
    (hl : text.length = m) (hm : m ≤ 1000000) (hmt : m ≤ t) (hrt : Rd w w.heap.size 1 T m (bvs text)) :
    Calls Try.prog 33 #[.agg #[.slice S n c, .int .i64 spent], .slice T m t] w (ToldS w (outSS seed spent text)) := by
  by_cases h1 : n = 16
  · subst h1
    by_cases h2 : 0 ≤ spent ∧ spent ≤ 8
    · have hm1 : mayB seed.length spent = true := by simp [mayB, hs, h2.1, h2.2]
      by_cases h3 : spent = 8
      · subst h3
        rw [outSS, if_pos hm1, if_pos rfl]
        refine (x_sign_spent S 16 c 8 T m t w ⟨rfl, rfl⟩).mono ?_
        rintro e w' h
        exact toldS_nil w w' 80 _ h
      · rw [outSS, if_pos hm1, if_neg h3]
        obtain ⟨k, rfl⟩ := Int.eq_ofNat_of_zero_le h2.1
        rw [Int.toNat_natCast]
        refine (x_sign S c seed k T m t text w hs hr (by omega) hl (by omega) hmt hrt).mono ?_
        rintro e w' ⟨D, d, E, ec, rfl, f1, f2, b⟩
        exact ⟨D, 16, d, E, 209, ec, rfl, hs, sgL_len _ _ _, f1, f2, b⟩
    · have hm1 : ¬ mayB seed.length spent = true := by simp [mayB, hs]; omega
      rw [outSS, if_neg hm1]
      by_cases h0 : spent < 0
      · refine (x_sign_low S 16 c spent T m t w ⟨rfl, h0⟩).mono ?_
        rintro e w' h
        exact toldS_nil w w' 8 _ h
      · refine (x_sign_high S 16 c spent T m t w ⟨rfl, by omega⟩).mono ?_
        rintro e w' h
        exact toldS_nil w w' 8 _ h
  · have hm1 : ¬ mayB seed.length spent = true := by simp [mayB, hs, h1]
    rw [outSS, if_neg hm1]
    refine (x_sign_len S n c spent T m t w (by simp; omega)).mono ?_
    rintro e w' h
    exact toldS_nil w w' 8 _ h
theorem t_q_spub (S : Option Addr) (n c : Nat) (seed : List UInt8) (w : World) (hs : seed.length = n) (hr : Rd w w.heap.size 1 S n (bvs seed)) :
    Calls Try.prog 32 #[.slice S n c] w (ToldF w (outSP seed)) := by
  by_cases h : n = 16
  · subst h
    rw [outSP, if_pos hs]
    refine (q_spublic S c seed w hs hr).mono ?_
    rintro e w' ⟨D, d, rfl, f, b⟩
    exact ⟨D, 16, d, rfl, nodeL_len _ _ _, f, b⟩
  · rw [outSP, if_neg (by omega)]
    refine (q_spublic_bad S n c w (by simp; omega)).mono ?_
    rintro e w' ⟨rfl, rfl⟩
    exact toldF_nil w w 2 _ ⟨rfl, Below.refl _ _⟩
theorem t_q_ssign (S : Option Addr) (n c : Nat) (seed : List UInt8) (spent : Int) (T : Option Addr) (m t : Nat) (text : List UInt8) (w : World) (hs : seed.length = n) (hr : Rd w w.heap.size 1 S n (bvs seed))
    (hl : text.length = m) (hm : m ≤ 1000000) (hmt : m ≤ t) (hrt : Rd w w.heap.size 1 T m (bvs text)) :
    Calls Try.prog 34 #[.agg #[.slice S n c, .int .i64 spent], .slice T m t] w (ToldS w (outSS seed spent text)) := by
  by_cases h1 : n = 16
  · subst h1
    by_cases h2 : 0 ≤ spent ∧ spent ≤ 8
    · have hm1 : mayB seed.length spent = true := by simp [mayB, hs, h2.1, h2.2]
      by_cases h3 : spent = 8
      · subst h3
        rw [outSS, if_pos hm1, if_pos rfl]
        refine (q_sign_spent S c T m t w).mono ?_
        rintro e w' h
        exact toldS_nil w w' 80 _ h
      · rw [outSS, if_pos hm1, if_neg h3]
        obtain ⟨k, rfl⟩ := Int.eq_ofNat_of_zero_le h2.1
        rw [Int.toNat_natCast]
        refine (q_ssign S c seed k T m t text w hs hr (by omega) hl hm hrt).mono ?_
        rintro e w' ⟨D, d, E, ec, rfl, f1, f2, b⟩
        exact ⟨D, 16, d, E, 209, ec, rfl, hs, sgL_len _ _ _, f1, f2, b⟩
    · have hm1 : ¬ mayB seed.length spent = true := by simp [mayB, hs]; omega
      rw [outSS, if_neg hm1]
      refine (q_sign_may S 16 c spent T m t w (by simp [mayB]; omega)).mono ?_
      rintro e w' h
      exact toldS_nil w w' 8 _ h
  · have hm1 : ¬ mayB seed.length spent = true := by simp [mayB, hs, h1]
    rw [outSS, if_neg hm1]
    refine (q_sign_may S n c spent T m t w (by simp [mayB, h1])).mono ?_
    rintro e w' h
    exact toldS_nil w w' 8 _ h
theorem stells_sb (S : Option Addr) (n c : Nat) (spent : Int) (T : Option Addr) (m t : Nat) (w : World)
    (h : 10000 < (n : Int)) : Calls Try.prog 9 #[.agg #[.slice S n c, .int .i64 spent], .slice T m t] w fun e w' => e = .returned (.bool true) ∧ Below w.heap.size w w' := by
  go_enter Try.func9, Try.ntmps9
  go_wp2
  go_ret
  exact ⟨rfl, below_new w _⟩
theorem stells_tb (S : Option Addr) (n c : Nat) (spent : Int) (T : Option Addr) (m t : Nat) (w : World)
    (h1 : decide (10000 < (n : Int)) = false)
    (h : 10000 < (m : Int)) : Calls Try.prog 9 #[.agg #[.slice S n c, .int .i64 spent], .slice T m t] w fun e w' => e = .returned (.bool true) ∧ Below w.heap.size w w' := by
  go_enter Try.func9, Try.ntmps9
  go_wp2
  go_ret
  exact ⟨rfl, below_new w _⟩
theorem Pair.new (w : World) (v0 v1 : Value) : Pair (w.alloc (.cells #[v0, v1] 47)) w.heap.size v0 v1 := heap_alloc_new w _
theorem Pair.alloc {w : World} {b : Nat} {v0 v1 : Value} (h : Pair w b v0 v1) (o : Obj) : Pair (w.alloc o) b v0 v1 := (Below.heap_alloc _ _ _ h.lt).trans h
theorem Pair.row {w : World} {base n c b g : Nat} {xs : List Value} {v0 v1 : Value} (h : Pair w b v0 v1) (hf : Fr w base 5 1 (some ⟨g, 0, none⟩) n c xs) (hc : 0 < c) (i : Nat) (u : Value) : Pair (w.setCell ⟨g, i, none⟩ u) b v0 v1 := by
  refine (Below.heap_setCell _ _ _ _ (fun e => ?_)).trans h
  obtain ⟨cur, fz, hcl⟩ := hf.cells_ g (rowOf_some g 0 c hc)
  have e' : b = g := e
  subst e'
  unfold Pair at h
  rw [hcl] at h
  cases h
def SiRel (base n d : Nat) (D : Option Addr) (b2 b10 : Nat) (v0 v1 u0 u1 : Value) (w0 : World) (i : Value) (wr : World) : Prop :=
  ∃ (k : Nat) (l : List UInt8), k ≤ n ∧ i = .int .i64 (k : Int) ∧ l.length = n ∧ Fr wr base 5 1 D n d (bvs l) ∧ Pair wr b2 v0 v1 ∧ Pair wr b10 u0 u1 ∧ Below base w0 wr
set_option maxHeartbeats 4000000 in
theorem stells_ok (S : Option Addr) (n c : Nat) (seed : List UInt8) (spent : Int) (T : Option Addr) (m t : Nat) (text : List UInt8) (w : World) (h1 : decide (10000 < (n : Int)) = false) (h2 : decide (10000 < (m : Int)) = false)
    (hs : seed.length = n) (hr : Rd w w.heap.size 1 S n (bvs seed)) (hl : text.length = m) (hmt : m ≤ t) (hrt : Rd w w.heap.size 1 T m (bvs text)) :
    Calls Try.prog 9 #[.agg #[.slice S n c, .int .i64 spent], .slice T m t] w fun e w' => e = .returned (.bool true) ∧ Below w.heap.size w w' := by
  have hm : m ≤ 1000000 := by simp at h2; omega
  have c1 := fun W (h : Below w.heap.size w W) => t_x_spub S n c seed W hs ((hr.below h).more h.size)
  have c2 := fun W (h : Below w.heap.size w W) => t_q_spub S n c seed W hs ((hr.below h).more h.size)
  have c3 := fun W (h : Below w.heap.size w W) => t_x_ssign S n c seed spent T m t text W hs ((hr.below h).more h.size) hl hm hmt ((hrt.below h).more h.size)
  have c4 := fun W (h : Below w.heap.size w W) => t_q_ssign S n c seed spent T m t text W hs ((hr.below h).more h.size) hl hm hmt ((hrt.below h).more h.size)
  obtain ⟨o1, ho1⟩ : ∃ o, o = outSP seed := ⟨_, rfl⟩
  obtain ⟨o2, ho2⟩ : ∃ o, o = outSS seed spent text := ⟨_, rfl⟩
  simp only [← ho1] at c1 c2
  simp only [← ho2] at c3 c4
  obtain ⟨l1, e1⟩ := o1
  obtain ⟨l2, s2, l3, e3⟩ := o2
  have hB0 := below_new w (.cells #[.slice S n c, .int .i64 spent] 47)
  have k1 := conv ((hr.below hB0).more hB0.size) c
  have P2 := Pair.new w (.slice S n c) (.int .i64 spent)
  have C1 := Lib.hid c1
  have C2 := Lib.hid c2
  have C3 := Lib.hid c3
  have C4 := Lib.hid c4
  have HR := Lib.hid hr
  have HB0 := Lib.hid hB0
  have HP2 := Lib.hid P2
  clear c1 c2 c3 c4 hr hrt ho1 ho2 hB0 P2
  go_enter Try.func9, Try.ntmps9
  go_wp2_with fail
  clear k1
  obtain ⟨b2, hb2⟩ : ∃ b, b = w.heap.size := ⟨_, rfl⟩
  obtain ⟨w0, hw0⟩ : ∃ W, W = w.alloc (.cells #[.slice S n c, .int .i64 spent] 47) := ⟨_, rfl⟩
  have P2 := HP2.out
  have B0 := HB0.out
  rw [← hw0] at P2 B0
  rw [← hb2] at P2
  simp only [← hb2, ← hw0]
  have HW2 := Lib.hid hb2
  clear HP2 HB0 hb2 hw0
  refine (C1.out w0 B0).mono ?_
  rintro e w1 ⟨D1, n1, d1, rfl, hn1, f1, b1⟩
  have P2' := P2.low b1 P2.lt
  have q0 := P2'.c0
  have HP2 := Lib.hid P2'
  have B1 := Lib.hid (below_to B0 b1 B0.size)
  have F1 := Lib.hid (f1.mono (base' := w.heap.size) B0.size)
  clear P2 P2' B0 f1 b1
  go_wp2_with fail
  refine (C2.out w1 B1.out).mono ?_
  rintro e w2 ⟨D2, n2, d2, rfl, hn2, f2, b2'⟩
  have P2' := HP2.out.low b2' HP2.out.lt
  have q0 := P2'.c0
  have q1 := P2'.c1
  have HP2 := Lib.hid P2'
  have F1 := Lib.hid (F1.out.below b2' (Nat.le_refl _))
  have F2 := Lib.hid (f2.mono (base' := w.heap.size) B1.out.size)
  have B2 := Lib.hid (below_to B1.out b2' B1.out.size)
  clear P2' f2 b2'
  go_wp2_with fail
  refine (C3.out w2 B2.out).mono ?_
  rintro e w3 ⟨D3, n3, d3, E3, m3, ec3, rfl, hn3, hm3, f3, g3, b3⟩
  have P10 := Pair.new w3 (.slice D3 n3 d3) (.int .i64 s2)
  have P2' := (HP2.out.low b3 HP2.out.lt).alloc (.cells #[.slice D3 n3 d3, .int .i64 s2] 47)
  have F1 := Lib.hid ((F1.out.below b3 (Nat.le_refl _)).alloc (.cells #[.slice D3 n3 d3, .int .i64 s2] 47))
  have F2 := Lib.hid ((F2.out.below b3 (Nat.le_refl _)).alloc (.cells #[.slice D3 n3 d3, .int .i64 s2] 47))
  have F3 := Lib.hid ((f3.mono (base' := w.heap.size) B2.out.size).alloc (.cells #[.slice D3 n3 d3, .int .i64 s2] 47))
  have G3 := Lib.hid ((g3.mono (base' := w.heap.size) B2.out.size).alloc (.cells #[.slice D3 n3 d3, .int .i64 s2] 47))
  have B3 := Lib.hid (below_alloc (below_to B2.out b3 B2.out.size) (.cells #[.slice D3 n3 d3, .int .i64 s2] 47) (Nat.le_refl _))
  have q0 := P2'.c0
  have q1 := P2'.c1
  have HP2 := Lib.hid P2'
  have HP10 := Lib.hid P10
  have N3 := Lib.hid hn3
  clear f3 g3 b3 P10 P2' hn3
  go_wp2_with fail
  obtain ⟨b10, hb10⟩ : ∃ b, b = w3.heap.size := ⟨_, rfl⟩
  obtain ⟨w3a, hw3a⟩ : ∃ W, W = w3.alloc (.cells #[.slice D3 n3 d3, .int .i64 s2] 47) := ⟨_, rfl⟩
  simp only [← hw3a] at HP2 HP10 F1 F2 F3 G3 B3
  simp only [← hb10] at HP10
  simp only [← hb10, ← hw3a]
  clear hb10 hw3a q0 q1
  refine (C4.out w3a B3.out).mono ?_
  rintro e w4 ⟨D4, n4, d4, E4, m4, ec4, rfl, hn4, hm4, f4, g4, b4⟩
  have P13 := Pair.new w4 (.slice D4 n4 d4) (.int .i64 s2)
  have P2' := (HP2.out.low b4 HP2.out.lt).alloc (.cells #[.slice D4 n4 d4, .int .i64 s2] 47)
  have P10' := (HP10.out.low b4 HP10.out.lt).alloc (.cells #[.slice D4 n4 d4, .int .i64 s2] 47)
  have F1 := Lib.hid ((F1.out.below b4 (Nat.le_refl _)).alloc (.cells #[.slice D4 n4 d4, .int .i64 s2] 47))
  have F2 := Lib.hid ((F2.out.below b4 (Nat.le_refl _)).alloc (.cells #[.slice D4 n4 d4, .int .i64 s2] 47))
  have F3 := Lib.hid ((F3.out.below b4 (Nat.le_refl _)).alloc (.cells #[.slice D4 n4 d4, .int .i64 s2] 47))
  have G3 := Lib.hid ((G3.out.below b4 (Nat.le_refl _)).alloc (.cells #[.slice D4 n4 d4, .int .i64 s2] 47))
  have F4 := Lib.hid ((f4.mono (base' := w.heap.size) B3.out.size).alloc (.cells #[.slice D4 n4 d4, .int .i64 s2] 47))
  have G4 := Lib.hid ((g4.mono (base' := w.heap.size) B3.out.size).alloc (.cells #[.slice D4 n4 d4, .int .i64 s2] 47))
  have B4 := Lib.hid (below_alloc (below_to B3.out b4 B3.out.size) (.cells #[.slice D4 n4 d4, .int .i64 s2] 47) (Nat.le_refl _))
  have q0 := P10'.c0
  have q1 := P10'.c1
  have q2 := conv F1.out.rd d1
  have q3 := conv F2.out.rd d2
  obtain rfl : n3 = n4 := by rw [← N3.out, ← hn4]
  have hsm := q_ssame D3 n3 d3 D4 d4 l2 s2 _ F3.out.rd F4.out.rd
  have HSM := Lib.hid hsm
  have HP2 := Lib.hid P2'
  have HP10 := Lib.hid P10'
  clear f4 g4 b4 P13 P2' P10' hn4 hsm
  go_wp2_with fail
  refine HSM.out.mono ?_
  rintro e w5 ⟨rfl, b5⟩
  have q4 := conv (G3.out.below b5 (Nat.le_refl _)).rd ec3
  have q5 := conv (G4.out.below b5 (Nat.le_refl _)).rd ec4
  have F3 := Lib.hid (F3.out.below b5 (Nat.le_refl _))
  have HP2 := Lib.hid (HP2.out.low b5 HP2.out.lt)
  have HP10 := Lib.hid (HP10.out.low b5 HP10.out.lt)
  have B5 := Lib.hid (below_to B4.out b5 B4.out.size)
  clear b5 q0 q1 q2 q3 HSM
  go_wp2
  go_loopw [17] (fun i wr => SiRel w.heap.size n3 d3 D3 b2 b10 (.slice S n c) (.int .i64 spent) (.slice D3 n3 d3) (.int .i64 s2) w i wr) (fun i _ => n3 - (intOf i).toNat)
  case atStart => exact ⟨0, _, by omega, rfl, N3.out, F3.out, HP2.out, HP10.out, B5.out⟩
  case round =>
    have hn3 : n3 ≤ d3 := F3.out.nc
    have hd3 : d3 ≤ maxLen := F3.out.cm
    unfold maxLen at hd3
    obtain ⟨k, l, hk, rfl, hll, hf, hp2, hp10, hb⟩ := hrel
    have y0 := hp10.c0
    have z0 := hp2.c0
    by_cases hlt : k < n3
    · obtain ⟨g, rfl, hg1, hg2⟩ := hf.form (by omega)
      obtain ⟨u, hu, hcell⟩ := hf.cell hlt
      have hfz := hf.frozen hlt
      obtain ⟨x, hu2⟩ : ∃ x, u = bv x := by
        rw [bvs_get, List.getElem?_eq_getElem (by omega)] at hu
        exact ⟨l[k], by simpa using hu.symm⟩
      subst hu2
      have hF := hf.set (by omega) k (bv (x + 1))
      rw [bvs_set] at hF
      have hB := hb.setCell (p := ⟨g, k, none⟩) hg1 (bv (x + 1))
      have hQ2 := hp2.row hf (by omega) k (bv (x + 1))
      have hQ10 := hp10.row hf (by omega) k (bv (x + 1))
      have hw1 := wrap8_one x
      have HF := Lib.hid hF
      have HB := Lib.hid hB
      have HL := Lib.hid hll
      have HQ2 := Lib.hid hQ2
      have HQ10 := Lib.hid hQ10
      unfold bv at hcell
      clear hu hf hb hF hB hll hp2 hp10 hQ2 hQ10 z0
      go_wp2
      go_roundw
      case rel => exact ⟨k + 1, l.set k (x + 1), by omega, by simp, by rw [List.length_set]; exact HL.out, HF.out, HQ2.out, HQ10.out, HB.out⟩
      case measure => simp [intOf]; omega
    · obtain rfl : k = n3 := by omega
      have q7 := conv (HR.out.below hb) c
      have HB := Lib.hid hb
      clear hf hb hll hp2 hp10
      go_wp2
      go_ret
      exact ⟨rfl, HB.out⟩
theorem signTells_walk (S : Option Addr) (n c : Nat) (seed : List UInt8) (spent : Int) (T : Option Addr) (m t : Nat) (text : List UInt8) (w : World)
    (hs : seed.length = n) (hr : Rd w w.heap.size 1 S n (bvs seed)) (hl : text.length = m) (hmt : m ≤ t) (hrt : Rd w w.heap.size 1 T m (bvs text)) :
    Calls Try.prog 9 #[.agg #[.slice S n c, .int .i64 spent], .slice T m t] w fun e w' => e = .returned (.bool true) ∧ Below w.heap.size w w' := by
  by_cases h1 : 10000 < (n : Int)
  · exact stells_sb S n c spent T m t w h1
  by_cases h2 : 10000 < (m : Int)
  · exact stells_tb S n c spent T m t w (by simp; omega) h2
  exact stells_ok S n c seed spent T m t text w (by simp; omega) (by simp; omega) hs hr hl hmt hrt
end Go.Proofs.Ytoggpnncmgcgoaa
