/-
  charterhouseref08: contract of Check; the walk of layer 8's statement SignChecks.
-/
import Derived.Test.YtoggpnncmgcgoaaSignC
import Derived.Test.YtoggpnncmgcgoaaRef07d
namespace Go.Proofs.Ytoggpnncmgcgoaa
open Go.RowKit
set_option linter.unusedVariables false
set_option linter.unusedSimpArgs false
set_option maxRecDepth 100000
attribute [local go_sem] str_toList toList_mk

theorem q_check_pub (P : Option Addr) (p pc : Nat) (T : Option Addr) (n t : Nat) (S : Option Addr) (m sc : Nat) (w : World) (h : ((p : Int) != 16) = true) :
    Calls Try.prog 19 #[.slice P p pc, .slice T n t, .slice S m sc] w fun e w' => e = .returned (.tuple #[.bool false, .int .i64 2]) ∧ w = w' := by
  go_enter Try.func19, Try.ntmps19
  go_wp2
  go_ret2
  exact ⟨rfl, rfl⟩
theorem q_check_len (P : Option Addr) (pc : Nat) (T : Option Addr) (n t : Nat) (S : Option Addr) (m sc : Nat) (w : World) (h : ((m : Int) != 209) = true) :
    Calls Try.prog 19 #[.slice P 16 pc, .slice T n t, .slice S m sc] w fun e w' => e = .returned (.tuple #[.bool false, .int .i64 8]) ∧ w = w' := by
  go_enter Try.func19, Try.ntmps19
  go_wp2
  go_ret2
  exact ⟨rfl, rfl⟩
theorem at_cell {w : World} {B g o : Nat} {sig : List UInt8} (hs : sig.length = 209) (h : Rd w B 1 (some ⟨g, o, none⟩) 209 (bvs sig)) : w.cell? ⟨g, o, none⟩ = some (.int .u8 (atL sig : Int)) := by
  obtain ⟨g', o', u, he, hg, hu, cx⟩ := h.at_ (k := 0) (by omega)
  cases he
  have hu2 : u = .int .u8 (atL sig : Int) := by
    rw [bvs_get, List.getElem?_eq_getElem (by omega)] at hu
    rw [atL, List.getD_eq_getElem?_getD, List.getElem?_eq_getElem (by omega)]
    simpa [bv] using hu.symm
  subst hu2
  rw [Nat.add_zero] at cx
  exact cx
theorem q_check_leaf (P : Option Addr) (pc : Nat) (T : Option Addr) (n t : Nat) (S : Option Addr) (sc : Nat) (sig : List UInt8) (w : World) (hs : sig.length = 209) (hrs : Rd w w.heap.size 1 S 209 (bvs sig)) (h : 8 ≤ atL sig) :
    Calls Try.prog 19 #[.slice P 16 pc, .slice T n t, .slice S 209 sc] w fun e w' => e = .returned (.tuple #[.bool false, .int .i64 8]) ∧ w = w' := by
  obtain ⟨g, o, rfl, hg, -⟩ := hrs.2 (by omega)
  have cx := at_cell hs hrs
  generalize atL sig = x at *
  have h8 : decide ((7 : Int) < (x : Int)) = true := by simp; omega
  clear hrs hs hg
  go_enter Try.func19, Try.ntmps19
  go_wp2
  go_ret2
  exact ⟨rfl, rfl⟩
def QcRel (x : Nat) (node sig : List UInt8) (w : World) (a nd h : Value) (wr : World) : Prop :=
  ∃ (r : Nat) (D : Option Addr) (d : Nat), r ≤ 3 ∧ h = .int .i64 (r : Int) ∧ a = .int .i64 ((x / 2 ^ r : Nat) : Int) ∧ nd = .slice D 16 d ∧ Fr wr w.heap.size 5 1 D 16 d (bvs (foldN x node sig r)) ∧ Below w.heap.size w wr
theorem beq_eqB (a b : List UInt8) : (a == b) = eqB a b := by
  unfold eqB
  by_cases h : a = b <;> simp [h]
set_option maxHeartbeats 2000000 in
theorem q_check_ok (P : Option Addr) (pc : Nat) (pub : List UInt8) (T : Option Addr) (n t : Nat) (text : List UInt8) (S : Option Addr) (sc : Nat) (sig : List UInt8) (w : World) (hp : pub.length = 16) (hrp : Rd w w.heap.size 1 P 16 (bvs pub))
    (hl : text.length = n) (hn : n ≤ 1000000) (hrt : Rd w w.heap.size 1 T n (bvs text)) (hs : sig.length = 209) (hsc : 209 ≤ sc) (hrs : Rd w w.heap.size 1 S 209 (bvs sig)) (h8 : atL sig < 8) :
    Calls Try.prog 19 #[.slice P 16 pc, .slice T n t, .slice S 209 sc] w fun e w' => e = .returned (.tuple #[.bool (chkL pub text sig), .int .i64 0]) ∧ Below w.heap.size w w' := by
  obtain ⟨g, o, rfl, hg, -⟩ := hrs.2 (by omega)
  have cx := at_cell hs hrs
  have hpl := partL_len hs
  have hrpart := fun W (h : Below w.heap.size w W) => ((((hrs.below h).more h.size).subB 1 160 (by omega) (by omega)) : Rd W W.heap.size 1 (some ⟨g, o + 1, none⟩) 160 (bvs (partL sig)))
  have hbes : ∀ W (h : Below w.heap.size w W) r (hr : r < 3), Rd W W.heap.size 1 (some ⟨g, o + (161 + 16 * r), none⟩) 16 (bvs (besideL sig r)) := fun W h r hr => ((hrs.below h).more h.size).subB (161 + 16 * r) 16 (by omega) (by omega)
  have hbl := fun r (hr : r < 3) => besideL_len hs hr
  have hck : chkL pub text sig = eqB (foldN (atL sig) (recL (atL sig) text (partL sig)) sig 3) pub := rfl
  rw [hck]
  generalize atL sig = x at *
  have hrec := fun W (h : Below w.heap.size w W) => q_recover x T n t text (some ⟨g, o + 1, none⟩) (sc - 1) (partL sig) W h8 hl hn ((hrt.below h).more h.size) hpl (by omega) (hrpart W h)
  have hnl := recL_len x text (partL sig)
  generalize recL x text (partL sig) = node at *
  have hdec : decide ((7 : Int) < (x : Int)) = false := by simp; omega
  have hw8 := u8_of x h8
  have HREC := Lib.hid hrec
  have HBES := Lib.hid hbes
  have HBL := Lib.hid hbl
  have HNL := Lib.hid hnl
  have HP := Lib.hid hrp
  have HPL := Lib.hid hp
  have HSC := Lib.hid hsc
  have H8V := Lib.hid h8
  have hsc1 : (161 : Int) ≤ (sc : Int) := by omega
  have hsc2 : ¬ sc = 1 := by omega
  clear hrs hs hg hpl hrpart hbes hbl hrec hnl hrp hp hrt hl hn hsc h8 hck
  go_enter Try.func19, Try.ntmps19
  go_wp2_with fail
  refine (HREC.out w (Below.refl _ _)).mono ?_
  rintro e w1 ⟨D, d, rfl, f1, b1⟩
  clear cx
  go_wp2
  go_loopw [8, 9, 11] (fun a nd h wr => QcRel x node sig w a nd h wr) (fun _ _ h _ => 3 - (intOf h).toNat)
  case atStart => exact ⟨0, D, d, by omega, rfl, by simp, rfl, f1, b1⟩
  case round =>
    clear f1 b1
    obtain ⟨r, D', d', hr, rfl, rfl, rfl, hf, hb⟩ := hrel
    have HF := Lib.hid hf
    have HB := Lib.hid hb
    have hfl := foldN_len (at_ := x) (sig := sig) HNL.out r
    have HFL := Lib.hid hfl
    clear hf hb hfl
    by_cases hlt : r < 3
    · have hrd := HBES.out wr HB.out r hlt
      have hbl := HBL.out r hlt
      have hst : foldN x node sig (r + 1) = if x / 2 ^ r % 2 = 1 then aboveL r (besideL sig r) (foldN x node sig r) else aboveL r (foldN x node sig r) (besideL sig r) := rfl
      have hup : ((x / 2 ^ r : Nat) : Int) / 2 = ((x / 2 ^ (r + 1) : Nat) : Int) := by rw [Nat.pow_succ, ← Nat.div_div_eq_div_mul]; omega
      have hal : x / 2 ^ r ≤ x := Nat.div_le_self _ _
      have hx8 := H8V.out
      have hs1 := HSC.out
      have hsl1 : (161 : Int) + 16 * (r : Int) ≤ 177 + 16 * (r : Int) := by omega
      have hsl2 : (177 : Int) + 16 * (r : Int) ≤ (sc : Int) := by omega
      have hsl3 : ¬ sc = 161 + 16 * r := by omega
      have hsl4 : 177 + 16 * r - (161 + 16 * r) = 16 := by omega
      have HRD := Lib.hid hrd
      have HBLN := Lib.hid hbl
      have HUP := Lib.hid hup
      generalize foldN x node sig r = nd at *
      generalize besideL sig r = be at *
      by_cases hpar : x / 2 ^ r % 2 = 1
      · rw [if_pos hpar] at hst
        have HST := Lib.hid hst
        obtain ⟨a, ha⟩ : ∃ a, a = x / 2 ^ r := ⟨_, rfl⟩
        simp only [← ha] at hpar hal HUP
        rw [← ha]
        have HA := Lib.hid ha
        have hmod : (a : Int).tmod 2 = (a : Int) % 2 := Int.tmod_eq_emod_of_nonneg (by omega)
        have hm2 : (a : Int) % 2 = 1 := by omega
        clear hst hup ha hpar hrd hbl
        go_wp2_with fail
        refine (q_up r (by omega) _ _ _ _ _ _ wr HBLN.out HFL.out HRD.out HF.out.rd).mono ?_
        rintro e w2 ⟨D2, d2, rfl, f2, b2⟩
        have HF2 := Lib.hid (f2.mono (base' := w.heap.size) HB.out.size)
        have HB2 := Lib.hid (below_to HB.out b2 HB.out.size)
        clear f2 b2
        go_wp2
        go_roundw
        case rel => exact ⟨r + 1, D2, d2, by omega, by simp, by rw [← HUP.out], rfl, by rw [HST.out]; exact HF2.out, HB2.out⟩
        case measure => simp [intOf]; omega
      · rw [if_neg hpar] at hst
        have HST := Lib.hid hst
        obtain ⟨a, ha⟩ : ∃ a, a = x / 2 ^ r := ⟨_, rfl⟩
        simp only [← ha] at hpar hal HUP
        rw [← ha]
        have HA := Lib.hid ha
        have hmod : (a : Int).tmod 2 = (a : Int) % 2 := Int.tmod_eq_emod_of_nonneg (by omega)
        have hm2 : (a : Int) % 2 = 0 := by omega
        clear hst hup ha hpar hrd hbl
        go_wp2_with fail
        refine (q_up r (by omega) _ _ _ _ _ _ wr HFL.out HBLN.out HF.out.rd HRD.out).mono ?_
        rintro e w2 ⟨D2, d2, rfl, f2, b2⟩
        have HF2 := Lib.hid (f2.mono (base' := w.heap.size) HB.out.size)
        have HB2 := Lib.hid (below_to HB.out b2 HB.out.size)
        clear f2 b2
        go_wp2
        go_roundw
        case rel => exact ⟨r + 1, D2, d2, by omega, by simp, by rw [← HUP.out], rfl, by rw [HST.out]; exact HF2.out, HB2.out⟩
        case measure => simp [intOf]; omega
    · obtain rfl : r = 3 := by omega
      have q1 := conv HF.out.rd d'
      have q2 := conv (HP.out.below HB.out) pc
      have hbe := beq_eqB (foldN x node sig 3) pub
      have HBE := Lib.hid hbe
      clear hbe
      go_wp2
      go_ret2
      exact ⟨by rw [← HBE.out]; rfl, HB.out⟩

/-! ### SignChecks -/
def outK (pub text sig : List UInt8) : Bool × Int := if pub.length ≠ 16 then (false, 2) else if sig.length ≠ 209 then (false, 8) else if 8 ≤ atL sig then (false, 8) else (chkL pub text sig, 0)
theorem t_x_check (P : Option Addr) (p pc : Nat) (pub : List UInt8) (T : Option Addr) (n t : Nat) (text : List UInt8) (S : Option Addr) (m sc : Nat) (sig : List UInt8) (w : World) (hp : pub.length = p) (hrp : Rd w w.heap.size 1 P p (bvs pub))
    (hl : text.length = n) (hn : n ≤ 1000000) (hnt : n ≤ t) (hrt : Rd w w.heap.size 1 T n (bvs text)) (hs : sig.length = m) (hsc : m ≤ sc) (hrs : Rd w w.heap.size 1 S m (bvs sig)) :
    Calls Try.prog 18 #[.slice P p pc, .slice T n t, .slice S m sc] w fun e w' => e = .returned (.tuple #[.bool (outK pub text sig).1, .int .i64 (outK pub text sig).2]) ∧ Below w.heap.size w w' := by
  by_cases h1 : p = 16
  · subst h1
    by_cases h2 : m = 209
    · subst h2
      by_cases h3 : 8 ≤ atL sig
      · rw [outK, if_neg (by omega), if_neg (by omega), if_pos h3]
        refine (x_check_leaf P pc T n t S sc sig w hs hrs h3).mono ?_
        rintro e w' ⟨rfl, rfl⟩
        exact ⟨rfl, Below.refl _ _⟩
      · rw [outK, if_neg (by omega), if_neg (by omega), if_neg h3]
        exact x_check_ok P pc pub T n t text S sc sig w hp hrp hl (by omega) hnt hrt hs hsc hrs (by omega)
    · rw [outK, if_neg (by omega), if_pos (by omega)]
      refine (x_check_len P pc T n t S m sc w (by simp; omega)).mono ?_
      rintro e w' ⟨rfl, rfl⟩
      exact ⟨rfl, Below.refl _ _⟩
  · rw [outK, if_pos (by omega)]
    refine (x_check_pub P p pc T n t S m sc w (by simp; omega)).mono ?_
    rintro e w' ⟨rfl, rfl⟩
    exact ⟨rfl, Below.refl _ _⟩
theorem t_q_check (P : Option Addr) (p pc : Nat) (pub : List UInt8) (T : Option Addr) (n t : Nat) (text : List UInt8) (S : Option Addr) (m sc : Nat) (sig : List UInt8) (w : World) (hp : pub.length = p) (hrp : Rd w w.heap.size 1 P p (bvs pub))
    (hl : text.length = n) (hn : n ≤ 1000000) (hnt : n ≤ t) (hrt : Rd w w.heap.size 1 T n (bvs text)) (hs : sig.length = m) (hsc : m ≤ sc) (hrs : Rd w w.heap.size 1 S m (bvs sig)) :
    Calls Try.prog 19 #[.slice P p pc, .slice T n t, .slice S m sc] w fun e w' => e = .returned (.tuple #[.bool (outK pub text sig).1, .int .i64 (outK pub text sig).2]) ∧ Below w.heap.size w w' := by
  by_cases h1 : p = 16
  · subst h1
    by_cases h2 : m = 209
    · subst h2
      by_cases h3 : 8 ≤ atL sig
      · rw [outK, if_neg (by omega), if_neg (by omega), if_pos h3]
        refine (q_check_leaf P pc T n t S sc sig w hs hrs h3).mono ?_
        rintro e w' ⟨rfl, rfl⟩
        exact ⟨rfl, Below.refl _ _⟩
      · rw [outK, if_neg (by omega), if_neg (by omega), if_neg h3]
        exact q_check_ok P pc pub T n t text S sc sig w hp hrp hl hn hrt hs hsc hrs (by omega)
    · rw [outK, if_neg (by omega), if_pos (by omega)]
      refine (q_check_len P pc T n t S m sc w (by simp; omega)).mono ?_
      rintro e w' ⟨rfl, rfl⟩
      exact ⟨rfl, Below.refl _ _⟩
  · rw [outK, if_pos (by omega)]
    refine (q_check_pub P p pc T n t S m sc w (by simp; omega)).mono ?_
    rintro e w' ⟨rfl, rfl⟩
    exact ⟨rfl, Below.refl _ _⟩
theorem schecks_pb (P : Option Addr) (p pc : Nat) (T : Option Addr) (n t : Nat) (S : Option Addr) (m sc : Nat) (w : World)
    (h : 10000 < (p : Int)) : Calls Try.prog 3 #[.slice P p pc, .slice T n t, .slice S m sc] w fun e w' => e = .returned (.bool true) ∧ Below w.heap.size w w' := by
  go_enter Try.func3, Try.ntmps3
  go_wp2
  go_ret
  exact ⟨rfl, Below.refl _ _⟩
theorem schecks_tb (P : Option Addr) (p pc : Nat) (T : Option Addr) (n t : Nat) (S : Option Addr) (m sc : Nat) (w : World)
    (h1 : decide (10000 < (p : Int)) = false)
    (h : 10000 < (n : Int)) : Calls Try.prog 3 #[.slice P p pc, .slice T n t, .slice S m sc] w fun e w' => e = .returned (.bool true) ∧ Below w.heap.size w w' := by
  go_enter Try.func3, Try.ntmps3
  go_wp2
  go_ret
  exact ⟨rfl, Below.refl _ _⟩
theorem schecks_sb (P : Option Addr) (p pc : Nat) (T : Option Addr) (n t : Nat) (S : Option Addr) (m sc : Nat) (w : World)
    (h1 : decide (10000 < (p : Int)) = false)
    (h2 : decide (10000 < (n : Int)) = false)
    (h : 10000 < (m : Int)) : Calls Try.prog 3 #[.slice P p pc, .slice T n t, .slice S m sc] w fun e w' => e = .returned (.bool true) ∧ Below w.heap.size w w' := by
  go_enter Try.func3, Try.ntmps3
  go_wp2
  go_ret
  exact ⟨rfl, Below.refl _ _⟩
theorem schecks_ok (P : Option Addr) (p pc : Nat) (pub : List UInt8) (T : Option Addr) (n t : Nat) (text : List UInt8) (S : Option Addr) (m sc : Nat) (sig : List UInt8) (w : World)
    (h1 : decide (10000 < (p : Int)) = false) (h2 : decide (10000 < (n : Int)) = false) (h3 : decide (10000 < (m : Int)) = false) (hp : pub.length = p) (hrp : Rd w w.heap.size 1 P p (bvs pub))
    (hl : text.length = n) (hnt : n ≤ t) (hrt : Rd w w.heap.size 1 T n (bvs text)) (hs : sig.length = m) (hsc : m ≤ sc) (hrs : Rd w w.heap.size 1 S m (bvs sig)) :
    Calls Try.prog 3 #[.slice P p pc, .slice T n t, .slice S m sc] w fun e w' => e = .returned (.bool true) ∧ Below w.heap.size w w' := by
  have hn : n ≤ 1000000 := by simp at h2; omega
  have c1 := fun W (h : Below w.heap.size w W) => t_x_check P p pc pub T n t text S m sc sig W hp ((hrp.below h).more h.size) hl hn hnt ((hrt.below h).more h.size) hs hsc ((hrs.below h).more h.size)
  have c2 := fun W (h : Below w.heap.size w W) => t_q_check P p pc pub T n t text S m sc sig W hp ((hrp.below h).more h.size) hl hn hnt ((hrt.below h).more h.size) hs hsc ((hrs.below h).more h.size)
  generalize outK pub text sig = o at *
  obtain ⟨o1, o2⟩ := o
  have k1 := conv hrs sc
  have C1 := Lib.hid c1
  have C2 := Lib.hid c2
  have HS := Lib.hid hrs
  clear c1 c2 hrp hrt hrs
  go_enter Try.func3, Try.ntmps3
  go_wp2_with fail
  clear k1
  refine (C1.out w (Below.refl _ _)).mono ?_
  rintro e w1 ⟨rfl, b1⟩
  go_wp2_with fail
  refine (C2.out w1 b1).mono ?_
  rintro e w2 ⟨rfl, b2⟩
  have B2 := below_to b1 b2 b1.size
  have k2 := conv (HS.out.below B2) sc
  clear b1 b2
  go_wp2
  go_ret
  exact ⟨rfl, B2⟩
theorem signChecks_walk (P : Option Addr) (p pc : Nat) (pub : List UInt8) (T : Option Addr) (n t : Nat) (text : List UInt8) (S : Option Addr) (m sc : Nat) (sig : List UInt8) (w : World)
    (hp : pub.length = p) (hrp : Rd w w.heap.size 1 P p (bvs pub)) (hl : text.length = n) (hnt : n ≤ t) (hrt : Rd w w.heap.size 1 T n (bvs text)) (hs : sig.length = m) (hsc : m ≤ sc) (hrs : Rd w w.heap.size 1 S m (bvs sig)) :
    Calls Try.prog 3 #[.slice P p pc, .slice T n t, .slice S m sc] w fun e w' => e = .returned (.bool true) ∧ Below w.heap.size w w' := by
  by_cases h1 : 10000 < (p : Int)
  · exact schecks_pb P p pc T n t S m sc w h1
  by_cases h2 : 10000 < (n : Int)
  · exact schecks_tb P p pc T n t S m sc w (by simp; omega) h2
  by_cases h3 : 10000 < (m : Int)
  · exact schecks_sb P p pc T n t S m sc w (by simp; omega) (by simp; omega) h3
  exact schecks_ok P p pc pub T n t text S m sc sig w (by simp; omega) (by simp; omega) (by simp; omega) hp hrp hl hnt hrt hs hsc hrs
end Go.Proofs.Ytoggpnncmgcgoaa
