/-
  The walks of layer 1's statements that reach Put alone: alive, CodeWider, CodeOrder.
-/
import Derived.Test.YtgcagenhfddpgaaCode
namespace Go.Proofs.Ytgcagenhfddpgaa
open Go.RowKit
set_option linter.unusedVariables false
set_option maxRecDepth 100000
attribute [local go_sem] str_toList toList_mk

theorem conv {w : World} {B n : Nat} {A : Option Addr} {l : List UInt8} (h : Rd w B 1 A n (bvs l)) (c : Nat) : (convert 23 9 (.slice A n c)).run Try.prog w = .ok (.string (str l)) w :=
  run_conv Try.underlying23 Try.underlying5 Try.underlying9 h c

theorem alive01 (w : World) : Calls Try.prog 19 #[] w fun e w' => e = .returned (.bool true) ∧ Below w.heap.size w w' := by
  go_enter Try.func19, Try.ntmps19
  go_wp2_with fail
  refine (put_ok2 258 w (by decide) (by decide)).mono ?_
  rintro e w1 ⟨A1, c1, rfl, f1, b1⟩
  go_wp2_with fail
  refine (put_ok1 0 w1 (by decide) (by decide)).mono ?_
  rintro e w2 ⟨A2, c2, rfl, f2, b2⟩
  go_wp2_with fail
  refine (put_big1 256 w2 (by decide) (by decide)).mono ?_
  rintro e w3 ⟨rfl, rfl⟩
  have k1 := conv (f1.below b2 (Nat.le_refl _)).rd c1
  have k2 := conv f2.rd c2
  have q1 : (le 2 258 == [2, 1]) = true := by decide
  have q2 : (le 1 0 == [0]) = true := by decide
  go_wp2
  go_ret
  exact ⟨rfl, b1.trans (b2.mono b1.size)⟩

theorem codeWider_walk (n s : Int) (w : World) : Calls Try.prog 3 #[.int .i64 n, .int .i64 s] w fun e w' => e = .returned (.bool true) ∧ Below w.heap.size w w' := by
  by_cases h : PutOk n s
  · by_cases h4 : s < 4
    · obtain ⟨S, rfl⟩ : ∃ S : Nat, s = (S : Int) := ⟨s.toNat, by have := h.1; omega⟩
      have hlt := putOk_lt h
      have h1 : PutOk n ((S : Int) + 1) := ⟨by omega, by omega, h.2.2.1, Int.lt_of_lt_of_le h.2.2.2 (room_mono (by omega))⟩
      have HO := Lib.hid h; clear h
      have HO1 := Lib.hid h1; clear h1
      have HL := Lib.hid hlt; clear hlt
      go_enter Try.func3, Try.ntmps3
      go_wp2_with fail
      refine (alive01 w).mono ?_
      rintro e w1 ⟨rfl, b1⟩
      go_wp2_with fail
      refine (put_yes n _ w1 HO.out).mono ?_
      rintro e w2 ⟨A, c, rfl, f2, b2⟩
      rw [Int.toNat_natCast] at f2 ⊢
      go_wp2_with fail
      refine (put_yes n _ w2 HO1.out).mono ?_
      rintro e w3 ⟨D, d, rfl, f3, b3⟩
      have e1 : ((S : Int) + 1).toNat = S + 1 := by omega
      rw [e1] at f3 ⊢
      have hd := f3.nc
      obtain ⟨g, off, rfl, _, hc⟩ := f3.rd.2 (by omega)
      have hcell : w3.cell? ⟨g, off + S, none⟩ = some (.int .u8 0) := by
        refine hc S _ ?_
        rw [le_snoc, bvs_get, List.getElem?_append_right (by rw [le_len]; exact Nat.le_refl _), le_len, Nat.sub_self]
        have : n.toNat / 256 ^ S = 0 := Nat.div_eq_of_lt (by simpa using HL.out)
        rw [this]
        rfl
      have k1 := fun N => conv ((f2.below b3 (Nat.le_refl _)).rd.drewN N) c
      have r3 := f3.rd.take (k := S) (by omega)
      rw [Nat.mul_one, ← bvs_take, le_take S (S + 1) _ (by omega)] at r3
      have k2 := fun N => conv (r3.drewN N) d
      have hd0 : ¬ d = 0 := by omega
      clear e1
      go_wp2
      have hw : IntKind.i64.wrap ((S : Int) + 1) = (S : Int) + 1 := IntWalk.i64_in _ (by omega)
      have hS0 : 0 ≤ (S : Int) := by omega
      have hS1 : (S : Int) ≤ (d : Int) := by omega
      have hS2 : (S : Int) < (S : Int) + 1 := by omega
      go_quiet (fail)
      go_wp2
      go_ret
      exact ⟨rfl, below_drewN (b1.trans ((b2.trans (b3.mono b2.size)).mono b1.size)) _⟩
    · have HO := Lib.hid h; clear h
      go_enter Try.func3, Try.ntmps3
      go_wp2_with fail
      refine (alive01 w).mono ?_
      rintro e w1 ⟨rfl, b1⟩
      go_wp2_with fail
      refine (put_yes n s w1 HO.out).mono ?_
      rintro e w2 ⟨A, c, rfl, f2, b2⟩
      go_wp2
      go_ret
      exact ⟨rfl, b1.trans (b2.mono b1.size)⟩
  · have HO := Lib.hid h; clear h
    go_enter Try.func3, Try.ntmps3
    go_wp2_with fail
    refine (alive01 w).mono ?_
    rintro e w1 ⟨rfl, b1⟩
    go_wp2_with fail
    refine (put_err n s w1 HO.out).mono ?_
    rintro e w2 ⟨rfl, rfl⟩
    go_wp2
    go_ret
    exact ⟨rfl, b1⟩

/-- What CodeOrder's loop knows when r places are left. -/
def OrdRel (n m : Int) (S : Nat) (w0 : World) (i : Value) (wr : World) : Prop :=
  ∃ r N : Nat, r ≤ S ∧ i = .int .i64 ((r : Int) - 1) ∧ n.toNat / 256 ^ r = m.toNat / 256 ^ r ∧ wr = w0.drewN N

theorem codeOrder_ok (n m : Int) (S : Nat) (hn : PutOk n S) (hm : PutOk m S) (w : World) : Calls Try.prog 4 #[.int .i64 n, .int .i64 m, .int .i64 S] w fun e w' => e = .returned (.bool true) ∧ Below w.heap.size w w' := by
  have ln := putOk_lt hn
  have lm := putOk_lt hm
  rw [Int.toNat_natCast] at ln lm
  have hS : S ≤ 4 := by have := hn.2.1; omega
  have hn0 := hn.2.2.1
  have hm0 := hm.2.2.1
  have HN := Lib.hid hn; clear hn
  have HM := Lib.hid hm; clear hm
  have LN := Lib.hid ln; clear ln
  have LM := Lib.hid lm; clear lm
  go_enter Try.func4, Try.ntmps4
  go_wp2_with fail
  refine (alive01 w).mono ?_
  rintro e w1 ⟨rfl, b1⟩
  go_wp2_with fail
  refine (put_yes n _ w1 HN.out).mono ?_
  rintro e w2 ⟨A, c, rfl, f2, b2⟩
  rw [Int.toNat_natCast] at f2 ⊢
  go_wp2_with fail
  refine (put_yes m _ w2 HM.out).mono ?_
  rintro e w3 ⟨D, d, rfl, f3, b3⟩
  rw [Int.toNat_natCast] at f3 ⊢
  have hb : Below w.heap.size w w3 := b1.trans ((b2.trans (b3.mono b2.size)).mono b1.size)
  have r2 := (f2.below b3 (Nat.le_refl _)).rd
  have r3 := f3.rd
  clear f2 f3
  go_wp2
  go_loopw [12] (fun i wr => OrdRel n m S w3 i wr) (fun i _ => (intOf i + 1).toNat)
  case atStart =>
    refine ⟨S, 0, Nat.le_refl _, by simp, ?_, rfl⟩
    rw [Nat.div_eq_of_lt LN.out, Nat.div_eq_of_lt LM.out]
  case round =>
    obtain ⟨r, N, hr, rfl, hq, rfl⟩ := hrel
    rcases Nat.eq_zero_or_pos r with rfl | hpos
    · have hnm : n = m := by
        simp only [Nat.pow_zero, Nat.div_one] at hq
        omega
      subst hnm
      have e : ((0 : Nat) : Int) - 1 = -1 := rfl
      rw [e]
      go_wp2
      go_ret
      exact ⟨by simp, below_drewN hb _⟩
    · obtain ⟨k, rfl⟩ : ∃ k, r = k + 1 := ⟨r - 1, by omega⟩
      have e : ((k + 1 : Nat) : Int) - 1 = (k : Int) := by omega
      rw [e]
      obtain ⟨g, off, rfl, _, hc⟩ := r2.2 (by omega)
      obtain ⟨g', off', rfl, _, hc'⟩ := r3.2 (by omega)
      have h1 : w3.cell? ⟨g, off + k, none⟩ = some (.int .u8 (dig n.toNat k : Int)) := by
        refine hc k _ ?_
        rw [bvs_get, le_get S k _ (by omega), ← dig_byte]
        rfl
      have h2 : w3.cell? ⟨g', off' + k, none⟩ = some (.int .u8 (dig m.toNat k : Int)) := by
        refine hc' k _ ?_
        rw [bvs_get, le_get S k _ (by omega), ← dig_byte]
        rfl
      have hk0 : ¬ (k : Int) < 0 := by omega
      have hk1 : (k : Int) < (S : Int) := by omega
      have hk2 : 0 ≤ (k : Int) := by omega
      have d1 := dig_lt n.toNat k
      have d2 := dig_lt m.toNat k
      by_cases hd : dig n.toNat k = dig m.toNat k
      · have hq' := dig_same hq hd
        have HQ := Lib.hid hq'
        rw [← hd] at h2
        clear hq hq' hd hc hc' r2 r3 d2
        generalize dig n.toNat k = x at *
        go_wp2
        go_quiet (fail)
        go_wp2
        go_roundw
        case rel => exact ⟨k, _, by omega, rfl, HQ.out, rfl⟩
        case measure => simp [intOf]
      · have hgt := dig_gt hq hd
        have HG := Lib.hid hgt
        have hne : ((dig n.toNat k : Int) == (dig m.toNat k : Int)) = false := by simp; omega
        have hne' : ((dig n.toNat k : Int) != (dig m.toNat k : Int)) = true := by simp; omega
        have hfin : (decide (dig m.toNat k < dig n.toNat k) == decide (m < n)) = true := by
          rw [beq_iff_eq, decide_eq_decide]
          omega
        have HF := Lib.hid hfin
        clear hq hd hc hc' r2 r3 hgt hfin
        generalize dig n.toNat k = x at *
        generalize dig m.toNat k = y at *
        go_wp2
        go_quiet (fail)
        go_wp2
        go_quiet (fail)
        go_wp2
        go_ret
        exact ⟨congrArg (fun b => Ending.returned (.bool b)) HF.out, below_drewN (below_drewN (below_drewN hb _) _) _⟩

theorem codeOrder_walk (n m s : Int) (w : World) : Calls Try.prog 4 #[.int .i64 n, .int .i64 m, .int .i64 s] w fun e w' => e = .returned (.bool true) ∧ Below w.heap.size w w' := by
  by_cases h : PutOk n s
  · by_cases h' : PutOk m s
    · obtain ⟨S, rfl⟩ : ∃ S : Nat, s = (S : Int) := ⟨s.toNat, by have := h.1; omega⟩
      exact codeOrder_ok n m S h h' w
    · have HO := Lib.hid h; clear h
      have HO' := Lib.hid h'; clear h'
      go_enter Try.func4, Try.ntmps4
      go_wp2_with fail
      refine (alive01 w).mono ?_
      rintro e w1 ⟨rfl, b1⟩
      go_wp2_with fail
      refine (put_yes n s w1 HO.out).mono ?_
      rintro e w2 ⟨A, c, rfl, f2, b2⟩
      go_wp2_with fail
      refine (put_err m s w2 HO'.out).mono ?_
      rintro e w3 ⟨rfl, rfl⟩
      go_wp2
      go_ret
      exact ⟨rfl, b1.trans (b2.mono b1.size)⟩
  · have HO := Lib.hid h; clear h
    by_cases h' : PutOk m s
    · have HO' := Lib.hid h'; clear h'
      go_enter Try.func4, Try.ntmps4
      go_wp2_with fail
      refine (alive01 w).mono ?_
      rintro e w1 ⟨rfl, b1⟩
      go_wp2_with fail
      refine (put_err n s w1 HO.out).mono ?_
      rintro e w2 ⟨rfl, rfl⟩
      go_wp2_with fail
      refine (put_yes m s w1 HO'.out).mono ?_
      rintro e w3 ⟨A, c, rfl, f2, b2⟩
      go_wp2
      go_ret
      exact ⟨rfl, b1.trans (b2.mono b1.size)⟩
    · have HO' := Lib.hid h'; clear h'
      go_enter Try.func4, Try.ntmps4
      go_wp2_with fail
      refine (alive01 w).mono ?_
      rintro e w1 ⟨rfl, b1⟩
      go_wp2_with fail
      refine (put_err n s w1 HO.out).mono ?_
      rintro e w2 ⟨rfl, rfl⟩
      go_wp2_with fail
      refine (put_err m s w1 HO'.out).mono ?_
      rintro e w3 ⟨rfl, rfl⟩
      go_wp2
      go_ret
      exact ⟨rfl, b1⟩
end Go.Proofs.Ytgcagenhfddpgaa
