/-
  charterhouseref10: contracts of Write, Same, Read.
-/
import Derived.Test.YtgcagenhfddpgaaRef10b
import Derived.Test.YtgcagenhfddpgaaOwn
namespace Go.Proofs.Ytgcagenhfddpgaa
open Go.RowKit
set_option linter.unusedVariables false
set_option linter.unusedSimpArgs false
set_option maxRecDepth 100000

theorem run_pt_neq (p q : Pt) (w : World) :
    (binOp .neq 31 (.agg #[.int .i64 p.a, .int .u32 p.b, .int .u32 p.i, .int .u32 p.t, .int .u32 p.s]) (.agg #[.int .i64 q.a, .int .u32 q.b, .int .u32 q.i, .int .u32 q.t, .int .u32 q.s])).run Try.prog w = .ok (.bool (!(decide (p = q)))) w := by
  rw [← Pt.eq_beq]
  unfold Pt.eq ptEq
  by_cases h1 : p.a = q.a <;> by_cases h2 : p.b = q.b <;> by_cases h3 : p.i = q.i <;> by_cases h4 : p.t = q.t <;> by_cases h5 : p.s = q.s <;> simp [go_sem, h1, h2, h3, h4, h5]
def wrP (p : Pt) : List UInt8 := if p.May then p.bytes else []
set_option maxHeartbeats 1000000 in
theorem q_write (p : Pt) (hu : p.U) (w : World) :
    Calls Try.prog 32 #[.agg #[.int .i64 p.a, .int .u32 p.b, .int .u32 p.i, .int .u32 p.t, .int .u32 p.s]] w fun e w' => ∃ A c, e = .returned (.tuple #[.slice A (wrP p).length c, .int .i64 p.chk]) ∧ Fr w' w.heap.size 5 1 A (wrP p).length c (bvs (wrP p)) ∧ Below w.heap.size w w' := by
  have hB := below_new w (.cells #[.int .i64 p.a, .int .u32 p.b, .int .u32 p.i, .int .u32 p.t, .int .u32 p.s] 31)
  have hX := PtBox.new w p
  obtain ⟨d0, d1, d2, d3, d4⟩ := hX.cells
  have HB := Lib.hid hB
  have HX := Lib.hid hX
  clear hB hX
  by_cases hm : p.May
  · have HM := Lib.hid (fun W => q_may p true (decide_eq_true hm) W)
    have HY := Lib.hid (fun W => q_pbytes p hm hu W)
    have hl : (wrP p).length = 16 := by unfold wrP; rw [if_pos hm]; exact Pt.bytes_len p
    have hw : wrP p = p.bytes := if_pos hm
    rw [Pt.chk_zero hm, hl, hw]
    clear hm hl hw hu
    go_enter Try.func32, Try.ntmps32
    go_wp2_with fail
    refine (HM.out _).mono ?_
    rintro e w1 ⟨rfl, b1⟩
    have HB1 := Lib.hid (below_to HB.out b1 HB.out.size)
    have hx1 := HX.out.below b1 HX.out.lt
    clear d0 d1 d2 d3 d4 b1
    obtain ⟨d0, d1, d2, d3, d4⟩ := hx1.cells
    go_wp2_with fail
    refine (HY.out _).mono ?_
    rintro e w2 ⟨A2, c2, rfl, f2, b2⟩
    have HF2 := Lib.hid (f2.mono HB1.out.size)
    have HB2 := Lib.hid (below_to HB1.out b2 HB1.out.size)
    clear f2 b2
    go_wp2
    go_ret2
    exact ⟨_, _, rfl, HF2.out, HB2.out⟩
  · have HM := Lib.hid (fun W => q_may p false (decide_eq_false hm) W)
    have hw : wrP p = [] := if_neg hm
    rw [Pt.chk_bad hm, hw]
    clear hm hw
    go_enter Try.func32, Try.ntmps32
    go_wp2_with fail
    refine (HM.out _).mono ?_
    rintro e w1 ⟨rfl, b1⟩
    have hb1 := below_to HB.out b1 HB.out.size
    go_wp2
    go_ret2
    exact ⟨_, _, rfl, Fr.none_, hb1⟩
/-! ### Same -/
def SmR (l m : List Pt) (w : World) (x : Value) (wr : World) : Prop :=
  ∃ k : Nat, k ≤ l.length ∧ x = .int .i64 (k : Int) ∧ (∀ i, i < k → l[i]? = m[i]?) ∧ Below w.heap.size w wr
set_option maxHeartbeats 1000000 in
theorem q_same (A : Option Addr) (n c : Nat) (l : List Pt) (D : Option Addr) (m d : Nat) (l2 : List Pt) (w : World) (hl : l.length = n) (hn : (n : Int) ≤ 1000000) (hr : Rd w w.heap.size 5 A n (pcs l)) (hl2 : l2.length = m) (hr2 : Rd w w.heap.size 5 D m (pcs l2)) (v : Bool) (hv : v = decide (l = l2)) :
    Calls Try.prog 36 #[.slice A n c, .slice D m d] w fun e w' => e = .returned (.bool v) ∧ Below w.heap.size w w' := by
  by_cases hnm : (n : Int) = (m : Int)
  · obtain rfl : n = m := by omega
    have hpe := run_pt_neq
    have HPE := Lib.hid hpe
    have HV := Lib.hid hv
    clear hpe hv hnm
    go_enter Try.func36, Try.ntmps36
    go_wp2
    go_loopw [5] (fun x wr => SmR l l2 w x wr) (fun x _ => n - (intOf x).toNat)
    case atStart => exact ⟨0, Nat.zero_le _, rfl, fun i hi => absurd hi (Nat.not_lt_zero _), Below.refl _ _⟩
    case round =>
      obtain ⟨k, hk, rfl, he, hb⟩ := hrel
      by_cases hlt : k < n
      · obtain ⟨b1, o1, rfl, hb1, c0, c1, c2, c3, c4⟩ := (hr.below hb).at5 hlt hl
        obtain ⟨b2, o2, rfl, hb2, e0, e1, e2, e3, e4⟩ := (hr2.below hb).at5 hlt hl2
        have h0 : ¬ ((k : Int) < 0) := by omega
        have h1 : (k : Int) < (n : Int) := by omega
        have hkl : k < l.length := by omega
        have hkl2 : k < l2.length := by omega
        have hpe := HPE.out l[k] l2[k]
        have HE := Lib.hid he
        have HB := Lib.hid hb
        by_cases heq : l[k] = l2[k]
        · rw [decide_eq_true heq] at hpe
          have hen : ∀ i, i < k + 1 → l[i]? = l2[i]? := fun i hi => by
            by_cases hik : i < k
            · exact he i hik
            · obtain rfl : i = k := by omega
              rw [List.getElem?_eq_getElem hkl, List.getElem?_eq_getElem hkl2, heq]
          have HN := Lib.hid hen
          clear hen he hb heq hr hr2 hb1 hb2
          generalize l[k] = p at *
          generalize l2[k] = q at *
          go_wp2
          go_quiet (fail)
          go_wp2
          go_roundw
          case rel => exact ⟨k + 1, by omega, by simp, HN.out, below_drewN HB.out _⟩
          case measure => simp [intOf]; omega
        · rw [decide_eq_false heq] at hpe
          obtain rfl : v = false := by
            rw [HV.out]
            refine decide_eq_false fun h => heq ?_
            subst h
            rfl
          clear he hb heq hr hr2 hb1 hb2
          generalize l[k] = p at *
          generalize l2[k] = q at *
          go_wp2
          go_quiet (fail)
          go_wp2
          go_ret
          exact ⟨rfl, below_drewN HB.out _⟩
      · obtain rfl : k = n := by omega
        obtain rfl : v = true := by
          rw [HV.out]
          refine decide_eq_true (List.ext_getElem? fun i => ?_)
          by_cases hi : i < k
          · exact he i hi
          · rw [List.getElem?_eq_none (by omega), List.getElem?_eq_none (by omega)]
        go_wp2
        go_ret
        exact ⟨rfl, hb⟩
  · obtain rfl : v = false := by
      rw [hv]
      refine decide_eq_false fun h => hnm ?_
      subst h
      omega
    go_enter Try.func36, Try.ntmps36
    go_wp2
    go_ret
    exact ⟨rfl, Below.refl _ _⟩
end Go.Proofs.Ytgcagenhfddpgaa
