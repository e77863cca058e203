/-
  Contracts of charterhouseref09.place, May, Check, ask.
-/
import Derived.Test.YtkaklppkmokffaaRf9a
import Derived.Test.YtkaklppkmokffaaDevH
namespace Go.Proofs.Ytkaklppkmokffaa
open Go.RowKit
set_option linter.unusedVariables false
set_option linter.unusedSimpArgs false
set_option maxRecDepth 100000

theorem r_place (n : Int) (w : World) (v : Bool) (hv : v = decide (0 ≤ n ∧ n < 256)) : Calls Try.prog 44 #[.int .i64 n] w fun e w' => e = .returned (.bool v) ∧ w = w' := by
  by_cases h0 : 0 ≤ n
  · by_cases h1 : n < 256
    · obtain rfl : v = true := by rw [hv]; simp [h0, h1]
      clear hv
      go_enter Try.func44, Try.ntmps44
      go_wp2
      go_ret
      exact ⟨rfl, rfl⟩
    · have h1' : decide (n < 256) = false := by simp; omega
      obtain rfl : v = false := by rw [hv]; simp; omega
      clear hv h1
      go_enter Try.func44, Try.ntmps44
      go_wp2
      go_ret
      exact ⟨rfl, rfl⟩
  · have h0' : decide (0 ≤ n) = false := by simp; omega
    obtain rfl : v = false := by rw [hv]; simp; omega
    clear hv h0
    go_enter Try.func44, Try.ntmps44
    go_wp2
    go_ret
    exact ⟨rfl, rfl⟩
/-! ### May -/
def pB (bs : List Sl) (i : Nat) : Bool := decide ((bs[i]?).map Sl.n = some 256)
def pW (ws : List Wt) (i : Nat) : Bool := match ws[i]? with
  | some x => decide (0 ≤ x.a ∧ x.a < 256) && decide (x.s.n = 256)
  | none => false
theorem pB_all (bs : List Sl) : (∀ i, i < bs.length → pB bs i = true) ↔ all1 bs = true := by
  unfold all1
  rw [List.all_eq_true]
  constructor
  · intro h s hs
    obtain ⟨i, hi, rfl⟩ := List.mem_iff_getElem.1 hs
    have := h i hi
    simp only [pB, List.getElem?_eq_getElem hi, Option.map_some, decide_eq_true_eq, Option.some.injEq] at this
    simpa using this
  · intro h i hi
    have := h _ (List.getElem_mem hi)
    simp only [pB, List.getElem?_eq_getElem hi, Option.map_some, decide_eq_true_eq, Option.some.injEq]
    simpa using this
theorem pW_all (ws : List Wt) : (∀ i, i < ws.length → pW ws i = true) ↔ all2 ws = true := by
  unfold all2
  rw [List.all_eq_true]
  constructor
  · intro h s hs
    obtain ⟨i, hi, rfl⟩ := List.mem_iff_getElem.1 hs
    have := h i hi
    simpa only [pW, List.getElem?_eq_getElem hi] using this
  · intro h i hi
    have := h _ (List.getElem_mem hi)
    simpa only [pW, List.getElem?_eq_getElem hi] using this
def MaR (p : Nat → Bool) (u0 n m : Nat) (V : World) (q x : Value) (wr : World) : Prop :=
  ∃ k : Nat, k ≤ n ∧ k ≤ m + 1 ∧ x = .int .i64 (k : Int) ∧ q = .int .i64 ((u0 + cntN p k : Nat) : Int) ∧ V = wr
set_option maxHeartbeats 4000000 in
theorem r_may (d : Dk) (w : World) (hd : d.ok w) (hB6 : (d.nB : Int) ≤ 1000000) (hW6 : (d.nW : Int) ≤ 1000000) (v : Bool) (hv : v = decide d.c.May) :
    Calls Try.prog 50 #[d.v] w fun e w' => e = .returned (.bool v) ∧ Below w.heap.size w w' := by
  have hmay := Dk.may_iff hd
  have hlb := hd.lb
  have hlw := hd.lw
  have hx := DkBox.new w (.slice d.A d.nB d.cB) (.slice d.W d.nW d.cW)
  have hb := below_new' w (.cells #[.slice d.A d.nB d.cB, .slice d.W d.nW d.cW] 25)
  have HMAY := Lib.hid hmay
  have HX := Lib.hid hx
  have HB := Lib.hid hb
  have HD := Lib.hid (hd.below hb)
  have HV := Lib.hid hv
  clear hmay hx hb hd hv
  simp only [Dk.v] at *
  go_enter Try.func50, Try.ntmps50
  go_wp2
  generalize w.alloc (.cells #[.slice d.A d.nB d.cB, .slice d.W d.nW d.cW] 25) = W1 at *
  go_loopw [3, 4] (fun q x wr => MaR (pB d.bs) 0 d.nB 256 W1 q x wr) (fun _ x _ => d.nB - (intOf x).toNat)
  case atStart => exact ⟨0, Nat.zero_le _, Nat.zero_le _, rfl, rfl, rfl⟩
  case round =>
    obtain ⟨k, hk, hk2, rfl, rfl, rfl⟩ := hrel
    obtain ⟨x0, x1⟩ := HX.out.cells
    have hcn := cntN_le (pB d.bs) k
    by_cases hlt : k < d.nB ∧ k ≤ 256
    · obtain ⟨hlt, hle⟩ := hlt
      obtain ⟨b, off, hA, hbb, hc⟩ := HD.out.rb.atS hlt hlb
      rw [hA] at x0
      have hkl : k < d.bs.length := by omega
      have hst : cntN (pB d.bs) (k + 1) = cntN (pB d.bs) k + if (d.bs[k]).n = 256 then 0 else 1 := by
        rw [cntN]
        simp [pB, List.getElem?_eq_getElem hkl]
      have HST := Lib.hid hst
      have h0 : ¬ ((k : Int) < 0) := by omega
      have h1 : (k : Int) < (d.nB : Int) := by omega
      have h2 : (k : Int) ≤ 256 := by omega
      clear hA hst
      generalize d.bs[k] = s at *
      generalize cntN (pB d.bs) k = u at *
      by_cases hs : s.n = 256
      · have hs2 : ((s.n : Int) != 256) = false := by simp [hs]
        have HS := Lib.hid hs
        clear hs
        go_wp2
        go_roundw
        case rel => exact ⟨k + 1, by omega, by omega, by simp, by rw [HST.out, if_pos HS.out]; rfl, rfl⟩
        case measure => simp [intOf]; omega
      · have hs2 : ((s.n : Int) != 256) = true := by simp; omega
        have HS := Lib.hid hs
        clear hs
        go_wp2
        go_roundw
        case rel => exact ⟨k + 1, by omega, by omega, by simp, by rw [HST.out, if_neg HS.out]; simp, rfl⟩
        case measure => simp [intOf]; omega
    · obtain ⟨u0, hu0⟩ : ∃ u0, u0 = 0 + cntN (pB d.bs) k := ⟨_, rfl⟩
      have hfin1 : d.nB = 256 → (u0 = 0 ↔ all1 d.bs = true) := by
        intro h
        have hkk : k = d.bs.length := by omega
        rw [hu0, Nat.zero_add, cntN_zero, hkk]
        exact pB_all d.bs
      have HFIN1 := Lib.hid hfin1
      rw [← hu0]
      have hu9 : (u0 : Int) ≤ 1000 := by omega
      clear hu0 hfin1 hcn
      have hend : k = d.nB ∨ (decide ((k : Int) ≤ 256) = false ∧ (k : Int) < (d.nB : Int)) := by
        by_cases h : k = d.nB
        · exact .inl h
        · exact .inr ⟨by simp; omega, by omega⟩
      clear hlt hk2
      rcases hend with rfl | ⟨hkd, hnb⟩
      all_goals
        go_wp2
        go_loopw [3, 5] (fun q x wr => MaR (pW d.ws) u0 d.nW 4096 W1 q x wr) (fun _ x _ => d.nW - (intOf x).toNat)
        case atStart => exact ⟨0, Nat.zero_le _, Nat.zero_le _, rfl, rfl, rfl⟩
        case round =>
          clear x0 x1
          try clear hnb hkd
          obtain ⟨j, hj, hj2, rfl, rfl, rfl⟩ := hrel
          obtain ⟨x0, x1⟩ := HX.out.cells
          have hcn := cntN_le (pW d.ws) j
          by_cases hlt : j < d.nW ∧ j ≤ 4096
          · obtain ⟨hlt, hle⟩ := hlt
            obtain ⟨b, off, hW, hbb, hc0, hc1⟩ := HD.out.rw_.at2 hlt hlw
            rw [hW] at x1
            have hjl : j < d.ws.length := by omega
            have hst : cntN (pW d.ws) (j + 1) = cntN (pW d.ws) j + if (d.ws[j]).s.n = 256 ∧ (0 ≤ (d.ws[j]).a ∧ (d.ws[j]).a < 256) then 0 else 1 := by
              rw [cntN]
              simp only [pW, List.getElem?_eq_getElem hjl, Bool.and_eq_true, decide_eq_true_eq]
              congr 1
              simp only [and_comm]
            have HST := Lib.hid hst
            have hpl := r_place (d.ws[j]).a W1 _ rfl
            have h0 : ¬ ((j : Int) < 0) := by omega
            have h1 : (j : Int) < (d.nW : Int) := by omega
            have h2 : (j : Int) ≤ 4096 := by omega
            have HPL := Lib.hid hpl
            clear hW hst hpl
            generalize d.ws[j] = x at *
            generalize cntN (pW d.ws) j = u at *
            by_cases hs : x.s.n = 256
            · have hs2 : ((x.s.n : Int) != 256) = false := by simp [hs]
              have HS := Lib.hid hs
              clear hs
              go_wp2_with fail
              refine HPL.out.mono ?_
              rintro e w3 ⟨rfl, rfl⟩
              by_cases hp : 0 ≤ x.a ∧ x.a < 256
              · rw [decide_eq_true hp]
                have HP := Lib.hid hp
                clear hp
                go_wp2
                go_roundw
                case rel => exact ⟨j + 1, by omega, by omega, by simp, by rw [HST.out, if_pos ⟨HS.out, HP.out⟩]; rfl, rfl⟩
                case measure => simp [intOf]; omega
              · rw [decide_eq_false hp]
                have HP := Lib.hid hp
                clear hp
                go_wp2
                go_roundw
                case rel => exact ⟨j + 1, by omega, by omega, by simp, by rw [HST.out, if_neg (fun h => HP.out h.2)]; simp; omega, rfl⟩
                case measure => simp [intOf]; omega
            · have hs2 : ((x.s.n : Int) != 256) = true := by simp; omega
              have HS := Lib.hid hs
              clear hs
              go_wp2
              go_roundw
              case rel => exact ⟨j + 1, by omega, by omega, by simp, by rw [HST.out, if_neg (fun h => HS.out h.1)]; simp; omega, rfl⟩
              case measure => simp [intOf]; omega
          · have hfin2 : d.nW ≤ 4096 → (cntN (pW d.ws) j = 0 ↔ all2 d.ws = true) := by
              intro h
              have hjj : j = d.ws.length := by omega
              rw [cntN_zero, hjj]
              exact pW_all d.ws
            have hvv : v = (((((u0 + cntN (pW d.ws) j : Nat) : Int) == 0) && ((d.nB : Int) == 256)) && decide ((d.nW : Int) ≤ 4096)) := by
              rw [HV.out, Bool.eq_iff_iff, decide_eq_true_eq, HMAY.out]
              simp only [ok1, Bool.and_eq_true, beq_iff_eq, decide_eq_true_eq]
              constructor
              · rintro ⟨⟨⟨h1, h2⟩, h3⟩, h4⟩
                have h5 := (HFIN1.out h1).2 h3
                have h6 := (hfin2 h2).2 h4
                omega
              · rintro ⟨⟨h1, h2⟩, h3⟩
                have h4 : d.nB = 256 := by omega
                have h5 : d.nW ≤ 4096 := by omega
                exact ⟨⟨⟨h4, h5⟩, (HFIN1.out h4).1 (by omega)⟩, (hfin2 h5).1 (by omega)⟩
            have HVV := Lib.hid hvv
            have hend : j = d.nW ∨ (j = 4097 ∧ (4097 : Int) < (d.nW : Int)) := by omega
            clear hlt hfin2 hvv hcn
            generalize u0 + cntN (pW d.ws) j = u at *
            obtain ⟨q1, hq1⟩ : ∃ q, q = (((u : Nat) : Int) == 0) := ⟨_, rfl⟩
            obtain ⟨q2, hq2⟩ : ∃ q, q = ((d.nB : Int) == 256) := ⟨_, rfl⟩
            have hv2 := HVV.out
            rw [← hq1, ← hq2] at hv2
            have HV2 := Lib.hid hv2
            have hq1' := hq1.symm
            have hq2' := hq2.symm
            clear hv2 HVV hq1 hq2
            rcases hend with rfl | ⟨rfl, hnw⟩
            all_goals
              cases q1
              all_goals
                cases q2
                all_goals
                  have hv3 := HV2.out
                  simp only [Bool.true_and, Bool.false_and, Bool.and_false] at hv3
                  go_wp2
                  try rw [← hv3]
                  go_ret
                  exact ⟨by rw [hv3]; rfl, HB.out⟩
theorem r_check (d : Dk) (w : World) (hd : d.ok w) (hB6 : (d.nB : Int) ≤ 1000000) (hW6 : (d.nW : Int) ≤ 1000000) (E : Int) (hE : E = if d.c.May then 0 else 8) :
    Calls Try.prog 27 #[d.v] w fun e w' => e = .returned (.int .i64 E) ∧ Below w.heap.size w w' := by
  have hx := DkBox.new w (.slice d.A d.nB d.cB) (.slice d.W d.nW d.cW)
  have hb := below_new' w (.cells #[.slice d.A d.nB d.cB, .slice d.W d.nW d.cW] 25)
  have hm := r_may d _ (hd.below hb) hB6 hW6 _ rfl
  have HM := Lib.hid hm
  have HB := Lib.hid hb
  have HE := Lib.hid hE
  clear hx hb hm hd hE
  simp only [Dk.v] at *
  go_enter Try.func27, Try.ntmps27
  go_wp2_with fail
  refine HM.out.mono ?_
  rintro e w2 ⟨rfl, b2⟩
  have HB2 := Lib.hid (below_to HB.out b2 HB.out.size)
  clear b2
  by_cases hm : d.c.May
  · obtain rfl : E = 0 := by rw [HE.out, if_pos hm]
    rw [decide_eq_true hm]
    go_wp2
    go_ret
    exact ⟨rfl, HB2.out⟩
  · obtain rfl : E = 8 := by rw [HE.out, if_neg hm]
    rw [decide_eq_false hm]
    go_wp2
    go_ret
    exact ⟨rfl, HB2.out⟩
theorem r_ask (d : Dk) (is : Bool) (w : World) (hd : d.ok w) (hB6 : (d.nB : Int) ≤ 1000000) (hW6 : (d.nW : Int) ≤ 1000000) (E : Int) (hE : E = errG d.c is) :
    Calls Try.prog 38 #[d.v, .bool is] w fun e w' => e = .returned (.int .i64 E) ∧ Below w.heap.size w w' := by
  have hx := DkBox.new w (.slice d.A d.nB d.cB) (.slice d.W d.nW d.cW)
  have hb := below_new' w (.cells #[.slice d.A d.nB d.cB, .slice d.W d.nW d.cW] 25)
  have hm := r_may d _ (hd.below hb) hB6 hW6 _ rfl
  have HM := Lib.hid hm
  have HB := Lib.hid hb
  have HE := Lib.hid hE
  clear hx hb hm hd hE
  simp only [Dk.v] at *
  go_enter Try.func38, Try.ntmps38
  go_wp2_with fail
  refine HM.out.mono ?_
  rintro e w2 ⟨rfl, b2⟩
  have HB2 := Lib.hid (below_to HB.out b2 HB.out.size)
  clear b2
  by_cases hm : d.c.May
  · rw [decide_eq_true hm]
    cases is with
    | true =>
      obtain rfl : E = 0 := by rw [HE.out, errG_ok hm]
      go_wp2
      go_ret
      exact ⟨rfl, HB2.out⟩
    | false =>
      obtain rfl : E = 2 := by rw [HE.out, errG_arg hm]
      go_wp2
      go_ret
      exact ⟨rfl, HB2.out⟩
  · obtain rfl : E = 8 := by rw [HE.out, errG_bad hm]
    rw [decide_eq_false hm]
    go_wp2
    go_ret
    exact ⟨rfl, HB2.out⟩
end Go.Proofs.Ytkaklppkmokffaa
