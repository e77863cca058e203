/-
  Contract of charterhouseref09.Same.
-/
import Derived.Test.YtkaklppkmokffaaLaw09b
import Derived.Test.YtkaklppkmokffaaDevS
import Derived.BigQuiet
namespace Go.Proofs.Ytkaklppkmokffaa
open Go.RowKit
set_option linter.unusedVariables false
set_option linter.unusedSimpArgs false
set_option maxRecDepth 100000
attribute [local go_sem] str_toList toList_mk

/-- How many of the first k are not so. -/
def cntN (p : Nat → Bool) : Nat → Nat
  | 0 => 0
  | k + 1 => cntN p k + if p k = true then 0 else 1
theorem cntN_le (p : Nat → Bool) : ∀ k, cntN p k ≤ k
  | 0 => Nat.le_refl _
  | k + 1 => by
    have := cntN_le p k
    unfold cntN
    split <;> omega
theorem cntN_zero (p : Nat → Bool) : ∀ k, cntN p k = 0 ↔ ∀ i, i < k → p i = true
  | 0 => by simp [cntN]
  | k + 1 => by
    have ih := cntN_zero p k
    unfold cntN
    constructor
    · intro h i hi
      split at h
      · rename_i hp
        by_cases e : i = k
        · rw [e]; exact hp
        · exact ih.1 (by omega) i (by omega)
      · omega
    · intro h
      rw [if_pos (h k (Nat.lt_succ_self _)), ih.2 (fun i hi => h i (by omega))]
def blkEq (a b : List Sl) (i : Nat) : Bool := decide ((a[i]?).map Sl.l = (b[i]?).map Sl.l)
def wtEq (a b : List Wt) (i : Nat) : Bool := decide ((a[i]?).map Wt.c = (b[i]?).map Wt.c)
theorem all_eq {α β : Type} [DecidableEq β] (f : α → β) {a b : List α} (hl : a.length = b.length) : (∀ i, i < a.length → decide ((a[i]?).map f = (b[i]?).map f) = true) ↔ a.map f = b.map f := by
  constructor
  · intro h
    apply List.ext_getElem?
    intro i
    rw [List.getElem?_map, List.getElem?_map]
    by_cases hi : i < a.length
    · exact of_decide_eq_true (h i hi)
    · rw [List.getElem?_eq_none (by omega), List.getElem?_eq_none (by omega)]
  · intro h i hi
    rw [decide_eq_true_eq, ← List.getElem?_map, ← List.getElem?_map, h]
def SaR (p : Nat → Bool) (u0 n : Nat) (V : World) (q x : Value) (wr : World) : Prop :=
  ∃ k : Nat, k ≤ n ∧ x = .int .i64 (k : Int) ∧ q = .int .i64 ((u0 + cntN p k : Nat) : Int) ∧ Below V.heap.size V wr
set_option maxHeartbeats 4000000 in
theorem r_same (d o : Dk) (w : World) (hd : d.ok w) (ho : o.ok w) (hB6 : (d.nB : Int) ≤ 1000000) (hW6 : (d.nW : Int) ≤ 1000000) (hB7 : (o.nB : Int) ≤ 1000000) (hW7 : (o.nW : Int) ≤ 1000000) (v : Bool) (hv : v = decide (d.c = o.c)) :
    Calls Try.prog 20 #[d.v, o.v] w fun e w' => e = .returned (.bool v) ∧ Below w.heap.size w w' := by
  obtain ⟨w2, hw2⟩ : ∃ V, V = (w.alloc (.cells #[.slice d.A d.nB d.cB, .slice d.W d.nW d.cW] 25)).alloc (.cells #[.slice o.A o.nB o.cB, .slice o.W o.nW o.cW] 25) := ⟨_, rfl⟩
  have hb2 : Below w.heap.size w w2 := by rw [hw2]; exact (below_new' w _).alloc (by simp) _
  have hx : DkBox w2 w.heap.size (.slice d.A d.nB d.cB) (.slice d.W d.nW d.cW) := by rw [hw2]; exact (DkBox.new w _ _).alloc _
  have hy : DkBox w2 (w.heap.size + 1) (.slice o.A o.nB o.cB) (.slice o.W o.nW o.cW) := by
    rw [hw2]
    have := DkBox.new (w.alloc (.cells #[.slice d.A d.nB d.cB, .slice d.W d.nW d.cW] 25)) (.slice o.A o.nB o.cB) (.slice o.W o.nW o.cW)
    rw [World.size_alloc] at this
    exact this
  have hbl : d.nB = o.nB → (cntN (blkEq d.bs o.bs) d.nB = 0 ↔ d.bs.map Sl.l = o.bs.map Sl.l) := fun e => by
    rw [cntN_zero, ← hd.lb]
    exact all_eq Sl.l (by rw [hd.lb, ho.lb, e])
  have hwl : d.nW = o.nW → (cntN (wtEq d.ws o.ws) d.nW = 0 ↔ d.ws.map Wt.c = o.ws.map Wt.c) := fun e => by
    rw [cntN_zero, ← hd.lw]
    exact all_eq Wt.c (by rw [hd.lw, ho.lw, e])
  have hne : (¬ d.nB = o.nB ∨ ¬ d.nW = o.nW) → v = false := by
    intro h
    rw [hv, decide_eq_false_iff_not, c_eq]
    rintro ⟨h1, h2⟩
    have e1 := congrArg List.length h1
    have e2 := congrArg List.length h2
    simp only [List.length_map, hd.lw, ho.lw, hd.lb, ho.lb] at e1 e2
    omega
  have HX := Lib.hid hx
  have HY := Lib.hid hy
  have HB2 := Lib.hid hb2
  have HBL := Lib.hid hbl
  have HWL := Lib.hid hwl
  have HV := Lib.hid hv
  have HD := Lib.hid (hd.below hb2)
  have HO := Lib.hid (ho.below hb2)
  have HNE := Lib.hid hne
  have HW2 := Lib.hid hw2
  clear hx hy hb2 hbl hwl hv hd ho hne hw2
  simp only [Dk.v] at *
  obtain ⟨x0, x1⟩ := HX.out.cells
  obtain ⟨y0, y1⟩ := HY.out.cells
  rw [HW2.out] at x0 x1 y0 y1
  by_cases e1 : d.nB = o.nB
  · have e1' : ((d.nB : Int) != (o.nB : Int)) = false := by simp [e1]
    by_cases e2 : d.nW = o.nW
    · have e2' : ((d.nW : Int) != (o.nW : Int)) = false := by simp [e2]
      have HE1 := Lib.hid e1
      have HE2 := Lib.hid e2
      clear e1 e2
      go_enter Try.func20, Try.ntmps20
      go_wp2
      rw [← HW2.out]
      clear x0 x1 y0 y1 e1' e2'
      go_loopw [5, 6] (fun q x wr => SaR (blkEq d.bs o.bs) 0 d.nB w2 q x wr) (fun _ x _ => d.nB - (intOf x).toNat)
      case atStart => exact ⟨0, Nat.zero_le _, rfl, rfl, Below.refl _ _⟩
      case round =>
        obtain ⟨k, hk, rfl, rfl, hbr⟩ := hrel
        have hx := HX.out.below hbr HX.out.lt
        have hy := HY.out.below hbr HY.out.lt
        obtain ⟨x0, x1⟩ := hx.cells
        obtain ⟨y0, y1⟩ := hy.cells
        have HBR := Lib.hid hbr
        clear hx hy hbr
        by_cases hlt : k < d.nB
        · obtain ⟨s, bb, ob, hA, hbb, hc, hs, hsb, hsg⟩ := (HD.out.below HBR.out).block hlt
          obtain ⟨s', bb', ob', hA', hbb', hc', hs', hsb', hsg'⟩ := (HO.out.below HBR.out).block (k := k) (by rw [← HE1.out]; exact hlt)
          rw [hA] at x0
          rw [hA'] at y0
          have cv := fun m => conv (hs.2.1.drewN m) s.c
          have cv' := fun m => conv (hs'.2.1.drewN m) s'.c
          have h0 : ¬ ((k : Int) < 0) := by omega
          have h1 : (k : Int) < (d.nB : Int) := by omega
          have h2 : (k : Int) < (o.nB : Int) := by have := HE1.out; omega
          have hcn := cntN_le (blkEq d.bs o.bs) k
          have hst : cntN (blkEq d.bs o.bs) (k + 1) = cntN (blkEq d.bs o.bs) k + if s.l = s'.l then 0 else 1 := by
            rw [cntN]
            unfold blkEq
            rw [hsg, hsg']
            simp
          have HST := Lib.hid hst
          clear hA hbb hs hsb hsg hA' hbb' hs' hsb' hsg' hst
          generalize cntN (blkEq d.bs o.bs) k = u at *
          by_cases hq : s.l = s'.l
          · have hq2 : (s.l == s'.l) = true := by simp [hq]
            have HQ := Lib.hid hq
            clear hq
            go_wp2
            go_quiet (fail)
            go_wp2
            go_roundw
            case rel => exact ⟨k + 1, by omega, by simp, by rw [HST.out, if_pos HQ.out]; simp, below_drewN HBR.out _⟩
            case measure => simp [intOf]; omega
          · have hq2 : (s.l == s'.l) = false := by simp [hq]
            have HQ := Lib.hid hq
            clear hq
            go_wp2
            go_quiet (fail)
            go_wp2
            go_roundw
            case rel => exact ⟨k + 1, by omega, by simp, by rw [HST.out, if_neg HQ.out]; simp, below_drewN HBR.out _⟩
            case measure => simp [intOf]; omega
        · obtain rfl : k = d.nB := by omega
          have hu := cntN_le (blkEq d.bs o.bs) d.nB
          obtain ⟨u0, hu0⟩ : ∃ u0, u0 = 0 + cntN (blkEq d.bs o.bs) d.nB := ⟨_, rfl⟩
          rw [← hu0]
          have HU0 := Lib.hid hu0
          have hu9 : (u0 : Int) ≤ 1000000 := by omega
          clear hu0 hu
          obtain ⟨V2, rfl⟩ : ∃ V : World, V = wr := ⟨_, rfl⟩
          go_wp2
          clear x0 x1 y0 y1
          go_loopw [5, 7] (fun q x wr => SaR (wtEq d.ws o.ws) u0 d.nW V2 q x wr) (fun _ x _ => d.nW - (intOf x).toNat)
          case atStart => exact ⟨0, Nat.zero_le _, rfl, rfl, Below.refl _ _⟩
          case round =>
            obtain ⟨j, hj, rfl, rfl, hbj⟩ := hrel
            have hbw := below_to HBR.out hbj HBR.out.size
            have hx := HX.out.below hbw HX.out.lt
            have hy := HY.out.below hbw HY.out.lt
            obtain ⟨x0, x1⟩ := hx.cells
            obtain ⟨y0, y1⟩ := hy.cells
            have hxl := hx.lt
            have hyl := hy.lt
            have HBJ := Lib.hid hbj
            have HBW := Lib.hid hbw
            have hcn := cntN_le (wtEq d.ws o.ws) j
            clear hx hy hbj hbw
            by_cases hlt : j < d.nW
            · obtain ⟨x, b2, off2, hW, hb2, c0, c1, hxs, hxa, hcw⟩ := (HD.out.below HBW.out).write_ hlt
              obtain ⟨y, b3, off3, hW', hb3, e0, e1, hys, hya, hcw'⟩ := (HO.out.below HBW.out).write_ (k := j) (by rw [← HE2.out]; exact hlt)
              rw [hW] at x1
              rw [hW'] at y1
              have hbn : Below wr.heap.size wr ((wr.alloc (.cells #[.int .i64 x.a, .slice x.s.A x.s.n x.s.c] 54)).alloc (.cells #[.int .i64 y.a, .slice y.s.A y.s.n y.s.c] 54)) := (below_new' wr _).alloc (by simp) _
              have cv := conv (hxs.below hbn).2.1 x.s.c
              have cv' := conv (hys.below hbn).2.1 y.s.c
              have HBN := Lib.hid (below_to HBJ.out hbn HBJ.out.size)
              have h0 : ¬ ((j : Int) < 0) := by omega
              have h1 : (j : Int) < (d.nW : Int) := by omega
              have h2 : (j : Int) < (o.nW : Int) := by have := HE2.out; omega
              have hst : cntN (wtEq d.ws o.ws) (j + 1) = cntN (wtEq d.ws o.ws) j + if x.a = y.a ∧ x.s.l = y.s.l then 0 else 1 := by
                rw [cntN]
                unfold wtEq
                rw [← List.getElem?_map, ← List.getElem?_map, show (d.ws.map Wt.c)[j]? = _ from hcw, show (o.ws.map Wt.c)[j]? = _ from hcw']
                simp
              have HST := Lib.hid hst
              clear hW hxs hxa hcw hW' hys hya hcw' hst hbn
              generalize cntN (wtEq d.ws o.ws) j = u at *
              by_cases ha : x.a = y.a
              · have ha2 : (x.a != y.a) = false := by simp [ha]
                by_cases hq : x.s.l = y.s.l
                · have hq2 : (x.s.l == y.s.l) = true := by simp [hq]
                  have HQ := Lib.hid (And.intro ha hq)
                  clear hq ha
                  go_wp2
                  go_roundw
                  case rel => exact ⟨j + 1, by omega, by simp, by rw [HST.out, if_pos HQ.out]; rfl, HBN.out⟩
                  case measure => simp [intOf]; omega
                · have hq2 : (x.s.l == y.s.l) = false := by simp [hq]
                  have HQ := Lib.hid (fun h : x.a = y.a ∧ x.s.l = y.s.l => hq h.2)
                  clear hq ha
                  go_wp2
                  go_roundw
                  case rel => exact ⟨j + 1, by omega, by simp, by rw [HST.out, if_neg HQ.out]; simp; omega, HBN.out⟩
                  case measure => simp [intOf]; omega
              · have ha2 : (x.a != y.a) = true := by simp [ha]
                have HQ := Lib.hid (fun h : x.a = y.a ∧ x.s.l = y.s.l => ha h.1)
                clear ha cv cv'
                go_wp2
                go_roundw
                case rel => exact ⟨j + 1, by omega, by simp, by rw [HST.out, if_neg HQ.out]; simp; omega, HBN.out⟩
                case measure => simp [intOf]; omega
            · obtain rfl : j = d.nW := by omega
              have hvv : (((u0 + cntN (wtEq d.ws o.ws) d.nW : Nat) : Int) == 0) = v := by
                rw [HV.out, Bool.eq_iff_iff, decide_eq_true_eq, c_eq, ← HWL.out HE2.out, ← HBL.out HE1.out]
                have := HU0.out
                simp
                omega
              have HVV := Lib.hid hvv
              have HBF := Lib.hid (below_to HB2.out HBW.out HB2.out.size)
              clear hvv hcn
              generalize u0 + cntN (wtEq d.ws o.ws) d.nW = u at *
              go_wp2
              rw [HVV.out]
              go_ret
              exact ⟨rfl, HBF.out⟩
    · have e2' : ((d.nW : Int) != (o.nW : Int)) = true := by simp; omega
      obtain rfl := HNE.out (.inr e2)
      clear e1 e2
      go_enter Try.func20, Try.ntmps20
      go_wp2
      rw [← HW2.out]
      go_ret
      exact ⟨rfl, HB2.out⟩
  · have e1' : ((d.nB : Int) != (o.nB : Int)) = true := by simp; omega
    obtain rfl := HNE.out (.inl e1)
    clear e1
    go_enter Try.func20, Try.ntmps20
    go_wp2
    rw [← HW2.out]
    go_ret
    exact ⟨rfl, HB2.out⟩
end Go.Proofs.Ytkaklppkmokffaa
