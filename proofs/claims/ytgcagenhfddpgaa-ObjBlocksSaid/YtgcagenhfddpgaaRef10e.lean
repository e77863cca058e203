/-
  charterhouseref10: contracts of Packed, Row.
-/
import Derived.Test.YtgcagenhfddpgaaRef10d
import Derived.Test.YtgcagenhfddpgaaPtrRow
namespace Go.Proofs.Ytgcagenhfddpgaa
open Go.RowKit
set_option linter.unusedVariables false
set_option linter.unusedSimpArgs false
set_option maxRecDepth 100000

/-- The pointer at a place of a row. -/
def ptAt (l : List Pt) (k : Nat) : Pt := l.getD k Pt.zero
theorem ptAt_lt {l : List Pt} {k : Nat} (h : k < l.length) : ptAt l k = l[k] := by simp [ptAt, List.getD_eq_getElem?_getD, List.getElem?_eq_getElem h]
theorem ptAt_ge {l : List Pt} {k : Nat} (h : ¬ k < l.length) : ptAt l k = Pt.zero := by simp [ptAt, List.getD_eq_getElem?_getD, List.getElem?_eq_none (Nat.le_of_not_lt h)]
theorem ptAt_may {l : List Pt} (h : AllMay l) (k : Nat) : (ptAt l k).May := by
  by_cases hk : k < l.length
  · rw [ptAt_lt hk]; exact h _ (List.getElem_mem hk)
  · rw [ptAt_ge hk]; exact Pt.zero_may
theorem ptAt_U {l : List Pt} (h : AllU l) (k : Nat) : (ptAt l k).U := by
  by_cases hk : k < l.length
  · rw [ptAt_lt hk]; exact h _ (List.getElem_mem hk)
  · rw [ptAt_ge hk]; exact Pt.zero_U
def rowK (l : List Pt) (k : Nat) : List UInt8 := joined (upto (ptAt l) k)
theorem rowK_len (l : List Pt) (k : Nat) : (rowK l k).length = 16 * k := by rw [rowK, joined_len, upto_length]
theorem rowK_step (l : List Pt) (k : Nat) : rowK l k ++ (ptAt l k).bytes = rowK l (k + 1) := by
  rw [rowK, rowK, upto_succ, joined_app]
  simp [joined]
theorem rowK_all {l : List Pt} (h : l.length ≤ 16) : rowK l 16 = rowL l := by
  unfold rowK rowL
  congr 1
  apply List.ext_getElem
  · rw [upto_length, List.length_append, holes, List.length_replicate]; omega
  · intro i h1 h2
    rw [upto_get]
    by_cases hi : i < l.length
    · rw [ptAt_lt hi, List.getElem_append_left hi]
    · rw [ptAt_ge hi, List.getElem_append_right (by omega)]
      simp [holes]
def PkR (l : List Pt) (w : World) (v x : Value) (wr : World) : Prop :=
  ∃ (k c : Nat) (A : Option Addr), k ≤ 16 ∧ x = .int .i64 (k : Int) ∧ v = .slice A (16 * k) c ∧ Fr wr w.heap.size 5 1 A (16 * k) c (bvs (rowK l k)) ∧ Below w.heap.size w wr
set_option maxHeartbeats 4000000 in
theorem q_packed (A : Option Addr) (n c : Nat) (l : List Pt) (w : World) (hl : l.length = n) (hn : (n : Int) ≤ 16) (hU : AllU l) (hM : AllMay l) (hr : Rd w w.heap.size 5 A n (pcs l)) :
    Calls Try.prog 59 #[.slice A n c] w fun e w' => ∃ D d, e = .returned (.slice D 256 d) ∧ Fr w' w.heap.size 5 1 D 256 d (bvs (rowL l)) ∧ Below w.heap.size w w' := by
  have hmk := fun W => run_mkRoom okB .i64 .i64 W
  have hf0 : Fr (w.alloc (.cells (bvs (noughts 256)).toArray 5)) w.heap.size 5 1 (some ⟨w.heap.size, 0, none⟩) 0 256 (bvs (rowK l 0)) := by
    have h := (fr_mkN w 5 256 (by omega) (Nat.le_refl _)).take (k := 0) (Nat.zero_le _)
    rw [Nat.zero_mul, List.take_zero] at h
    exact h
  have hb0 : Below w.heap.size w (w.alloc (.cells (bvs (noughts 256)).toArray 5)) := (Below.refl _ w).alloc (Nat.le_refl _) _
  have HF := Lib.hid hf0
  have HB := Lib.hid hb0
  have HU := Lib.hid hU
  have HMA := Lib.hid hM
  clear hf0 hb0 hU hM
  go_enter Try.func59, Try.ntmps59
  go_wp2
  clear hmk
  generalize w.alloc (.cells (bvs (noughts 256)).toArray 5) = w1 at *
  go_loopw [3, 4] (fun v x wr => PkR l w v x wr) (fun _ x _ => 16 - (intOf x).toNat)
  case atStart => exact ⟨0, _, _, Nat.zero_le _, rfl, rfl, HF.out, HB.out⟩
  case round =>
    clear HF HB
    obtain ⟨k, kc, KA, hk, rfl, rfl, hf, hb⟩ := hrel
    by_cases hlt : k < 16
    · have h1 : (k : Int) < 16 := by omega
      have hst := rowK_step l k
      have hkl := rowK_len l k
      have HS := Lib.hid hst
      have hx := Box5.new wr 31 (.int .i64 0) (.int .u32 0) (.int .u32 0) (.int .u32 0) (.int .u32 0)
      obtain ⟨d0, d1, d2, d3, d4⟩ := hx.cells
      have hY := fun V => q_pbytes (ptAt l k) (ptAt_may HMA.out k) (ptAt_U HU.out k) V
      have HF := Lib.hid hf
      have HB := Lib.hid hb
      by_cases hki : (k : Int) < (n : Int)
      · have hkn : k < n := by omega
        have hpa := ptAt_lt (l := l) (k := k) (by omega)
        obtain ⟨b, off, rfl, hbb, c0, c1, c2, c3, c4⟩ := (hr.below hb).at5 hkn hl
        rw [← hpa] at c0 c1 c2 c3 c4
        have h0 : ¬ ((k : Int) < 0) := by omega
        have hbw : b < wr.heap.size := by have := hb.size; omega
        clear hpa hst hf hb hr HU HMA hkl
        generalize ptAt l k = p at *
        have HY := Lib.hid hY
        have HX := Lib.hid hx
        obtain ⟨e0, e1, e2, e3, e4⟩ := hx.five (.int .i64 p.a) (.int .u32 p.b) (.int .u32 p.i) (.int .u32 p.t) (.int .u32 p.s)
        clear hY hx
        go_wp2_with fail
        refine (HY.out _).mono ?_
        rintro e w3 ⟨A3, c3', rfl, f3, b3⟩
        have hf3 := (HF.out.alloc (.cells #[.int .i64 p.a, .int .u32 p.b, .int .u32 p.i, .int .u32 p.t, .int .u32 p.s] 31)).below b3 (Nat.le_refl _)
        have hb3 := below_to (below_to HB.out (below_new wr _) HB.out.size) b3 (by rw [World.size_alloc]; have := HB.out.size; omega)
        have HF3 := Lib.hid hf3
        have HR3 := Lib.hid f3.rd
        have HB3 := Lib.hid hb3
        clear hf3 hb3 f3 b3 HY HF HB HX e0 e1 e2 e3 e4 d0 d1 d2 d3 d4 c0 c1 c2 c3 c4
        go_wp2_with (at_builtin; refine wpList_append_to rfl (.tmp 20) (.tmp 22) rfl okB rfl HF3.out rfl HR3.out (bvs_one _) (16 * (k + 1)) (by omega) (bvs (rowK l (k + 1))) (by rw [← HS.out, bvs_app]) (by unfold maxLen; omega) (by omega) HB3.out.size ?_; intro D4 d4 w4 f4 g4 _)
        have HB4 := Lib.hid (HB3.out.grown g4 HB3.out.size (fun g hg => (HF3.out.row g hg).1))
        have HF4 := Lib.hid f4
        clear f4 g4
        go_wp2
        go_roundw
        case rel => exact ⟨k + 1, _, _, by omega, by simp, rfl, HF4.out, HB4.out⟩
        case measure => simp [intOf]; omega
      · have hpa := ptAt_ge (l := l) (k := k) (by omega)
        rw [hpa] at hY HS
        have HY := Lib.hid hY
        clear hpa hst hf hb hr HU HMA hkl hY hx
        go_wp2_with fail
        refine (HY.out _).mono ?_
        rintro e w3 ⟨A3, c3', rfl, f3, b3⟩
        have hf3 := (HF.out.alloc (.cells #[.int .i64 Pt.zero.a, .int .u32 Pt.zero.b, .int .u32 Pt.zero.i, .int .u32 Pt.zero.t, .int .u32 Pt.zero.s] 31)).below b3 (Nat.le_refl _)
        have hb3 := below_to (below_to HB.out (below_new wr _) HB.out.size) b3 (by rw [World.size_alloc]; have := HB.out.size; omega)
        have HF3 := Lib.hid hf3
        have HR3 := Lib.hid f3.rd
        have HB3 := Lib.hid hb3
        clear hf3 hb3 f3 b3 HY HF HB d0 d1 d2 d3 d4
        go_wp2_with (at_builtin; refine wpList_append_to rfl (.tmp 20) (.tmp 22) rfl okB rfl HF3.out rfl HR3.out (bvs_one _) (16 * (k + 1)) (by omega) (bvs (rowK l (k + 1))) (by rw [← HS.out, bvs_app]) (by unfold maxLen; omega) (by omega) HB3.out.size ?_; intro D4 d4 w4 f4 g4 _)
        have HB4 := Lib.hid (HB3.out.grown g4 HB3.out.size (fun g hg => (HF3.out.row g hg).1))
        have HF4 := Lib.hid f4
        clear f4 g4
        go_wp2
        go_roundw
        case rel => exact ⟨k + 1, _, _, by omega, by simp, rfl, HF4.out, HB4.out⟩
        case measure => simp [intOf]; omega
    · obtain rfl : k = 16 := by omega
      rw [rowK_all (by omega)] at hf
      have HF := Lib.hid hf
      have HB := Lib.hid hb
      clear hf hb
      go_wp2
      go_ret
      exact ⟨_, _, rfl, HF.out, HB.out⟩
def QrR (l : List Pt) (w : World) (x : Value) (wr : World) : Prop :=
  ∃ k : Nat, k ≤ l.length ∧ x = .int .i64 (k : Int) ∧ (∀ i, i < k → (ptAt l i).May) ∧ Below w.heap.size w wr
set_option maxHeartbeats 4000000 in
theorem q_row (A : Option Addr) (n c : Nat) (l : List Pt) (w : World) (hl : l.length = n) (hU : AllU l) (hr : Rd w w.heap.size 5 A n (pcs l)) :
    Calls Try.prog 34 #[.slice A n c] w fun e w' => ∃ D d, e = .returned (.tuple #[.slice D (rowB l).length d, .int .i64 (rowE l)]) ∧ Fr w' w.heap.size 5 1 D (rowB l).length d (bvs (rowB l)) ∧ Below w.heap.size w w' := by
  by_cases h : 16 < (n : Int)
  · have hE := rowE_many (l := l) (by omega)
    have hB := rowB_err (l := l) (by rw [hE]; omega)
    rw [hE, hB]
    clear hE hB
    go_enter Try.func34, Try.ntmps34
    go_wp2
    go_ret2
    exact ⟨_, _, rfl, Fr.none_, Below.refl _ _⟩
  · have HU := Lib.hid hU
    clear hU
    go_enter Try.func34, Try.ntmps34
    go_wp2
    go_loopw [4] (fun x wr => QrR l w x wr) (fun x _ => n - (intOf x).toNat)
    case atStart => exact ⟨0, Nat.zero_le _, rfl, fun i hi => absurd hi (Nat.not_lt_zero _), Below.refl _ _⟩
    case round =>
      obtain ⟨k, hk, rfl, hm, hb⟩ := hrel
      by_cases hlt : k < n
      · have hkl : k < l.length := by omega
        have hpa := ptAt_lt (l := l) (k := k) (by omega)
        obtain ⟨b, off, rfl, hbb, c0, c1, c2, c3, c4⟩ := (hr.below hb).at5 hlt hl
        rw [← hpa] at c0 c1 c2 c3 c4
        have h0 : ¬ ((k : Int) < 0) := by omega
        have h1 : (k : Int) < (n : Int) := by omega
        have HB := Lib.hid hb
        by_cases hpm : (ptAt l k).May
        · have hms : ∀ i, i < k + 1 → (ptAt l i).May := fun i hi => by
            by_cases hik : i < k
            · exact hm i hik
            · obtain rfl : i = k := by omega
              exact hpm
          have HMS := Lib.hid hms
          have hY := fun V => q_may (ptAt l k) true (decide_eq_true hpm) V
          clear hpa hms hm hb hr hpm HU
          generalize ptAt l k = p at *
          have HY := Lib.hid hY
          clear hY
          go_wp2_with fail
          refine (HY.out _).mono ?_
          rintro e w3 ⟨rfl, b3⟩
          have HB3 := Lib.hid (below_to HB.out b3 HB.out.size)
          clear b3 HY c0 c1 c2 c3 c4
          go_wp2
          go_roundw
          case rel => exact ⟨k + 1, by omega, by simp, HMS.out, HB3.out⟩
          case measure => simp [intOf]; omega
        · have hE : rowE l = 8 := rowE_bad (by omega) (fun h => hpm (ptAt_may h k))
          have hB := rowB_err (l := l) (by rw [hE]; omega)
          have HEE := Lib.hid hE
          have HBB := Lib.hid hB
          have hY := fun V => q_may (ptAt l k) false (decide_eq_false hpm) V
          clear hpa hm hb hr hpm HU hE hB
          generalize ptAt l k = p at *
          have HY := Lib.hid hY
          clear hY
          go_wp2_with fail
          refine (HY.out _).mono ?_
          rintro e w3 ⟨rfl, b3⟩
          have HB3 := Lib.hid (below_to HB.out b3 HB.out.size)
          clear b3 HY c0 c1 c2 c3 c4
          go_wp2
          go_ret2
          rw [HEE.out, HBB.out]
          exact ⟨_, _, rfl, Fr.none_, HB3.out⟩
      · obtain rfl : k = n := by omega
        have hall : AllMay l := by
          intro p hp
          obtain ⟨i, hi, rfl⟩ := List.mem_iff_getElem.1 hp
          rw [← ptAt_lt hi]
          exact hm i (by omega)
        have hE : rowE l = 0 := rowE_may (by omega) hall
        have hB := rowB_may (l := l) (by omega) hall
        have hBl := rowL_len (l := l) (by omega)
        have HEE := Lib.hid hE
        have HBB := Lib.hid hB
        have HLL := Lib.hid hBl
        have hP := q_packed A k c l wr hl (by omega) HU.out hall ((hr.below hb).more hb.size)
        have HP := Lib.hid hP
        have HB := Lib.hid hb
        clear hall hE hB hBl hP hm hb hr HU
        go_wp2_with fail
        refine HP.out.mono ?_
        rintro e w3 ⟨D, d, rfl, f3, b3⟩
        have HF3 := Lib.hid (f3.mono HB.out.size)
        have HB3 := Lib.hid (below_to HB.out b3 HB.out.size)
        clear f3 b3 HP HB
        go_wp2
        go_ret2
        rw [HEE.out, HBB.out, HLL.out]
        exact ⟨_, _, rfl, HF3.out, HB3.out⟩
end Go.Proofs.Ytgcagenhfddpgaa
