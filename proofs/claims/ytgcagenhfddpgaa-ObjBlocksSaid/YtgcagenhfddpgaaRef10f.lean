/-
  charterhouseref10: contract of Rows.
-/
import Derived.Test.YtgcagenhfddpgaaRef10e
import Derived.Test.YtgcagenhfddpgaaPtrRw
namespace Go.Proofs.Ytgcagenhfddpgaa
open Go.RowKit
set_option linter.unusedVariables false
set_option linter.unusedSimpArgs false
set_option maxRecDepth 100000

def rwK (l : List UInt8) (k : Nat) : List Pt := upto (fun j => rd16 (piece16 l j)) k
theorem rwK_step (l : List UInt8) (k : Nat) : rwK l (k + 1) = rwK l k ++ [rd16 (piece16 l k)] := upto_succ _ _
theorem rwK_at {l : List UInt8} {k i : Nat} (h : i < (rwK l k).length) : (rwK l k)[i] = rd16 (piece16 l i) := upto_get _ _ _ h
def QwR (l : List UInt8) (w : World) (v x : Value) (wr : World) : Prop :=
  ∃ (k d : Nat) (D : Option Addr), k ≤ 16 ∧ x = .int .i64 (k : Int) ∧ v = .slice D k d ∧ Fr wr w.heap.size 31 5 D k d (pcs (rwK l k)) ∧ (∀ i, i < k → (rd16 (piece16 l i)).May) ∧ Below w.heap.size w wr
set_option maxHeartbeats 4000000 in
theorem q_rows (A : Option Addr) (n c : Nat) (l : List UInt8) (w : World) (hl : l.length = n) (hc : n ≤ c) (hr : Rd w w.heap.size 1 A n (bvs l)) :
    Calls Try.prog 35 #[.slice A n c] w fun e w' => ∃ D d, e = .returned (.tuple #[.slice D (rowsP l).length d, .int .i64 (rowsE l)]) ∧ Fr w' w.heap.size 31 5 D (rowsP l).length d (pcs (rowsP l)) ∧ Below w.heap.size w w' := by
  by_cases h : (n : Int) = 256
  · obtain rfl : n = 256 := by omega
    obtain ⟨b, off, rfl, hbl, hcell⟩ := hr.2 (by omega)
    have HR := Lib.hid hr
    have HL := Lib.hid hl
    clear hr hcell hl h
    go_enter Try.func35, Try.ntmps35
    go_wp2
    go_loopw [4, 5] (fun v x wr => QwR l w v x wr) (fun _ x _ => 16 - (intOf x).toNat)
    case atStart => exact ⟨0, _, _, Nat.zero_le _, rfl, rfl, Fr.none_, fun i hi => absurd hi (Nat.not_lt_zero _), Below.refl _ _⟩
    case round =>
      obtain ⟨k, d, D, hk, rfl, rfl, hf, hm, hb⟩ := hrel
      by_cases hlt : k < 16
      · have h1 : (k : Int) < 16 := by omega
        have hrd : Rd wr wr.heap.size 1 (some ⟨b, off + 16 * k, none⟩) 16 (bvs (piece16 l k)) := by
          have h1 := ((HR.out.below hb).more hb.size).sub (16 * k) 16 (by omega)
          rwa [← bvs_drop, ← bvs_take] at h1
        have hpl : (piece16 l k).length = 16 := piece16_len (by have := HL.out; omega)
        obtain ⟨r, hrk⟩ : ∃ r, r = 16 * k := ⟨_, rfl⟩
        have hw1 : IntKind.i64.wrap (16 * (k : Int)) = (r : Int) := by rw [IntWalk.i64_in _ (by omega)]; omega
        have hr2 : (r : Int) + 16 ≤ (c : Int) := by omega
        have hr3 : 0 ≤ (r : Int) := by omega
        have hr4 : (r : Int) + 16 ≤ 256 := by omega
        have hr5 : ¬ c = r := by omega
        have hr6 : (r : Int) + 16 ≤ 9223372036854775807 := by omega
        rw [← hrk] at hrd
        have hst := rwK_step l k
        have HF := Lib.hid hf
        have HB := Lib.hid hb
        have HM := Lib.hid hm
        have HST := Lib.hid hst
        clear hrk hf hb hm hst
        by_cases hpm : (rd16 (piece16 l k)).May
        · have hP := readP_may hpl hpm
          have hE : readE (piece16 l k) = 0 := by rw [readE_16 hpl, Pt.chk_zero hpm]
          have hY := q_read_16 (some ⟨b, off + r, none⟩) (c - r) (piece16 l k) wr hpl (by omega) hrd
          rw [hP, hE] at hY
          simp only [Pt.v, Pt.cs] at hY
          have hmn : ∀ i, i < k + 1 → (rd16 (piece16 l i)).May := fun i hi => by
            by_cases hik : i < k
            · exact HM.out i hik
            · obtain rfl : i = k := by omega
              exact hpm
          have HMN := Lib.hid hmn
          have HY := Lib.hid hY
          clear hP hE hY hmn hpm hrd hpl HM HR HL
          generalize rd16 (piece16 l k) = p at *
          go_wp2_with fail
          refine HY.out.mono ?_
          rintro e w3 ⟨rfl, b3⟩
          have hf3 := HF.out.below b3 (Nat.le_refl _)
          have hb3 := below_to HB.out b3 HB.out.size
          have hx := PtBox.new w3 p
          obtain ⟨d0, d1, d2, d3, d4⟩ := hx.cells
          have hm2 := Rd.made2 w3 (.cells #[.int .i64 p.a, .int .u32 p.b, .int .u32 p.i, .int .u32 p.t, .int .u32 p.s] 31) 31 5 1 p.cs rfl
          have hf5 := (hf3.alloc (.cells #[.int .i64 p.a, .int .u32 p.b, .int .u32 p.i, .int .u32 p.t, .int .u32 p.s] 31)).alloc (.cells p.cs.toArray 31)
          have hb5 : Below w.heap.size w ((w3.alloc (.cells #[.int .i64 p.a, .int .u32 p.b, .int .u32 p.i, .int .u32 p.t, .int .u32 p.s] 31)).alloc (.cells p.cs.toArray 31)) := below_alloc (below_alloc hb3 _ (Nat.le_refl _)) _ (Nat.le_refl _)
          have HM2 := Lib.hid hm2
          have HF5 := Lib.hid hf5
          have HB5 := Lib.hid hb5
          clear hm2 hf5 hb5 hf3 hb3 hx b3 HY HF HB
          go_wp2_with (at_builtin; go_loud (refine wpList_append_to rfl (.tmp 29) (.tmp 31) rfl okP rfl HF5.out rfl HM2.out (by rw [← pcs_one_]; exact pcs_oneCell _) (k + 1) rfl (pcs (rwK l (k + 1))) (by rw [HST.out, pcs_app, pcs_one_]) (by unfold maxLen; omega) (by omega) HB5.out.size ?_); intro D4 d4' w4 f4 g4 _)
          have HB4 := Lib.hid (HB5.out.grown g4 HB5.out.size (fun g hg => (HF5.out.row g hg).1))
          have HF4 := Lib.hid f4
          clear f4 g4
          go_wp2
          go_roundw
          case rel => exact ⟨k + 1, _, _, by omega, by simp, rfl, HF4.out, HMN.out, HB4.out⟩
          case measure => simp [intOf]; omega
        · have hP := readP_bad hpm
          have hE : readE (piece16 l k) = 8 := by rw [readE_16 hpl, Pt.chk_bad hpm]
          have hY := q_read_16 (some ⟨b, off + r, none⟩) (c - r) (piece16 l k) wr hpl (by omega) hrd
          rw [hP, hE] at hY
          simp only [Pt.v, Pt.cs, Pt.zero] at hY
          have hnm : ¬ AllMay (rowsL l) := fun hh => hpm (by
            have hk' : k < (rowsL l).length := by rw [rowsL_len]; exact hlt
            have h2 := hh _ (List.getElem_mem hk')
            rwa [show (rowsL l)[k] = rd16 (piece16 l k) from rwK_at (l := l) (k := 16) hk'] at h2)
          have hEE := rowsE_bad HL.out hnm
          have hPP := rowsP_err (b := l) (by rw [hEE]; omega)
          have HEE := Lib.hid hEE
          have HPP := Lib.hid hPP
          have HY := Lib.hid hY
          clear hP hE hY hpm hrd hpl HM HR HL hnm hEE hPP HF HST
          go_wp2_with fail
          refine HY.out.mono ?_
          rintro e w3 ⟨rfl, b3⟩
          have HB3 := Lib.hid (below_alloc (below_to HB.out b3 HB.out.size) (.cells #[.int .i64 0, .int .u32 0, .int .u32 0, .int .u32 0, .int .u32 0] 31) (Nat.le_refl _))
          clear b3 HY HB
          go_wp2
          go_ret2
          rw [HEE.out, HPP.out]
          exact ⟨_, _, rfl, Fr.none_, HB3.out⟩
      · obtain rfl : k = 16 := by omega
        have hall : AllMay (rowsL l) := by
          intro p hp
          obtain ⟨i, hi, rfl⟩ := List.mem_iff_getElem.1 hp
          have hi' : i < (rwK l 16).length := hi
          rw [show (rowsL l)[i] = rd16 (piece16 l i) from rwK_at hi']
          rw [rwK, upto_length] at hi'
          exact hm i hi'
        have HEE := Lib.hid (rowsE_may HL.out hall)
        have HPP := Lib.hid (rowsP_may HL.out hall)
        have HLL := Lib.hid (rowsL_len l)
        have HF := Lib.hid (show Fr wr w.heap.size 31 5 D 16 d (pcs (rowsL l)) from hf)
        have HB := Lib.hid hb
        clear hf hb hm hall HR HL
        go_wp2
        go_ret2
        rw [HEE.out, HPP.out, HLL.out]
        exact ⟨_, _, rfl, HF.out, HB.out⟩
  · have hE := rowsE_len (b := l) (by omega)
    have hP := rowsP_err (b := l) (by rw [hE]; omega)
    rw [hE, hP]
    clear hE hP hr
    go_enter Try.func35, Try.ntmps35
    go_wp2
    go_ret2
    exact ⟨_, _, rfl, Fr.none_, Below.refl _ _⟩
end Go.Proofs.Ytgcagenhfddpgaa
