/-
  Contracts of package dev: cut.
-/
import Derived.Test.YtkaklppkmokffaaDevC
namespace Go.Proofs.Ytkaklppkmokffaa
open Go.RowKit
set_option linter.unusedVariables false
set_option linter.unusedSimpArgs false
set_option maxRecDepth 100000

def lensV (ls : List (List UInt8)) : List Value := ls.map fun l => .int .i64 (l.length : Int)
def CuR1 (ls : List (List UInt8)) (w : World) (o x : Value) (wr : World) : Prop := ∃ k : Nat, k ≤ ls.length ∧ x = .int .i64 (k : Int) ∧ o = .int .i64 (offL ls k : Int) ∧ w = wr
def CuR2 (ls : List (List UInt8)) (g : Nat) (w1 : World) (o h x : Value) (wr : World) : Prop :=
  ∃ (k : Nat) (ps : List Sl) (D : Option Addr) (d : Nat) (A : Option Addr) (r : Nat), k ≤ ls.length ∧ x = .int .i64 (k : Int) ∧ o = .slice D k d ∧ h = .slice A r r ∧ r + offL ls k = ls.flatten.length ∧ (0 < r → A = some ⟨g, offL ls k, none⟩) ∧
    Laid g ls k ps ∧ Fr wr (g + 1) 41 1 D k d (ps.map Sl.v) ∧ Below (g + 1) w1 wr
set_option maxHeartbeats 1000000 in
theorem d_cut (A : Option Addr) (n c : Nat) (ls : List (List UInt8)) (w : World) (hl : ls.length = n) (hr : Rd w w.heap.size 1 A n (lensV ls)) (hn : (n : Int) ≤ 1000000) (htot : (ls.flatten.length : Int) ≤ 1000000000) :
    Calls Try.prog 51 #[.slice A n c] w fun e w' => ∃ D d ps, e = .returned (.slice D n d) ∧ Laid w.heap.size ls n ps ∧ Fr w' (w.heap.size + 1) 41 1 D n d (ps.map Sl.v) ∧
      w'.heap[w.heap.size]? = some (.cells (bvs (List.replicate ls.flatten.length 0)).toArray 5 (0, 0)) ∧ Below w.heap.size w w' := by
  have HR := Lib.hid hr
  clear hr
  have hle := fun k => offL_le ls k
  have hall := offL_all ls
  rw [hl] at hall
  generalize hT : ls.flatten.length = T at *
  have HT := Lib.hid hT
  have HLE := Lib.hid hle
  clear hT
  have hmk := run_mkB (P := Try.prog) okB .i64 .i64 T (by omega) w
  have HALL := Lib.hid hall
  have HMK := Lib.hid hmk
  clear hle hall hmk
  go_enter Try.func51, Try.ntmps51
  go_wp2
  go_loopw [3, 11] (fun o x wr => CuR1 ls w o x wr) (fun _ x _ => n - (intOf x).toNat)
  case atStart => exact ⟨0, Nat.zero_le _, rfl, rfl, rfl⟩
  case round =>
    obtain ⟨k, hk, rfl, rfl, rfl⟩ := hrel
    by_cases hlt : k < n
    · obtain ⟨b, off, u, rfl, hbb, hu, hc⟩ := HR.out.at_ hlt
      have hkl : k < ls.length := by omega
      have hu2 : u = .int .i64 ((ls[k]).length : Int) := by
        rw [lensV, List.getElem?_map, List.getElem?_eq_getElem hkl] at hu
        exact (Option.some.inj hu).symm
      subst hu2
      have hs := offL_step hkl
      have hb1 := HLE.out (k + 1)
      have HS := Lib.hid hs
      have h0 : ¬ ((k : Int) < 0) := by omega
      have h1 : (k : Int) < (n : Int) := by omega
      rw [hs] at hb1
      clear hu hs
      generalize (ls[k]).length = m at *
      generalize offL ls k = N at *
      go_wp2
      go_roundw
      case rel => exact ⟨k + 1, by omega, rfl, by rw [HS.out]; simp, rfl⟩
      case measure => simp [intOf]; omega
    · obtain rfl : n = k := by omega
      rw [HALL.out]
      have hmk := HMK.out
      have hb0 := below_new' w (.cells (bvs (List.replicate T 0)).toArray 5)
      have hh0 := heap_alloc_new w (.cells (bvs (List.replicate T 0)).toArray 5)
      have HB0 := Lib.hid hb0
      have HH0 := Lib.hid hh0
      clear hb0 hh0
      obtain ⟨Z, hZ⟩ : ∃ Z, Z = (bvs (List.replicate T 0)).toArray := ⟨_, rfl⟩
      rw [← hZ] at hmk HB0 HH0
      have HZ := Lib.hid hZ
      clear hZ HMK
      go_wp2
      go_loopw [2, 6, 23] (fun o h x wr => CuR2 ls w.heap.size (w.alloc (.cells Z 5)) o h x wr) (fun _ _ x _ => n - (intOf x).toNat)
      case atStart => exact ⟨0, [], none, 0, _, T, Nat.zero_le _, rfl, rfl, rfl, HT.out.symm, fun _ => rfl, Laid.nil _ _, Fr.none_, Below.refl _ _⟩
      case round =>
        obtain ⟨k', ps, D, d, A', r, hk', rfl, rfl, rfl, hr, hA', hps, hf, hb⟩ := hrel
        by_cases hlt' : k' < n
        · obtain ⟨b, off, u, rfl, hbb, hu, hc⟩ := (HR.out.belowH (below_to HB0.out (hb.mono (Nat.le_succ _)) (Nat.le_refl _)) (Nat.le_refl _)).at_ hlt'
          have hkl : k' < ls.length := by omega
          have hu2 : u = .int .i64 ((ls[k']).length : Int) := by
            rw [lensV, List.getElem?_map, List.getElem?_eq_getElem hkl] at hu
            exact (Option.some.inj hu).symm
          subst hu2
          have hs := offL_step hkl
          have hmm := offL_more hkl
          rw [HT.out] at hr hmm
          have hstep := fun A h => hps.step hkl A h
          have HF := Lib.hid hf
          have HB := Lib.hid hb
          have HS := Lib.hid hs
          have HSTEP := Lib.hid hstep
          have HA' := Lib.hid hA'
          have h0 : ¬ ((k' : Int) < 0) := by omega
          have h1 : (k' : Int) < (n : Int) := by omega
          clear hu hs hps hf hb hstep hA'
          have hlr : (ls[k']).length ≤ r := by omega
          generalize hm : (ls[k']).length = m at *
          have HM := Lib.hid hm
          clear hm
          go_wp2_with (at_builtin; go_loud (refine wpList_append_fr rfl (.tmp 27) (.tmp 32) rfl okBs rfl (HF.out.alloc _) rfl (Rd.made wr 41 1 1 [.slice A' m m] rfl) (ones1 rfl) (by unfold maxLen; omega) (by omega) (by have := HB.out.size; simp at this ⊢; omega) ?_; intro D2 d2 w2 f2 g2 _))
          go_roundw
          case rel =>
            refine ⟨k' + 1, _, D2, d2, _, r - m, by omega, rfl, rfl, rfl, ?_, fun hp => ?_, HSTEP.out A' (fun h => HA'.out (by omega)), ?_, ?_⟩
            · rw [HS.out, HT.out]; omega
            · rw [if_neg (by omega), HA'.out (by omega), HS.out]
              simp [add_lit]
            · rw [List.map_append]
              exact f2
            · exact (below_alloc HB.out _ (by have := HB.out.size; simp at this ⊢; omega)).grown g2 (by have := HB.out.size; simp at this ⊢; omega) (fun q hq => (HF.out.row q hq).1)
          case measure => simp [intOf]; omega
        · obtain rfl : n = k' := by omega
          have hh := (hb.block w.heap.size (Nat.lt_succ_self _)).trans HH0.out
          rw [HZ.out] at hh
          have hbb := below_to HB0.out (hb.mono (Nat.le_succ _)) (Nat.le_refl _)
          go_wp2
          go_ret
          exact ⟨_, _, ps, rfl, hps, hf, hh, hbb⟩
end Go.Proofs.Ytkaklppkmokffaa
