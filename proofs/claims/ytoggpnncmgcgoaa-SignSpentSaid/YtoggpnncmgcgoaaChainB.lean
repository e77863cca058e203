/-
  Contracts of package chain: on.
-/
import Derived.Test.YtoggpnncmgcgoaaChainA
namespace Go.Proofs.Ytoggpnncmgcgoaa
open Go.RowKit
set_option linter.unusedVariables false
set_option linter.unusedSimpArgs false
set_option maxRecDepth 100000

def OnRel (leaf place : Nat) (v : List UInt8) (f t : Nat) (w : World) (i : Value) (wr : World) : Prop :=
  ∃ k : Nat, f + k ≤ t ∧ i = .int .i64 ((f + k : Nat) : Int) ∧ wr.heap[w.heap.size]? = some (.cells (bvs (onN leaf place v f k)).toArray 75 (0, 0)) ∧ wr.heap[w.heap.size + 1]? = some (.cells #[.int .i64 (leaf : Int), .int .i64 (place : Int)] 78 (0, 0)) ∧
    wr.heap[w.heap.size + 2]? = some (.cells (bvs (List.replicate 16 0)).toArray 75 (0, 0)) ∧ Below w.heap.size w wr
set_option maxHeartbeats 4000000 in
theorem c_on (leaf place : Nat) (v : List UInt8) (f t : Nat) (w : World) (hft : f ≤ t) (ht : t ≤ 1000) (hv : v.length = 16) :
    Calls Try.prog 50 #[.agg (bvs v).toArray, .agg #[.int .i64 (leaf : Int), .int .i64 (place : Int)], .int .i64 (f : Int), .int .i64 (t : Int)] w fun e w' => e = .returned (.agg (bvs (onN leaf place v f (t - f))).toArray) ∧ Below w.heap.size w w' := by
  have hwl := wrap8_nat leaf
  have hwp := wrap8_nat place
  have hi16 : (Try.prog.info? 75).map (·.size) = some 16 := by kernel_rfl
  have HI := Lib.hid hi16
  clear hi16
  go_enter Try.func50, Try.ntmps50
  go_wp2
  go_loopw [9] (fun i wr => OnRel leaf place v f t w i wr) (fun i _ => t - (intOf i).toNat)
  case atStart =>
    have h0 := heap_alloc_new w (.cells (bvs v).toArray 75)
    have h1 := heap_alloc_new (w.alloc (.cells (bvs v).toArray 75)) (.cells #[.int .i64 (leaf : Int), .int .i64 (place : Int)] 78)
    have h2 := heap_alloc_new ((w.alloc (.cells (bvs v).toArray 75)).alloc (.cells #[.int .i64 (leaf : Int), .int .i64 (place : Int)] 78)) (.cells (bvs (List.replicate 16 0)).toArray 75)
    rw [World.size_alloc] at h1
    rw [World.size_alloc, World.size_alloc] at h2
    refine ⟨0, hft, rfl, ?_, ?_, h2, ?_⟩
    · exact (Below.heap_alloc _ _ _ (by rw [World.size_alloc, World.size_alloc]; omega)).trans ((Below.heap_alloc _ _ _ (by rw [World.size_alloc]; omega)).trans h0)
    · exact (Below.heap_alloc _ _ _ (by rw [World.size_alloc, World.size_alloc]; omega)).trans h1
    · exact below_alloc (below_alloc (below_new w _) _ (Nat.le_refl _)) _ (Nat.le_refl _)
  case round =>
    obtain ⟨k, hk, rfl, q0, q1, q2, hb⟩ := hrel
    have hlen := onN_len (leaf := leaf) (place := place) (f := f) hv k
    by_cases hlt : f + k < t
    · have h1 : ((f + k : Nat) : Int) < (t : Int) := by omega
      have hwn := wrap8_nat (f + k)
      have hst : onN leaf place v f (k + 1) = keyB (onN leaf place v f k ++ [UInt8.ofNat leaf, UInt8.ofNat place, UInt8.ofNat (f + k)]) := rfl
      have hsz2 := (Array.getElem?_eq_some_iff.1 q2).1
      have HST := Lib.hid hst
      have HLEN := Lib.hid hlen
      have HQ0 := Lib.hid q0
      have HQ1 := Lib.hid q1
      have HQ2 := Lib.hid q2
      have HB := Lib.hid hb
      have HSZ := Lib.hid hsz2
      have HK := Lib.hid hk
      clear hst hlen q0 q1 q2 hb hsz2
      generalize onN leaf place v f k = L at *
      have hne : onN leaf place v f (k + 1) = keyB (L ++ [UInt8.ofNat leaf, UInt8.ofNat place, UInt8.ofNat (f + k)]) := HST.out
      have HNE := Lib.hid hne
      clear hne HST
      generalize hN : f + k = N at *
      go_wp2_with fail
      have HBc := Lib.hid (Below.refl wr.heap.size wr).drew
      have HL := Lib.hid (fun (W : World) (h : Below wr.heap.size wr W) => (show W.cell? ⟨w.heap.size + 1, 0, none⟩ = some (.int .i64 (leaf : Int)) from by
        rw [cell_of_row W _ 0 _ _ _ ((h.block (w.heap.size + 1) (by have := HSZ.out; omega)).trans HQ1.out)]; rfl))
      have HP := Lib.hid (fun (W : World) (h : Below wr.heap.size wr W) => (show W.cell? ⟨w.heap.size + 1, 1, none⟩ = some (.int .i64 (place : Int)) from by
        rw [cell_of_row W _ 1 _ _ _ ((h.block (w.heap.size + 1) (by have := HSZ.out; omega)).trans HQ1.out)]; rfl))
      refine wp_region_any (by kernel_rfl) ?_
      try (change wpAny _ _ _ _ _ _ _ (World.drew _))
      refine wpAny_take (i := 0) (v := ?_) rfl (by kernel_rfl) (by kernel_rfl) (by kernel_rfl) (fun _ _ _ h => h) (Or.inl ⟨by rfl, ?hyq⟩) ?_
      case hyq => (intro w; go_simp; try (with_reducible rfl))
      refine wpAny_take (i := 1) (v := ?_) rfl (by kernel_rfl) (by kernel_rfl) (by kernel_rfl) (fun _ _ _ h => h) (Or.inl ⟨by rfl, ?hyq⟩) ?_
      case hyq => (intro w; go_simp; try (with_reducible rfl))
      refine wpAny_take (i := 4) (v := ?_) rfl (by kernel_rfl) (by kernel_rfl) (by kernel_rfl) (fun _ _ _ h => h) (Or.inl ⟨by rfl, ?hyq⟩) ?_
      case hyq => (intro w; go_simp; try (with_reducible rfl))
      refine wpAny_take (i := 7) (v := ?_) rfl (by kernel_rfl) (by kernel_rfl) (by kernel_rfl) (fun _ _ _ h => h) (Or.inl ⟨by rfl, ?hyq⟩) ?_
      case hyq => (intro w; go_simp; try (with_reducible rfl))
      refine wpAny_take (i := 8) (v := ?_) rfl (by kernel_rfl) (by kernel_rfl) (by kernel_rfl) (fun _ _ _ h => h) (Or.inl ⟨by rfl, ?hyq⟩) ?_
      case hyq => (intro w; go_simp; try (with_reducible rfl))
      refine wpAny_ready (rs := [2, 5]) (by kernel_rfl) (by simp) ?_
      refine all_cons rfl (fun K hK => ?_) ?_
      · skip
        refine stp_load_cell rfl 3 (.tmp 17) rfl Try.underlying3 ⟨w.heap.size + 1, 0, none⟩ (by simp [Act.eval, Act.put]) (.int .i64 (leaf : Int)) (HL.out _ HBc.out) ?_
        refine hK _ _ ?_
        clear hK K
        refine wpAny_take (i := 3) (v := ?_) rfl (by kernel_rfl) (by kernel_rfl) (by kernel_rfl) (fun _ _ _ h => h) (Or.inl ⟨by rfl, ?hyq⟩) ?_
        case hyq => (intro w; go_simp; try (with_reducible rfl))
        refine wpAny_ready (rs := [5]) (by kernel_rfl) (by simp) ?_
        refine all_cons rfl (fun K hK => ?_) ?_
        · skip
          refine stp_load_cell rfl 3 (.tmp 20) rfl Try.underlying3 ⟨w.heap.size + 1, 1, none⟩ (by simp [Act.eval, Act.put]) (.int .i64 (place : Int)) (HP.out _ HBc.out) ?_
          refine hK _ _ ?_
          clear hK K
          refine wpAny_take (i := 6) (v := ?_) rfl (by kernel_rfl) (by kernel_rfl) (by kernel_rfl) (fun _ _ _ h => h) (Or.inl ⟨by rfl, ?hyq⟩) ?_
          case hyq => (intro w; go_simp; try (with_reducible rfl))
          refine wpAny_ready (rs := [9]) (by kernel_rfl) (by simp) ?_
          refine all_cons rfl (fun K hK => ?_) ?_
          · skip
            refine Stp.mk ?_
            go_simp
            have HRB := Lib.hid (rd_of_alloc HBc.out (cs := bvs [UInt8.ofNat leaf, UInt8.ofNat place, UInt8.ofNat N]) (n := 3) 5 rfl)
            replace HBc := Lib.hid (below_alloc HBc.out (.cells (bvs [UInt8.ofNat leaf, UInt8.ofNat place, UInt8.ofNat N]).toArray 5) (Nat.le_refl _))
            have HXR := Lib.hid (Rd.ofRow (n := 16) ((HBc.out.block w.heap.size (by have := HSZ.out; omega)).trans HQ0.out) (by rw [bvs_len, HLEN.out]))
            refine hK _ _ ?_
            clear hK K
            refine wpAny_ready (rs := [10]) (by kernel_rfl) (by simp) ?_
            refine all_cons rfl (fun K hK => ?_) ?_
            · skip
              refine stp_append_full (c' := 3) (c := 16) rfl (.tmp 16) (.tmp 25) rfl okB (by simp [Act.eval, Act.put]) HXR.out (by simp [Act.eval, Act.put]) HRB.out (by omega) 19 rfl (by unfold maxLen; omega) (by omega) _ (bvs_app _ _).symm ?_
              intro D4 d4 w4 f4 g4 z4
              replace HBc := Lib.hid (below_to HBc.out g4.out HBc.out.size)
              clear HXR HRB g4
              refine hK _ _ ?_
              clear hK K
              refine wpAny_ready (rs := [11]) (by kernel_rfl) (by simp) ?_
              refine all_cons rfl (fun K hK => ?_) ?_
              · skip
                refine Stp.mk ?_
                go_simp
                go_wp2_with fail
                refine (k_key D4 19 d4 _ w4 (by rw [List.length_append, HLEN.out]; rfl) (by decide) f4.out.nc f4.out.rd).mono ?_
                rintro e w5 ⟨D5, d5, rfl, f5, b5⟩
                replace HBc := Lib.hid (below_to HBc.out b5 HBc.out.size)
                rw [← HNE.out] at f5
                have HF5 := Lib.hid f5
                have hl5 : (onN leaf place v f (k + 1)).length = 16 := by rw [HNE.out]; exact keyB_len _
                have HL5 := Lib.hid hl5
                obtain ⟨g5, o5, rfl, hg5, -⟩ := f5.rd.2 (by omega)
                have har := run_arrayAt_slice (P := Try.prog) Try.underlying75 (some ⟨g5, o5, none⟩) 16 d5 (by omega)
                clear b5 f5 f4 hl5
                go_wp2
                refine wpAny_take (i := 12) (v := ?_) rfl (by kernel_rfl) (by kernel_rfl) (by kernel_rfl) (fun _ _ _ h => h) (Or.inl ⟨by rfl, ?hyq⟩) ?_
                case hyq => (intro w; go_simp; try (with_reducible rfl))
                refine wpAny_ready (rs := [13]) (by kernel_rfl) (by simp) ?_
                refine all_cons rfl (fun K hK => ?_) ?_
                · skip
                  have hl16 := HF5.out.rd.range 0 16
                  rw [List.drop_zero, List.take_of_length_le (by rw [HL5.out]; exact Nat.le_refl _)] at hl16
                  refine stp_load_arr rfl 75 (.tmp 28) rfl g5 (o5 + 0) (by simp [Act.eval, Act.put]) (bvs (onN leaf place v f (k + 1))) _ hl16 Try.underlying75 rfl (by rw [bvs_len, HL5.out]; exact HI.out) ?_
                  clear hl16
                  refine hK _ _ ?_
                  clear hK K
                  refine wpAny_ready (rs := [14]) (by kernel_rfl) (by simp) ?_
                  refine all_cons rfl (fun K hK => ?_) ?_
                  · skip
                    have HXX := Lib.hid ((HBc.out.block w.heap.size (by have := HSZ.out; omega)).trans HQ0.out)
                    refine stp_store_row rfl 75 (.tmp 4) (.tmp 29) rfl _ 75 _ HXX.out (onN leaf place v f (k + 1)) (by simp [Act.eval, Act.put]) (by simp [Act.eval, Act.put]) (by rw [HL5.out]; exact HI.out) (by rw [HL5.out]; simp [bvs_len, HLEN.out]) ?_
                    intro w6 h6 g6 z6
                    refine hK _ _ ?_
                    clear hK K
                    refine wpAny_done (by kernel_rfl) ?_ _
                    have b6 := below_to HB.out HBc.out (by have := HB.out.size; omega)
                    have b7 := b6.grown g6.out b6.size (fun k e => by injection e with e; omega)
                    have x1 := (g6.out.block (w.heap.size + 1) (by have := HBc.out.size; have := HSZ.out; omega) (by simp)).trans ((HBc.out.block (w.heap.size + 1) (by have := HSZ.out; omega)).trans HQ1.out)
                    have x2 := (g6.out.block (w.heap.size + 2) (by have := HBc.out.size; have := HSZ.out; omega) (by simp)).trans ((HBc.out.block (w.heap.size + 2) (by have := HSZ.out; omega)).trans HQ2.out)
                    have HX1 := Lib.hid x1
                    have HX2 := Lib.hid x2
                    have HB7 := Lib.hid b7
                    clear HL HP HB HBc HF5 HXX b6 b7 x1 x2 g6 HQ0 HQ1 HQ2
                    go_wp2
                    go_roundw
                    case rel => exact ⟨k + 1, by omega, by rw [← hN]; simp; omega, h6.out, HX1.out, HX2.out, HB7.out⟩
                    case measure => simp [intOf]; omega
                  exact AllReady.nil
                exact AllReady.nil
              exact AllReady.nil
            exact AllReady.nil
          exact AllReady.nil
        exact AllReady.nil
      refine all_cons rfl (fun K hK => ?_) ?_
      · skip
        refine stp_load_cell rfl 3 (.tmp 20) rfl Try.underlying3 ⟨w.heap.size + 1, 1, none⟩ (by simp [Act.eval, Act.put]) (.int .i64 (place : Int)) (HP.out _ HBc.out) ?_
        refine hK _ _ ?_
        clear hK K
        refine wpAny_take (i := 6) (v := ?_) rfl (by kernel_rfl) (by kernel_rfl) (by kernel_rfl) (fun _ _ _ h => h) (Or.inl ⟨by rfl, ?hyq⟩) ?_
        case hyq => (intro w; go_simp; try (with_reducible rfl))
        refine wpAny_ready (rs := [2]) (by kernel_rfl) (by simp) ?_
        refine all_cons rfl (fun K hK => ?_) ?_
        · skip
          refine stp_load_cell rfl 3 (.tmp 17) rfl Try.underlying3 ⟨w.heap.size + 1, 0, none⟩ (by simp [Act.eval, Act.put]) (.int .i64 (leaf : Int)) (HL.out _ HBc.out) ?_
          refine hK _ _ ?_
          clear hK K
          refine wpAny_take (i := 3) (v := ?_) rfl (by kernel_rfl) (by kernel_rfl) (by kernel_rfl) (fun _ _ _ h => h) (Or.inl ⟨by rfl, ?hyq⟩) ?_
          case hyq => (intro w; go_simp; try (with_reducible rfl))
          refine wpAny_ready (rs := [9]) (by kernel_rfl) (by simp) ?_
          refine all_cons rfl (fun K hK => ?_) ?_
          · skip
            refine Stp.mk ?_
            go_simp
            have HRB := Lib.hid (rd_of_alloc HBc.out (cs := bvs [UInt8.ofNat leaf, UInt8.ofNat place, UInt8.ofNat N]) (n := 3) 5 rfl)
            replace HBc := Lib.hid (below_alloc HBc.out (.cells (bvs [UInt8.ofNat leaf, UInt8.ofNat place, UInt8.ofNat N]).toArray 5) (Nat.le_refl _))
            have HXR := Lib.hid (Rd.ofRow (n := 16) ((HBc.out.block w.heap.size (by have := HSZ.out; omega)).trans HQ0.out) (by rw [bvs_len, HLEN.out]))
            refine hK _ _ ?_
            clear hK K
            refine wpAny_ready (rs := [10]) (by kernel_rfl) (by simp) ?_
            refine all_cons rfl (fun K hK => ?_) ?_
            · skip
              refine stp_append_full (c' := 3) (c := 16) rfl (.tmp 16) (.tmp 25) rfl okB (by simp [Act.eval, Act.put]) HXR.out (by simp [Act.eval, Act.put]) HRB.out (by omega) 19 rfl (by unfold maxLen; omega) (by omega) _ (bvs_app _ _).symm ?_
              intro D4 d4 w4 f4 g4 z4
              replace HBc := Lib.hid (below_to HBc.out g4.out HBc.out.size)
              clear HXR HRB g4
              refine hK _ _ ?_
              clear hK K
              refine wpAny_ready (rs := [11]) (by kernel_rfl) (by simp) ?_
              refine all_cons rfl (fun K hK => ?_) ?_
              · skip
                refine Stp.mk ?_
                go_simp
                go_wp2_with fail
                refine (k_key D4 19 d4 _ w4 (by rw [List.length_append, HLEN.out]; rfl) (by decide) f4.out.nc f4.out.rd).mono ?_
                rintro e w5 ⟨D5, d5, rfl, f5, b5⟩
                replace HBc := Lib.hid (below_to HBc.out b5 HBc.out.size)
                rw [← HNE.out] at f5
                have HF5 := Lib.hid f5
                have hl5 : (onN leaf place v f (k + 1)).length = 16 := by rw [HNE.out]; exact keyB_len _
                have HL5 := Lib.hid hl5
                obtain ⟨g5, o5, rfl, hg5, -⟩ := f5.rd.2 (by omega)
                have har := run_arrayAt_slice (P := Try.prog) Try.underlying75 (some ⟨g5, o5, none⟩) 16 d5 (by omega)
                clear b5 f5 f4 hl5
                go_wp2
                refine wpAny_take (i := 12) (v := ?_) rfl (by kernel_rfl) (by kernel_rfl) (by kernel_rfl) (fun _ _ _ h => h) (Or.inl ⟨by rfl, ?hyq⟩) ?_
                case hyq => (intro w; go_simp; try (with_reducible rfl))
                refine wpAny_ready (rs := [13]) (by kernel_rfl) (by simp) ?_
                refine all_cons rfl (fun K hK => ?_) ?_
                · skip
                  have hl16 := HF5.out.rd.range 0 16
                  rw [List.drop_zero, List.take_of_length_le (by rw [HL5.out]; exact Nat.le_refl _)] at hl16
                  refine stp_load_arr rfl 75 (.tmp 28) rfl g5 (o5 + 0) (by simp [Act.eval, Act.put]) (bvs (onN leaf place v f (k + 1))) _ hl16 Try.underlying75 rfl (by rw [bvs_len, HL5.out]; exact HI.out) ?_
                  clear hl16
                  refine hK _ _ ?_
                  clear hK K
                  refine wpAny_ready (rs := [14]) (by kernel_rfl) (by simp) ?_
                  refine all_cons rfl (fun K hK => ?_) ?_
                  · skip
                    have HXX := Lib.hid ((HBc.out.block w.heap.size (by have := HSZ.out; omega)).trans HQ0.out)
                    refine stp_store_row rfl 75 (.tmp 4) (.tmp 29) rfl _ 75 _ HXX.out (onN leaf place v f (k + 1)) (by simp [Act.eval, Act.put]) (by simp [Act.eval, Act.put]) (by rw [HL5.out]; exact HI.out) (by rw [HL5.out]; simp [bvs_len, HLEN.out]) ?_
                    intro w6 h6 g6 z6
                    refine hK _ _ ?_
                    clear hK K
                    refine wpAny_done (by kernel_rfl) ?_ _
                    have b6 := below_to HB.out HBc.out (by have := HB.out.size; omega)
                    have b7 := b6.grown g6.out b6.size (fun k e => by injection e with e; omega)
                    have x1 := (g6.out.block (w.heap.size + 1) (by have := HBc.out.size; have := HSZ.out; omega) (by simp)).trans ((HBc.out.block (w.heap.size + 1) (by have := HSZ.out; omega)).trans HQ1.out)
                    have x2 := (g6.out.block (w.heap.size + 2) (by have := HBc.out.size; have := HSZ.out; omega) (by simp)).trans ((HBc.out.block (w.heap.size + 2) (by have := HSZ.out; omega)).trans HQ2.out)
                    have HX1 := Lib.hid x1
                    have HX2 := Lib.hid x2
                    have HB7 := Lib.hid b7
                    clear HL HP HB HBc HF5 HXX b6 b7 x1 x2 g6 HQ0 HQ1 HQ2
                    go_wp2
                    go_roundw
                    case rel => exact ⟨k + 1, by omega, by rw [← hN]; simp; omega, h6.out, HX1.out, HX2.out, HB7.out⟩
                    case measure => simp [intOf]; omega
                  exact AllReady.nil
                exact AllReady.nil
              exact AllReady.nil
            exact AllReady.nil
          exact AllReady.nil
        exact AllReady.nil
      exact AllReady.nil
    · have hkt : f + k = t := by omega
      obtain rfl : k = t - f := by omega
      rw [hkt]
      clear hk hlt
      have hlt2 : ¬ (t : Int) < (t : Int) := by omega
      generalize hLL : onN leaf place v f (t - f) = L at *
      have hiL : (Try.prog.info? 75).map (·.size) = some L.length := by rw [hlen]; exact HI.out
      have HQ0 := Lib.hid q0
      have HQ2 := Lib.hid q2
      have HIL := Lib.hid hiL
      have HB := Lib.hid hb
      have HLEN := Lib.hid hlen
      clear q0 q1 q2 hb hiL hlen
      go_wp2_with (first
        | (refine wpList_load_mid rfl 75 (.tmp 4) rfl w.heap.size 0 rfl (bvs L) _ (range_of_row HQ0.out 0) Try.underlying75 rfl (by have := HIL.out; rw [bvs_len]; exact this) ?_)
        | (refine wpList_store_row rfl 75 (.tmp 8) (.tmp 30) rfl (w.heap.size + 2) 75 _ HQ2.out L rfl rfl HIL.out (by rw [HLEN.out]; rfl) ?_; intro w5 h5 g5 z5))
      exact bodyPost_ret (results_cell_row rfl _ w5 (w.heap.size + 2) 75 (bvs L).toArray (0, 0) _ rfl h5 Try.underlying75 rfl (by have := HIL.out; rw [List.size_toArray, bvs_len]; exact this)) rfl ⟨rfl, HB.out.grown g5 HB.out.size (fun k e => by injection e with e; omega)⟩
end Go.Proofs.Ytoggpnncmgcgoaa
