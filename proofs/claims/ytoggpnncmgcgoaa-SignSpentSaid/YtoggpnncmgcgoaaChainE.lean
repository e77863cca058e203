/-
  Contracts of package chain: signed.
-/
import Derived.Test.YtoggpnncmgcgoaaChainB
import Derived.Test.YtoggpnncmgcgoaaChainC
namespace Go.Proofs.Ytoggpnncmgcgoaa
open Go.RowKit
set_option linter.unusedVariables false
set_option linter.unusedSimpArgs false
set_option maxRecDepth 100000

/-- A leaf's values, as far as digits tell, the first k of them. -/
def sigN (seed : List UInt8) (leaf : Nat) (ds : List Nat) : Nat → List UInt8
  | 0 => []
  | k + 1 => sigN seed leaf ds k ++ onN leaf k (firstL seed leaf k) 0 (ds.getD k 0)
theorem sigN_len (seed : List UInt8) (leaf : Nat) (ds : List Nat) (k : Nat) : (sigN seed leaf ds k).length = 16 * k := by
  induction k with
  | zero => rfl
  | succ k ih =>
    rw [sigN, List.length_append, ih, onN_len (firstL_len _ _ _)]
    omega
theorem Rd.num {w : World} {B n k : Nat} {A : Option Addr} {l : List Nat} (h : Rd w B 1 A n (ivs l)) (hk : k < n) : ∃ b off, A = some ⟨b, off, none⟩ ∧ b < B ∧ w.cell? ⟨b, off + k, none⟩ = some (.int .i64 ((l.getD k 0 : Nat) : Int)) := by
  obtain ⟨b, off, u, rfl, hb, hu, hc⟩ := h.at_ hk
  refine ⟨b, off, rfl, hb, ?_⟩
  have hl := h.1
  rw [ivs_len, Nat.mul_one] at hl
  rw [hc, ← hu, ivs_get, List.getElem?_eq_getElem (by omega), List.getD_eq_getElem?_getD, List.getElem?_eq_getElem (by omega)]
  rfl
theorem wpList_store_newV {P : Program} {ops : Array Oper} {rest : List Oper} {op : Oper} {a : Act} {w : World} {Q : Exit → Act → World → Prop} (hgd : op.guard = none) (ty : TypeId) (x y : Operand) (ho : op.op = .store ty x y)
    (c : Array Value) (l : List Value) (h1 : (l.toArray.all fun x => x.oneCell') = true) (hx : a.eval x = .pointer (some ⟨w.heap.size, 0, none⟩)) (hy : a.eval y = .agg l.toArray)
    (hi : (P.info? ty).map (·.size) = some l.length) (hs : c.size = l.length)
    (h : wpList P ops Q rest (a.put op.dst undef) (w.alloc (.cells l.toArray ty))) : wpList P ops Q (op :: rest) a (w.alloc (.cells c ty)) :=
  wpList_plain hgd fun _ hK => by
    have hst := run_storeVar_new (P := P) w ty c l.toArray (by simpa using hi) (by simpa using hs) h1
    unfold Oper.wp execOp
    simp only [ho, hx, hy, Instr.storeAt, Instr.sureAddr, Sem.run_bind, Sem.run_pure, Result.andThen_ok, hst]
    exact hK _ _ h

def SigRel (seed : List UInt8) (leaf : Nat) (ds : List Nat) (w : World) (out i : Value) (wr : World) : Prop :=
  ∃ k A c, k ≤ 10 ∧ i = .int .i64 (k : Nat) ∧ out = .slice A (16 * k) c ∧ Fr wr w.heap.size 5 1 A (16 * k) c (bvs (sigN seed leaf ds k)) ∧ Below w.heap.size w wr
set_option maxHeartbeats 4000000 in
theorem c_signed (A : Option Addr) (c : Nat) (seed : List UInt8) (leaf : Nat) (D : Option Addr) (d : Nat) (ds : List Nat) (w : World) (hs : seed.length = 16) (hr : Rd w w.heap.size 1 A 16 (bvs seed)) (hlf : leaf < 8) (hds : ds.length = 10) (hd15 : ∀ x ∈ ds, x ≤ 15) (hrd : Rd w w.heap.size 1 D 10 (ivs ds)) :
    Calls Try.prog 48 #[.slice A 16 c, .int .i64 (leaf : Int), .slice D 10 d] w fun e w' => ∃ A' c', e = .returned (.tuple #[.slice A' 160 c', .int .i64 0]) ∧ Fr w' w.heap.size 5 1 A' 160 c' (bvs (sigN seed leaf ds 10)) ∧ Below w.heap.size w w' := by
  have hi16 : (Try.prog.info? 75).map (·.size) = some 16 := by kernel_rfl
  have hi2 : (Try.prog.info? 78).map (·.size) = some 2 := by kernel_rfl
  have HI := Lib.hid hi16
  have HI2 := Lib.hid hi2
  have HR := Lib.hid hr
  have HRD := Lib.hid hrd
  have H15 := Lib.hid hd15
  clear hi16 hi2 hr hrd hd15
  go_enter Try.func48, Try.ntmps48
  go_wp2_with fail
  refine (c_is (leaf : Int) _ (by omega) (by omega)).mono ?_
  rintro e w1 ⟨rfl, rfl⟩
  go_wp2
  go_loopw [8, 23] (fun out i wr => SigRel seed leaf ds w out i wr) (fun _ i _ => 10 - (intOf i).toNat)
  case atStart => exact ⟨0, none, 0, by omega, rfl, rfl, Fr.none_, Below.refl _ _⟩
  case round =>
    obtain ⟨k, A3, c3, hk, rfl, rfl, hf, hb⟩ := hrel
    by_cases hlt : k < 10
    · have h1 : (k : Int) < 10 := by omega
      have h0 : ¬ ((k : Int) < 0) := by omega
      obtain ⟨g, o, rfl, hg, hcell⟩ := ((HRD.out.below hb).num hlt)
      have hx15 : ds.getD k 0 ≤ 15 := by
        rw [List.getD_eq_getElem?_getD, List.getElem?_eq_getElem (by omega)]
        exact H15.out _ (List.getElem_mem _)
      have hnext : sigN seed leaf ds (k + 1) = sigN seed leaf ds k ++ onN leaf k (firstL seed leaf k) 0 (ds.getD k 0) := rfl
      have HNEXT := Lib.hid hnext
      have HF := Lib.hid hf
      have HB := Lib.hid hb
      have H15k := Lib.hid hx15
      clear hnext hf hb hx15
      generalize ds.getD k 0 = x at *
      go_wp2_with (first
        | (refine wpList_store_newV rfl 78 (.tmp 11) (.tmp 30) rfl _ [.int .i64 (leaf : Int), .int .i64 (k : Int)] rfl rfl rfl HI2.out rfl ?_))
      have hx11 := heap_alloc_new wr (.cells #[.int .i64 (leaf : Int), .int .i64 (k : Int)] 78)
      have hb11 := below_new wr (.cells #[.int .i64 (leaf : Int), .int .i64 (k : Int)] 78)
      have hsz : (wr.alloc (.cells #[.int .i64 (leaf : Int), .int .i64 (k : Int)] 78)).heap.size = wr.heap.size + 1 := World.size_alloc _ _
      generalize hw1 : wr.alloc (.cells #[.int .i64 (leaf : Int), .int .i64 (k : Int)] 78) = w1 at *
      clear hw1
      have HBc := Lib.hid (Below.refl w1.heap.size w1).drew
      have HX11 := Lib.hid hx11
      have HB11 := Lib.hid hb11
      have HSZ := Lib.hid hsz
      clear hx11 hb11 hsz
      refine wp_region_any (by kernel_rfl) ?_
      try (change wpAny _ _ _ _ _ _ _ (World.drew _))
      refine wpAny_take (i := 0) (v := ?_) rfl (by kernel_rfl) (by kernel_rfl) (by kernel_rfl) (fun _ _ _ h => h) (Or.inl ⟨by rfl, ?hyq⟩) ?_
      case hyq => (intro w; go_simp; try (with_reducible rfl))
      refine wpAny_take (i := 4) (v := ?_) rfl (by kernel_rfl) (by kernel_rfl) (by kernel_rfl) (fun _ _ _ h => h) (Or.inl ⟨by rfl, ?hyq⟩) ?_
      case hyq => (intro w; go_simp; try (with_reducible rfl))
      refine wpAny_ready (rs := [1, 3, 6]) (by kernel_rfl) (by simp) ?_
      refine all_cons rfl (fun K hK => ?_) ?_
      · skip
        refine stp_load_box rfl 78 (.tmp 11) rfl wr.heap.size [.int .i64 (leaf : Int), .int .i64 (k : Int)] 78 (0, 0) (by simp [Act.eval, Act.put]) _ ((HBc.out.block wr.heap.size (by rw [HSZ.out]; omega)).trans HX11.out) Try.underlying78 rfl HI2.out ?_
        refine hK _ _ ?_
        clear hK K
        refine wpAny_ready (rs := [2, 3, 6]) (by kernel_rfl) (by simp) ?_
        refine all_cons rfl (fun K hK => ?_) ?_
        · skip
          refine Stp.mk ?_
          go_simp
          go_wp2_with fail
          refine (c_first A c seed leaf k _ hs ((HR.out.below (below_to HB.out (below_to HB11.out HBc.out (by rw [HSZ.out]; omega)) HB.out.size)).more (Nat.le_trans HB.out.size (Nat.le_trans HB11.out.size HBc.out.size)))).mono ?_
          rintro e wf ⟨rfl, bf⟩
          replace HBc := Lib.hid (below_to HBc.out bf HBc.out.size)
          clear bf
          go_wp2
          refine wpAny_ready (rs := [3, 6]) (by kernel_rfl) (by simp) ?_
          refine all_cons rfl (fun K hK => ?_) ?_
          · skip
            refine stp_load_box rfl 78 (.tmp 11) rfl wr.heap.size [.int .i64 (leaf : Int), .int .i64 (k : Int)] 78 (0, 0) (by simp [Act.eval, Act.put]) _ ((HBc.out.block wr.heap.size (by rw [HSZ.out]; omega)).trans HX11.out) Try.underlying78 rfl HI2.out ?_
            refine hK _ _ ?_
            clear hK K
            refine wpAny_ready (rs := [5, 6]) (by kernel_rfl) (by simp) ?_
            refine all_cons rfl (fun K hK => ?_) ?_
            · skip
              refine Stp.mk ?_
              go_simp
              go_wp2_with fail
              refine (c_on leaf k (firstL seed leaf k) 0 x _ (Nat.zero_le _) (by have := H15k.out; omega) (firstL_len _ _ _)).mono ?_
              rintro e wo ⟨rfl, bo⟩
              replace HBc := Lib.hid (below_to HBc.out bo HBc.out.size)
              clear bo
              have hol : (onN leaf k (firstL seed leaf k) 0 x).length = 16 := onN_len (firstL_len _ _ _) _
              have HOL := Lib.hid hol
              clear hol
              go_wp2
              refine wpAny_ready (rs := [6]) (by kernel_rfl) (by simp) ?_
              refine all_cons rfl (fun K hK => ?_) ?_
              · skip
                refine Stp.mk ?_
                go_simp
                have HGE := Lib.hid HBc.out.size
                have HX := Lib.hid (box_of_below HBc.out (.cells #[.int .u8 0, .int .u8 0, .int .u8 0, .int .u8 0, .int .u8 0, .int .u8 0, .int .u8 0, .int .u8 0, .int .u8 0, .int .u8 0, .int .u8 0, .int .u8 0, .int .u8 0, .int .u8 0, .int .u8 0, .int .u8 0] 75))
                replace HBc := Lib.hid (below_alloc HBc.out (.cells #[.int .u8 0, .int .u8 0, .int .u8 0, .int .u8 0, .int .u8 0, .int .u8 0, .int .u8 0, .int .u8 0, .int .u8 0, .int .u8 0, .int .u8 0, .int .u8 0, .int .u8 0, .int .u8 0, .int .u8 0, .int .u8 0] 75) (Nat.le_refl _))
                refine hK _ _ ?_
                clear hK K
                refine wpAny_ready (rs := [7]) (by kernel_rfl) (by simp) ?_
                refine all_cons rfl (fun K hK => ?_) ?_
                · skip
                  refine stp_store_row rfl 75 (.tmp 12) (.tmp 36) rfl _ 75 _ HX.out (onN leaf k (firstL seed leaf k) 0 x) (by simp [Act.eval, Act.put]) (by simp [Act.eval, Act.put]) (by rw [HOL.out]; exact HI.out) (by rw [HOL.out]; rfl) ?_
                  intro w5 h5 g5 z5
                  refine hK _ _ ?_
                  clear hK K
                  refine wpAny_done (by kernel_rfl) ?_ _
                  have b5 := HBc.out.grown g5.out HBc.out.size (fun k e => by injection e with e; have := HGE.out; omega)
                  have b5r := below_to HB11.out b5 (by rw [HSZ.out]; omega)
                  have rx := Rd.ofRow (n := 16) h5.out (by rw [bvs_len, HOL.out])
                  have f5 := HF.out.below b5r (Nat.le_refl _)
                  have HF5 := Lib.hid f5
                  have HRX := Lib.hid rx
                  have HB5 := Lib.hid (below_to HB.out b5r HB.out.size)
                  clear HBc HX b5 b5r rx f5 h5 g5 HGE HX11 HB11
                  go_wp2_with (first
                    | (at_builtin; go_loud (refine wpList_append_to rfl (.tmp 37) (.tmp 38) rfl okB rfl HF5.out rfl HRX.out (bvs_one _) (16 * (k + 1)) (by omega) (bvs (sigN seed leaf ds (k + 1))) (by rw [HNEXT.out, bvs_app]) (by unfold maxLen; omega) (by omega) HB5.out.size ?_; intro D6 d6 w6 f6 g6 _)))
                  have b6 := HB5.out.grown g6 HB5.out.size (fun g hg => (HF5.out.row g hg).1)
                  clear g6
                  go_roundw
                  case rel => exact ⟨k + 1, _, _, by omega, by simp, rfl, f6, b6⟩
                  case measure => simp [intOf]; omega
                exact AllReady.nil
              exact AllReady.nil
            refine all_cons rfl (fun K hK => ?_) ?_
            · skip
              refine Stp.mk ?_
              go_simp
              have HGE := Lib.hid HBc.out.size
              have HX := Lib.hid (box_of_below HBc.out (.cells #[.int .u8 0, .int .u8 0, .int .u8 0, .int .u8 0, .int .u8 0, .int .u8 0, .int .u8 0, .int .u8 0, .int .u8 0, .int .u8 0, .int .u8 0, .int .u8 0, .int .u8 0, .int .u8 0, .int .u8 0, .int .u8 0] 75))
              replace HBc := Lib.hid (below_alloc HBc.out (.cells #[.int .u8 0, .int .u8 0, .int .u8 0, .int .u8 0, .int .u8 0, .int .u8 0, .int .u8 0, .int .u8 0, .int .u8 0, .int .u8 0, .int .u8 0, .int .u8 0, .int .u8 0, .int .u8 0, .int .u8 0, .int .u8 0] 75) (Nat.le_refl _))
              refine hK _ _ ?_
              clear hK K
              refine wpAny_ready (rs := [5]) (by kernel_rfl) (by simp) ?_
              refine all_cons rfl (fun K hK => ?_) ?_
              · skip
                refine Stp.mk ?_
                go_simp
                go_wp2_with fail
                refine (c_on leaf k (firstL seed leaf k) 0 x _ (Nat.zero_le _) (by have := H15k.out; omega) (firstL_len _ _ _)).mono ?_
                rintro e wo ⟨rfl, bo⟩
                replace HX := Lib.hid ((bo.block _ (Array.getElem?_eq_some_iff.1 HX.out).1).trans HX.out)
                replace HBc := Lib.hid (below_to HBc.out bo HBc.out.size)
                clear bo
                have hol : (onN leaf k (firstL seed leaf k) 0 x).length = 16 := onN_len (firstL_len _ _ _) _
                have HOL := Lib.hid hol
                clear hol
                go_wp2
                refine wpAny_ready (rs := [7]) (by kernel_rfl) (by simp) ?_
                refine all_cons rfl (fun K hK => ?_) ?_
                · skip
                  refine stp_store_row rfl 75 (.tmp 12) (.tmp 36) rfl _ 75 _ HX.out (onN leaf k (firstL seed leaf k) 0 x) (by simp [Act.eval, Act.put]) (by simp [Act.eval, Act.put]) (by rw [HOL.out]; exact HI.out) (by rw [HOL.out]; rfl) ?_
                  intro w5 h5 g5 z5
                  refine hK _ _ ?_
                  clear hK K
                  refine wpAny_done (by kernel_rfl) ?_ _
                  have b5 := HBc.out.grown g5.out HBc.out.size (fun k e => by injection e with e; have := HGE.out; omega)
                  have b5r := below_to HB11.out b5 (by rw [HSZ.out]; omega)
                  have rx := Rd.ofRow (n := 16) h5.out (by rw [bvs_len, HOL.out])
                  have f5 := HF.out.below b5r (Nat.le_refl _)
                  have HF5 := Lib.hid f5
                  have HRX := Lib.hid rx
                  have HB5 := Lib.hid (below_to HB.out b5r HB.out.size)
                  clear HBc HX b5 b5r rx f5 h5 g5 HGE HX11 HB11
                  go_wp2_with (first
                    | (at_builtin; go_loud (refine wpList_append_to rfl (.tmp 37) (.tmp 38) rfl okB rfl HF5.out rfl HRX.out (bvs_one _) (16 * (k + 1)) (by omega) (bvs (sigN seed leaf ds (k + 1))) (by rw [HNEXT.out, bvs_app]) (by unfold maxLen; omega) (by omega) HB5.out.size ?_; intro D6 d6 w6 f6 g6 _)))
                  have b6 := HB5.out.grown g6 HB5.out.size (fun g hg => (HF5.out.row g hg).1)
                  clear g6
                  go_roundw
                  case rel => exact ⟨k + 1, _, _, by omega, by simp, rfl, f6, b6⟩
                  case measure => simp [intOf]; omega
                exact AllReady.nil
              exact AllReady.nil
            exact AllReady.nil
          refine all_cons rfl (fun K hK => ?_) ?_
          · skip
            refine Stp.mk ?_
            go_simp
            have HGE := Lib.hid HBc.out.size
            have HX := Lib.hid (box_of_below HBc.out (.cells #[.int .u8 0, .int .u8 0, .int .u8 0, .int .u8 0, .int .u8 0, .int .u8 0, .int .u8 0, .int .u8 0, .int .u8 0, .int .u8 0, .int .u8 0, .int .u8 0, .int .u8 0, .int .u8 0, .int .u8 0, .int .u8 0] 75))
            replace HBc := Lib.hid (below_alloc HBc.out (.cells #[.int .u8 0, .int .u8 0, .int .u8 0, .int .u8 0, .int .u8 0, .int .u8 0, .int .u8 0, .int .u8 0, .int .u8 0, .int .u8 0, .int .u8 0, .int .u8 0, .int .u8 0, .int .u8 0, .int .u8 0, .int .u8 0] 75) (Nat.le_refl _))
            refine hK _ _ ?_
            clear hK K
            refine wpAny_ready (rs := [3]) (by kernel_rfl) (by simp) ?_
            refine all_cons rfl (fun K hK => ?_) ?_
            · skip
              refine stp_load_box rfl 78 (.tmp 11) rfl wr.heap.size [.int .i64 (leaf : Int), .int .i64 (k : Int)] 78 (0, 0) (by simp [Act.eval, Act.put]) _ ((HBc.out.block wr.heap.size (by rw [HSZ.out]; omega)).trans HX11.out) Try.underlying78 rfl HI2.out ?_
              refine hK _ _ ?_
              clear hK K
              refine wpAny_ready (rs := [5]) (by kernel_rfl) (by simp) ?_
              refine all_cons rfl (fun K hK => ?_) ?_
              · skip
                refine Stp.mk ?_
                go_simp
                go_wp2_with fail
                refine (c_on leaf k (firstL seed leaf k) 0 x _ (Nat.zero_le _) (by have := H15k.out; omega) (firstL_len _ _ _)).mono ?_
                rintro e wo ⟨rfl, bo⟩
                replace HX := Lib.hid ((bo.block _ (Array.getElem?_eq_some_iff.1 HX.out).1).trans HX.out)
                replace HBc := Lib.hid (below_to HBc.out bo HBc.out.size)
                clear bo
                have hol : (onN leaf k (firstL seed leaf k) 0 x).length = 16 := onN_len (firstL_len _ _ _) _
                have HOL := Lib.hid hol
                clear hol
                go_wp2
                refine wpAny_ready (rs := [7]) (by kernel_rfl) (by simp) ?_
                refine all_cons rfl (fun K hK => ?_) ?_
                · skip
                  refine stp_store_row rfl 75 (.tmp 12) (.tmp 36) rfl _ 75 _ HX.out (onN leaf k (firstL seed leaf k) 0 x) (by simp [Act.eval, Act.put]) (by simp [Act.eval, Act.put]) (by rw [HOL.out]; exact HI.out) (by rw [HOL.out]; rfl) ?_
                  intro w5 h5 g5 z5
                  refine hK _ _ ?_
                  clear hK K
                  refine wpAny_done (by kernel_rfl) ?_ _
                  have b5 := HBc.out.grown g5.out HBc.out.size (fun k e => by injection e with e; have := HGE.out; omega)
                  have b5r := below_to HB11.out b5 (by rw [HSZ.out]; omega)
                  have rx := Rd.ofRow (n := 16) h5.out (by rw [bvs_len, HOL.out])
                  have f5 := HF.out.below b5r (Nat.le_refl _)
                  have HF5 := Lib.hid f5
                  have HRX := Lib.hid rx
                  have HB5 := Lib.hid (below_to HB.out b5r HB.out.size)
                  clear HBc HX b5 b5r rx f5 h5 g5 HGE HX11 HB11
                  go_wp2_with (first
                    | (at_builtin; go_loud (refine wpList_append_to rfl (.tmp 37) (.tmp 38) rfl okB rfl HF5.out rfl HRX.out (bvs_one _) (16 * (k + 1)) (by omega) (bvs (sigN seed leaf ds (k + 1))) (by rw [HNEXT.out, bvs_app]) (by unfold maxLen; omega) (by omega) HB5.out.size ?_; intro D6 d6 w6 f6 g6 _)))
                  have b6 := HB5.out.grown g6 HB5.out.size (fun g hg => (HF5.out.row g hg).1)
                  clear g6
                  go_roundw
                  case rel => exact ⟨k + 1, _, _, by omega, by simp, rfl, f6, b6⟩
                  case measure => simp [intOf]; omega
                exact AllReady.nil
              exact AllReady.nil
            exact AllReady.nil
          exact AllReady.nil
        refine all_cons rfl (fun K hK => ?_) ?_
        · skip
          refine stp_load_box rfl 78 (.tmp 11) rfl wr.heap.size [.int .i64 (leaf : Int), .int .i64 (k : Int)] 78 (0, 0) (by simp [Act.eval, Act.put]) _ ((HBc.out.block wr.heap.size (by rw [HSZ.out]; omega)).trans HX11.out) Try.underlying78 rfl HI2.out ?_
          refine hK _ _ ?_
          clear hK K
          refine wpAny_ready (rs := [2, 6]) (by kernel_rfl) (by simp) ?_
          refine all_cons rfl (fun K hK => ?_) ?_
          · skip
            refine Stp.mk ?_
            go_simp
            go_wp2_with fail
            refine (c_first A c seed leaf k _ hs ((HR.out.below (below_to HB.out (below_to HB11.out HBc.out (by rw [HSZ.out]; omega)) HB.out.size)).more (Nat.le_trans HB.out.size (Nat.le_trans HB11.out.size HBc.out.size)))).mono ?_
            rintro e wf ⟨rfl, bf⟩
            replace HBc := Lib.hid (below_to HBc.out bf HBc.out.size)
            clear bf
            go_wp2
            refine wpAny_ready (rs := [5, 6]) (by kernel_rfl) (by simp) ?_
            refine all_cons rfl (fun K hK => ?_) ?_
            · skip
              refine Stp.mk ?_
              go_simp
              go_wp2_with fail
              refine (c_on leaf k (firstL seed leaf k) 0 x _ (Nat.zero_le _) (by have := H15k.out; omega) (firstL_len _ _ _)).mono ?_
              rintro e wo ⟨rfl, bo⟩
              replace HBc := Lib.hid (below_to HBc.out bo HBc.out.size)
              clear bo
              have hol : (onN leaf k (firstL seed leaf k) 0 x).length = 16 := onN_len (firstL_len _ _ _) _
              have HOL := Lib.hid hol
              clear hol
              go_wp2
              refine wpAny_ready (rs := [6]) (by kernel_rfl) (by simp) ?_
              refine all_cons rfl (fun K hK => ?_) ?_
              · skip
                refine Stp.mk ?_
                go_simp
                have HGE := Lib.hid HBc.out.size
                have HX := Lib.hid (box_of_below HBc.out (.cells #[.int .u8 0, .int .u8 0, .int .u8 0, .int .u8 0, .int .u8 0, .int .u8 0, .int .u8 0, .int .u8 0, .int .u8 0, .int .u8 0, .int .u8 0, .int .u8 0, .int .u8 0, .int .u8 0, .int .u8 0, .int .u8 0] 75))
                replace HBc := Lib.hid (below_alloc HBc.out (.cells #[.int .u8 0, .int .u8 0, .int .u8 0, .int .u8 0, .int .u8 0, .int .u8 0, .int .u8 0, .int .u8 0, .int .u8 0, .int .u8 0, .int .u8 0, .int .u8 0, .int .u8 0, .int .u8 0, .int .u8 0, .int .u8 0] 75) (Nat.le_refl _))
                refine hK _ _ ?_
                clear hK K
                refine wpAny_ready (rs := [7]) (by kernel_rfl) (by simp) ?_
                refine all_cons rfl (fun K hK => ?_) ?_
                · skip
                  refine stp_store_row rfl 75 (.tmp 12) (.tmp 36) rfl _ 75 _ HX.out (onN leaf k (firstL seed leaf k) 0 x) (by simp [Act.eval, Act.put]) (by simp [Act.eval, Act.put]) (by rw [HOL.out]; exact HI.out) (by rw [HOL.out]; rfl) ?_
                  intro w5 h5 g5 z5
                  refine hK _ _ ?_
                  clear hK K
                  refine wpAny_done (by kernel_rfl) ?_ _
                  have b5 := HBc.out.grown g5.out HBc.out.size (fun k e => by injection e with e; have := HGE.out; omega)
                  have b5r := below_to HB11.out b5 (by rw [HSZ.out]; omega)
                  have rx := Rd.ofRow (n := 16) h5.out (by rw [bvs_len, HOL.out])
                  have f5 := HF.out.below b5r (Nat.le_refl _)
                  have HF5 := Lib.hid f5
                  have HRX := Lib.hid rx
                  have HB5 := Lib.hid (below_to HB.out b5r HB.out.size)
                  clear HBc HX b5 b5r rx f5 h5 g5 HGE HX11 HB11
                  go_wp2_with (first
                    | (at_builtin; go_loud (refine wpList_append_to rfl (.tmp 37) (.tmp 38) rfl okB rfl HF5.out rfl HRX.out (bvs_one _) (16 * (k + 1)) (by omega) (bvs (sigN seed leaf ds (k + 1))) (by rw [HNEXT.out, bvs_app]) (by unfold maxLen; omega) (by omega) HB5.out.size ?_; intro D6 d6 w6 f6 g6 _)))
                  have b6 := HB5.out.grown g6 HB5.out.size (fun g hg => (HF5.out.row g hg).1)
                  clear g6
                  go_roundw
                  case rel => exact ⟨k + 1, _, _, by omega, by simp, rfl, f6, b6⟩
                  case measure => simp [intOf]; omega
                exact AllReady.nil
              exact AllReady.nil
            refine all_cons rfl (fun K hK => ?_) ?_
            · skip
              refine Stp.mk ?_
              go_simp
              have HGE := Lib.hid HBc.out.size
              have HX := Lib.hid (box_of_below HBc.out (.cells #[.int .u8 0, .int .u8 0, .int .u8 0, .int .u8 0, .int .u8 0, .int .u8 0, .int .u8 0, .int .u8 0, .int .u8 0, .int .u8 0, .int .u8 0, .int .u8 0, .int .u8 0, .int .u8 0, .int .u8 0, .int .u8 0] 75))
              replace HBc := Lib.hid (below_alloc HBc.out (.cells #[.int .u8 0, .int .u8 0, .int .u8 0, .int .u8 0, .int .u8 0, .int .u8 0, .int .u8 0, .int .u8 0, .int .u8 0, .int .u8 0, .int .u8 0, .int .u8 0, .int .u8 0, .int .u8 0, .int .u8 0, .int .u8 0] 75) (Nat.le_refl _))
              refine hK _ _ ?_
              clear hK K
              refine wpAny_ready (rs := [5]) (by kernel_rfl) (by simp) ?_
              refine all_cons rfl (fun K hK => ?_) ?_
              · skip
                refine Stp.mk ?_
                go_simp
                go_wp2_with fail
                refine (c_on leaf k (firstL seed leaf k) 0 x _ (Nat.zero_le _) (by have := H15k.out; omega) (firstL_len _ _ _)).mono ?_
                rintro e wo ⟨rfl, bo⟩
                replace HX := Lib.hid ((bo.block _ (Array.getElem?_eq_some_iff.1 HX.out).1).trans HX.out)
                replace HBc := Lib.hid (below_to HBc.out bo HBc.out.size)
                clear bo
                have hol : (onN leaf k (firstL seed leaf k) 0 x).length = 16 := onN_len (firstL_len _ _ _) _
                have HOL := Lib.hid hol
                clear hol
                go_wp2
                refine wpAny_ready (rs := [7]) (by kernel_rfl) (by simp) ?_
                refine all_cons rfl (fun K hK => ?_) ?_
                · skip
                  refine stp_store_row rfl 75 (.tmp 12) (.tmp 36) rfl _ 75 _ HX.out (onN leaf k (firstL seed leaf k) 0 x) (by simp [Act.eval, Act.put]) (by simp [Act.eval, Act.put]) (by rw [HOL.out]; exact HI.out) (by rw [HOL.out]; rfl) ?_
                  intro w5 h5 g5 z5
                  refine hK _ _ ?_
                  clear hK K
                  refine wpAny_done (by kernel_rfl) ?_ _
                  have b5 := HBc.out.grown g5.out HBc.out.size (fun k e => by injection e with e; have := HGE.out; omega)
                  have b5r := below_to HB11.out b5 (by rw [HSZ.out]; omega)
                  have rx := Rd.ofRow (n := 16) h5.out (by rw [bvs_len, HOL.out])
                  have f5 := HF.out.below b5r (Nat.le_refl _)
                  have HF5 := Lib.hid f5
                  have HRX := Lib.hid rx
                  have HB5 := Lib.hid (below_to HB.out b5r HB.out.size)
                  clear HBc HX b5 b5r rx f5 h5 g5 HGE HX11 HB11
                  go_wp2_with (first
                    | (at_builtin; go_loud (refine wpList_append_to rfl (.tmp 37) (.tmp 38) rfl okB rfl HF5.out rfl HRX.out (bvs_one _) (16 * (k + 1)) (by omega) (bvs (sigN seed leaf ds (k + 1))) (by rw [HNEXT.out, bvs_app]) (by unfold maxLen; omega) (by omega) HB5.out.size ?_; intro D6 d6 w6 f6 g6 _)))
                  have b6 := HB5.out.grown g6 HB5.out.size (fun g hg => (HF5.out.row g hg).1)
                  clear g6
                  go_roundw
                  case rel => exact ⟨k + 1, _, _, by omega, by simp, rfl, f6, b6⟩
                  case measure => simp [intOf]; omega
                exact AllReady.nil
              exact AllReady.nil
            exact AllReady.nil
          refine all_cons rfl (fun K hK => ?_) ?_
          · skip
            refine Stp.mk ?_
            go_simp
            have HGE := Lib.hid HBc.out.size
            have HX := Lib.hid (box_of_below HBc.out (.cells #[.int .u8 0, .int .u8 0, .int .u8 0, .int .u8 0, .int .u8 0, .int .u8 0, .int .u8 0, .int .u8 0, .int .u8 0, .int .u8 0, .int .u8 0, .int .u8 0, .int .u8 0, .int .u8 0, .int .u8 0, .int .u8 0] 75))
            replace HBc := Lib.hid (below_alloc HBc.out (.cells #[.int .u8 0, .int .u8 0, .int .u8 0, .int .u8 0, .int .u8 0, .int .u8 0, .int .u8 0, .int .u8 0, .int .u8 0, .int .u8 0, .int .u8 0, .int .u8 0, .int .u8 0, .int .u8 0, .int .u8 0, .int .u8 0] 75) (Nat.le_refl _))
            refine hK _ _ ?_
            clear hK K
            refine wpAny_ready (rs := [2]) (by kernel_rfl) (by simp) ?_
            refine all_cons rfl (fun K hK => ?_) ?_
            · skip
              refine Stp.mk ?_
              go_simp
              go_wp2_with fail
              refine (c_first A c seed leaf k _ hs ((HR.out.below (below_to HB.out (below_to HB11.out HBc.out (by rw [HSZ.out]; omega)) HB.out.size)).more (Nat.le_trans HB.out.size (Nat.le_trans HB11.out.size HBc.out.size)))).mono ?_
              rintro e wf ⟨rfl, bf⟩
              replace HX := Lib.hid ((bf.block _ (Array.getElem?_eq_some_iff.1 HX.out).1).trans HX.out)
              replace HBc := Lib.hid (below_to HBc.out bf HBc.out.size)
              clear bf
              go_wp2
              refine wpAny_ready (rs := [5]) (by kernel_rfl) (by simp) ?_
              refine all_cons rfl (fun K hK => ?_) ?_
              · skip
                refine Stp.mk ?_
                go_simp
                go_wp2_with fail
                refine (c_on leaf k (firstL seed leaf k) 0 x _ (Nat.zero_le _) (by have := H15k.out; omega) (firstL_len _ _ _)).mono ?_
                rintro e wo ⟨rfl, bo⟩
                replace HX := Lib.hid ((bo.block _ (Array.getElem?_eq_some_iff.1 HX.out).1).trans HX.out)
                replace HBc := Lib.hid (below_to HBc.out bo HBc.out.size)
                clear bo
                have hol : (onN leaf k (firstL seed leaf k) 0 x).length = 16 := onN_len (firstL_len _ _ _) _
                have HOL := Lib.hid hol
                clear hol
                go_wp2
                refine wpAny_ready (rs := [7]) (by kernel_rfl) (by simp) ?_
                refine all_cons rfl (fun K hK => ?_) ?_
                · skip
                  refine stp_store_row rfl 75 (.tmp 12) (.tmp 36) rfl _ 75 _ HX.out (onN leaf k (firstL seed leaf k) 0 x) (by simp [Act.eval, Act.put]) (by simp [Act.eval, Act.put]) (by rw [HOL.out]; exact HI.out) (by rw [HOL.out]; rfl) ?_
                  intro w5 h5 g5 z5
                  refine hK _ _ ?_
                  clear hK K
                  refine wpAny_done (by kernel_rfl) ?_ _
                  have b5 := HBc.out.grown g5.out HBc.out.size (fun k e => by injection e with e; have := HGE.out; omega)
                  have b5r := below_to HB11.out b5 (by rw [HSZ.out]; omega)
                  have rx := Rd.ofRow (n := 16) h5.out (by rw [bvs_len, HOL.out])
                  have f5 := HF.out.below b5r (Nat.le_refl _)
                  have HF5 := Lib.hid f5
                  have HRX := Lib.hid rx
                  have HB5 := Lib.hid (below_to HB.out b5r HB.out.size)
                  clear HBc HX b5 b5r rx f5 h5 g5 HGE HX11 HB11
                  go_wp2_with (first
                    | (at_builtin; go_loud (refine wpList_append_to rfl (.tmp 37) (.tmp 38) rfl okB rfl HF5.out rfl HRX.out (bvs_one _) (16 * (k + 1)) (by omega) (bvs (sigN seed leaf ds (k + 1))) (by rw [HNEXT.out, bvs_app]) (by unfold maxLen; omega) (by omega) HB5.out.size ?_; intro D6 d6 w6 f6 g6 _)))
                  have b6 := HB5.out.grown g6 HB5.out.size (fun g hg => (HF5.out.row g hg).1)
                  clear g6
                  go_roundw
                  case rel => exact ⟨k + 1, _, _, by omega, by simp, rfl, f6, b6⟩
                  case measure => simp [intOf]; omega
                exact AllReady.nil
              exact AllReady.nil
            exact AllReady.nil
          exact AllReady.nil
        refine all_cons rfl (fun K hK => ?_) ?_
        · skip
          refine Stp.mk ?_
          go_simp
          have HGE := Lib.hid HBc.out.size
          have HX := Lib.hid (box_of_below HBc.out (.cells #[.int .u8 0, .int .u8 0, .int .u8 0, .int .u8 0, .int .u8 0, .int .u8 0, .int .u8 0, .int .u8 0, .int .u8 0, .int .u8 0, .int .u8 0, .int .u8 0, .int .u8 0, .int .u8 0, .int .u8 0, .int .u8 0] 75))
          replace HBc := Lib.hid (below_alloc HBc.out (.cells #[.int .u8 0, .int .u8 0, .int .u8 0, .int .u8 0, .int .u8 0, .int .u8 0, .int .u8 0, .int .u8 0, .int .u8 0, .int .u8 0, .int .u8 0, .int .u8 0, .int .u8 0, .int .u8 0, .int .u8 0, .int .u8 0] 75) (Nat.le_refl _))
          refine hK _ _ ?_
          clear hK K
          refine wpAny_ready (rs := [2, 3]) (by kernel_rfl) (by simp) ?_
          refine all_cons rfl (fun K hK => ?_) ?_
          · skip
            refine Stp.mk ?_
            go_simp
            go_wp2_with fail
            refine (c_first A c seed leaf k _ hs ((HR.out.below (below_to HB.out (below_to HB11.out HBc.out (by rw [HSZ.out]; omega)) HB.out.size)).more (Nat.le_trans HB.out.size (Nat.le_trans HB11.out.size HBc.out.size)))).mono ?_
            rintro e wf ⟨rfl, bf⟩
            replace HX := Lib.hid ((bf.block _ (Array.getElem?_eq_some_iff.1 HX.out).1).trans HX.out)
            replace HBc := Lib.hid (below_to HBc.out bf HBc.out.size)
            clear bf
            go_wp2
            refine wpAny_ready (rs := [3]) (by kernel_rfl) (by simp) ?_
            refine all_cons rfl (fun K hK => ?_) ?_
            · skip
              refine stp_load_box rfl 78 (.tmp 11) rfl wr.heap.size [.int .i64 (leaf : Int), .int .i64 (k : Int)] 78 (0, 0) (by simp [Act.eval, Act.put]) _ ((HBc.out.block wr.heap.size (by rw [HSZ.out]; omega)).trans HX11.out) Try.underlying78 rfl HI2.out ?_
              refine hK _ _ ?_
              clear hK K
              refine wpAny_ready (rs := [5]) (by kernel_rfl) (by simp) ?_
              refine all_cons rfl (fun K hK => ?_) ?_
              · skip
                refine Stp.mk ?_
                go_simp
                go_wp2_with fail
                refine (c_on leaf k (firstL seed leaf k) 0 x _ (Nat.zero_le _) (by have := H15k.out; omega) (firstL_len _ _ _)).mono ?_
                rintro e wo ⟨rfl, bo⟩
                replace HX := Lib.hid ((bo.block _ (Array.getElem?_eq_some_iff.1 HX.out).1).trans HX.out)
                replace HBc := Lib.hid (below_to HBc.out bo HBc.out.size)
                clear bo
                have hol : (onN leaf k (firstL seed leaf k) 0 x).length = 16 := onN_len (firstL_len _ _ _) _
                have HOL := Lib.hid hol
                clear hol
                go_wp2
                refine wpAny_ready (rs := [7]) (by kernel_rfl) (by simp) ?_
                refine all_cons rfl (fun K hK => ?_) ?_
                · skip
                  refine stp_store_row rfl 75 (.tmp 12) (.tmp 36) rfl _ 75 _ HX.out (onN leaf k (firstL seed leaf k) 0 x) (by simp [Act.eval, Act.put]) (by simp [Act.eval, Act.put]) (by rw [HOL.out]; exact HI.out) (by rw [HOL.out]; rfl) ?_
                  intro w5 h5 g5 z5
                  refine hK _ _ ?_
                  clear hK K
                  refine wpAny_done (by kernel_rfl) ?_ _
                  have b5 := HBc.out.grown g5.out HBc.out.size (fun k e => by injection e with e; have := HGE.out; omega)
                  have b5r := below_to HB11.out b5 (by rw [HSZ.out]; omega)
                  have rx := Rd.ofRow (n := 16) h5.out (by rw [bvs_len, HOL.out])
                  have f5 := HF.out.below b5r (Nat.le_refl _)
                  have HF5 := Lib.hid f5
                  have HRX := Lib.hid rx
                  have HB5 := Lib.hid (below_to HB.out b5r HB.out.size)
                  clear HBc HX b5 b5r rx f5 h5 g5 HGE HX11 HB11
                  go_wp2_with (first
                    | (at_builtin; go_loud (refine wpList_append_to rfl (.tmp 37) (.tmp 38) rfl okB rfl HF5.out rfl HRX.out (bvs_one _) (16 * (k + 1)) (by omega) (bvs (sigN seed leaf ds (k + 1))) (by rw [HNEXT.out, bvs_app]) (by unfold maxLen; omega) (by omega) HB5.out.size ?_; intro D6 d6 w6 f6 g6 _)))
                  have b6 := HB5.out.grown g6 HB5.out.size (fun g hg => (HF5.out.row g hg).1)
                  clear g6
                  go_roundw
                  case rel => exact ⟨k + 1, _, _, by omega, by simp, rfl, f6, b6⟩
                  case measure => simp [intOf]; omega
                exact AllReady.nil
              exact AllReady.nil
            exact AllReady.nil
          refine all_cons rfl (fun K hK => ?_) ?_
          · skip
            refine stp_load_box rfl 78 (.tmp 11) rfl wr.heap.size [.int .i64 (leaf : Int), .int .i64 (k : Int)] 78 (0, 0) (by simp [Act.eval, Act.put]) _ ((HBc.out.block wr.heap.size (by rw [HSZ.out]; omega)).trans HX11.out) Try.underlying78 rfl HI2.out ?_
            refine hK _ _ ?_
            clear hK K
            refine wpAny_ready (rs := [2]) (by kernel_rfl) (by simp) ?_
            refine all_cons rfl (fun K hK => ?_) ?_
            · skip
              refine Stp.mk ?_
              go_simp
              go_wp2_with fail
              refine (c_first A c seed leaf k _ hs ((HR.out.below (below_to HB.out (below_to HB11.out HBc.out (by rw [HSZ.out]; omega)) HB.out.size)).more (Nat.le_trans HB.out.size (Nat.le_trans HB11.out.size HBc.out.size)))).mono ?_
              rintro e wf ⟨rfl, bf⟩
              replace HX := Lib.hid ((bf.block _ (Array.getElem?_eq_some_iff.1 HX.out).1).trans HX.out)
              replace HBc := Lib.hid (below_to HBc.out bf HBc.out.size)
              clear bf
              go_wp2
              refine wpAny_ready (rs := [5]) (by kernel_rfl) (by simp) ?_
              refine all_cons rfl (fun K hK => ?_) ?_
              · skip
                refine Stp.mk ?_
                go_simp
                go_wp2_with fail
                refine (c_on leaf k (firstL seed leaf k) 0 x _ (Nat.zero_le _) (by have := H15k.out; omega) (firstL_len _ _ _)).mono ?_
                rintro e wo ⟨rfl, bo⟩
                replace HX := Lib.hid ((bo.block _ (Array.getElem?_eq_some_iff.1 HX.out).1).trans HX.out)
                replace HBc := Lib.hid (below_to HBc.out bo HBc.out.size)
                clear bo
                have hol : (onN leaf k (firstL seed leaf k) 0 x).length = 16 := onN_len (firstL_len _ _ _) _
                have HOL := Lib.hid hol
                clear hol
                go_wp2
                refine wpAny_ready (rs := [7]) (by kernel_rfl) (by simp) ?_
                refine all_cons rfl (fun K hK => ?_) ?_
                · skip
                  refine stp_store_row rfl 75 (.tmp 12) (.tmp 36) rfl _ 75 _ HX.out (onN leaf k (firstL seed leaf k) 0 x) (by simp [Act.eval, Act.put]) (by simp [Act.eval, Act.put]) (by rw [HOL.out]; exact HI.out) (by rw [HOL.out]; rfl) ?_
                  intro w5 h5 g5 z5
                  refine hK _ _ ?_
                  clear hK K
                  refine wpAny_done (by kernel_rfl) ?_ _
                  have b5 := HBc.out.grown g5.out HBc.out.size (fun k e => by injection e with e; have := HGE.out; omega)
                  have b5r := below_to HB11.out b5 (by rw [HSZ.out]; omega)
                  have rx := Rd.ofRow (n := 16) h5.out (by rw [bvs_len, HOL.out])
                  have f5 := HF.out.below b5r (Nat.le_refl _)
                  have HF5 := Lib.hid f5
                  have HRX := Lib.hid rx
                  have HB5 := Lib.hid (below_to HB.out b5r HB.out.size)
                  clear HBc HX b5 b5r rx f5 h5 g5 HGE HX11 HB11
                  go_wp2_with (first
                    | (at_builtin; go_loud (refine wpList_append_to rfl (.tmp 37) (.tmp 38) rfl okB rfl HF5.out rfl HRX.out (bvs_one _) (16 * (k + 1)) (by omega) (bvs (sigN seed leaf ds (k + 1))) (by rw [HNEXT.out, bvs_app]) (by unfold maxLen; omega) (by omega) HB5.out.size ?_; intro D6 d6 w6 f6 g6 _)))
                  have b6 := HB5.out.grown g6 HB5.out.size (fun g hg => (HF5.out.row g hg).1)
                  clear g6
                  go_roundw
                  case rel => exact ⟨k + 1, _, _, by omega, by simp, rfl, f6, b6⟩
                  case measure => simp [intOf]; omega
                exact AllReady.nil
              exact AllReady.nil
            exact AllReady.nil
          exact AllReady.nil
        exact AllReady.nil
      refine all_cons rfl (fun K hK => ?_) ?_
      · skip
        refine stp_load_box rfl 78 (.tmp 11) rfl wr.heap.size [.int .i64 (leaf : Int), .int .i64 (k : Int)] 78 (0, 0) (by simp [Act.eval, Act.put]) _ ((HBc.out.block wr.heap.size (by rw [HSZ.out]; omega)).trans HX11.out) Try.underlying78 rfl HI2.out ?_
        refine hK _ _ ?_
        clear hK K
        refine wpAny_ready (rs := [1, 6]) (by kernel_rfl) (by simp) ?_
        refine all_cons rfl (fun K hK => ?_) ?_
        · skip
          refine stp_load_box rfl 78 (.tmp 11) rfl wr.heap.size [.int .i64 (leaf : Int), .int .i64 (k : Int)] 78 (0, 0) (by simp [Act.eval, Act.put]) _ ((HBc.out.block wr.heap.size (by rw [HSZ.out]; omega)).trans HX11.out) Try.underlying78 rfl HI2.out ?_
          refine hK _ _ ?_
          clear hK K
          refine wpAny_ready (rs := [2, 6]) (by kernel_rfl) (by simp) ?_
          refine all_cons rfl (fun K hK => ?_) ?_
          · skip
            refine Stp.mk ?_
            go_simp
            go_wp2_with fail
            refine (c_first A c seed leaf k _ hs ((HR.out.below (below_to HB.out (below_to HB11.out HBc.out (by rw [HSZ.out]; omega)) HB.out.size)).more (Nat.le_trans HB.out.size (Nat.le_trans HB11.out.size HBc.out.size)))).mono ?_
            rintro e wf ⟨rfl, bf⟩
            replace HBc := Lib.hid (below_to HBc.out bf HBc.out.size)
            clear bf
            go_wp2
            refine wpAny_ready (rs := [5, 6]) (by kernel_rfl) (by simp) ?_
            refine all_cons rfl (fun K hK => ?_) ?_
            · skip
              refine Stp.mk ?_
              go_simp
              go_wp2_with fail
              refine (c_on leaf k (firstL seed leaf k) 0 x _ (Nat.zero_le _) (by have := H15k.out; omega) (firstL_len _ _ _)).mono ?_
              rintro e wo ⟨rfl, bo⟩
              replace HBc := Lib.hid (below_to HBc.out bo HBc.out.size)
              clear bo
              have hol : (onN leaf k (firstL seed leaf k) 0 x).length = 16 := onN_len (firstL_len _ _ _) _
              have HOL := Lib.hid hol
              clear hol
              go_wp2
              refine wpAny_ready (rs := [6]) (by kernel_rfl) (by simp) ?_
              refine all_cons rfl (fun K hK => ?_) ?_
              · skip
                refine Stp.mk ?_
                go_simp
                have HGE := Lib.hid HBc.out.size
                have HX := Lib.hid (box_of_below HBc.out (.cells #[.int .u8 0, .int .u8 0, .int .u8 0, .int .u8 0, .int .u8 0, .int .u8 0, .int .u8 0, .int .u8 0, .int .u8 0, .int .u8 0, .int .u8 0, .int .u8 0, .int .u8 0, .int .u8 0, .int .u8 0, .int .u8 0] 75))
                replace HBc := Lib.hid (below_alloc HBc.out (.cells #[.int .u8 0, .int .u8 0, .int .u8 0, .int .u8 0, .int .u8 0, .int .u8 0, .int .u8 0, .int .u8 0, .int .u8 0, .int .u8 0, .int .u8 0, .int .u8 0, .int .u8 0, .int .u8 0, .int .u8 0, .int .u8 0] 75) (Nat.le_refl _))
                refine hK _ _ ?_
                clear hK K
                refine wpAny_ready (rs := [7]) (by kernel_rfl) (by simp) ?_
                refine all_cons rfl (fun K hK => ?_) ?_
                · skip
                  refine stp_store_row rfl 75 (.tmp 12) (.tmp 36) rfl _ 75 _ HX.out (onN leaf k (firstL seed leaf k) 0 x) (by simp [Act.eval, Act.put]) (by simp [Act.eval, Act.put]) (by rw [HOL.out]; exact HI.out) (by rw [HOL.out]; rfl) ?_
                  intro w5 h5 g5 z5
                  refine hK _ _ ?_
                  clear hK K
                  refine wpAny_done (by kernel_rfl) ?_ _
                  have b5 := HBc.out.grown g5.out HBc.out.size (fun k e => by injection e with e; have := HGE.out; omega)
                  have b5r := below_to HB11.out b5 (by rw [HSZ.out]; omega)
                  have rx := Rd.ofRow (n := 16) h5.out (by rw [bvs_len, HOL.out])
                  have f5 := HF.out.below b5r (Nat.le_refl _)
                  have HF5 := Lib.hid f5
                  have HRX := Lib.hid rx
                  have HB5 := Lib.hid (below_to HB.out b5r HB.out.size)
                  clear HBc HX b5 b5r rx f5 h5 g5 HGE HX11 HB11
                  go_wp2_with (first
                    | (at_builtin; go_loud (refine wpList_append_to rfl (.tmp 37) (.tmp 38) rfl okB rfl HF5.out rfl HRX.out (bvs_one _) (16 * (k + 1)) (by omega) (bvs (sigN seed leaf ds (k + 1))) (by rw [HNEXT.out, bvs_app]) (by unfold maxLen; omega) (by omega) HB5.out.size ?_; intro D6 d6 w6 f6 g6 _)))
                  have b6 := HB5.out.grown g6 HB5.out.size (fun g hg => (HF5.out.row g hg).1)
                  clear g6
                  go_roundw
                  case rel => exact ⟨k + 1, _, _, by omega, by simp, rfl, f6, b6⟩
                  case measure => simp [intOf]; omega
                exact AllReady.nil
              exact AllReady.nil
            refine all_cons rfl (fun K hK => ?_) ?_
            · skip
              refine Stp.mk ?_
              go_simp
              have HGE := Lib.hid HBc.out.size
              have HX := Lib.hid (box_of_below HBc.out (.cells #[.int .u8 0, .int .u8 0, .int .u8 0, .int .u8 0, .int .u8 0, .int .u8 0, .int .u8 0, .int .u8 0, .int .u8 0, .int .u8 0, .int .u8 0, .int .u8 0, .int .u8 0, .int .u8 0, .int .u8 0, .int .u8 0] 75))
              replace HBc := Lib.hid (below_alloc HBc.out (.cells #[.int .u8 0, .int .u8 0, .int .u8 0, .int .u8 0, .int .u8 0, .int .u8 0, .int .u8 0, .int .u8 0, .int .u8 0, .int .u8 0, .int .u8 0, .int .u8 0, .int .u8 0, .int .u8 0, .int .u8 0, .int .u8 0] 75) (Nat.le_refl _))
              refine hK _ _ ?_
              clear hK K
              refine wpAny_ready (rs := [5]) (by kernel_rfl) (by simp) ?_
              refine all_cons rfl (fun K hK => ?_) ?_
              · skip
                refine Stp.mk ?_
                go_simp
                go_wp2_with fail
                refine (c_on leaf k (firstL seed leaf k) 0 x _ (Nat.zero_le _) (by have := H15k.out; omega) (firstL_len _ _ _)).mono ?_
                rintro e wo ⟨rfl, bo⟩
                replace HX := Lib.hid ((bo.block _ (Array.getElem?_eq_some_iff.1 HX.out).1).trans HX.out)
                replace HBc := Lib.hid (below_to HBc.out bo HBc.out.size)
                clear bo
                have hol : (onN leaf k (firstL seed leaf k) 0 x).length = 16 := onN_len (firstL_len _ _ _) _
                have HOL := Lib.hid hol
                clear hol
                go_wp2
                refine wpAny_ready (rs := [7]) (by kernel_rfl) (by simp) ?_
                refine all_cons rfl (fun K hK => ?_) ?_
                · skip
                  refine stp_store_row rfl 75 (.tmp 12) (.tmp 36) rfl _ 75 _ HX.out (onN leaf k (firstL seed leaf k) 0 x) (by simp [Act.eval, Act.put]) (by simp [Act.eval, Act.put]) (by rw [HOL.out]; exact HI.out) (by rw [HOL.out]; rfl) ?_
                  intro w5 h5 g5 z5
                  refine hK _ _ ?_
                  clear hK K
                  refine wpAny_done (by kernel_rfl) ?_ _
                  have b5 := HBc.out.grown g5.out HBc.out.size (fun k e => by injection e with e; have := HGE.out; omega)
                  have b5r := below_to HB11.out b5 (by rw [HSZ.out]; omega)
                  have rx := Rd.ofRow (n := 16) h5.out (by rw [bvs_len, HOL.out])
                  have f5 := HF.out.below b5r (Nat.le_refl _)
                  have HF5 := Lib.hid f5
                  have HRX := Lib.hid rx
                  have HB5 := Lib.hid (below_to HB.out b5r HB.out.size)
                  clear HBc HX b5 b5r rx f5 h5 g5 HGE HX11 HB11
                  go_wp2_with (first
                    | (at_builtin; go_loud (refine wpList_append_to rfl (.tmp 37) (.tmp 38) rfl okB rfl HF5.out rfl HRX.out (bvs_one _) (16 * (k + 1)) (by omega) (bvs (sigN seed leaf ds (k + 1))) (by rw [HNEXT.out, bvs_app]) (by unfold maxLen; omega) (by omega) HB5.out.size ?_; intro D6 d6 w6 f6 g6 _)))
                  have b6 := HB5.out.grown g6 HB5.out.size (fun g hg => (HF5.out.row g hg).1)
                  clear g6
                  go_roundw
                  case rel => exact ⟨k + 1, _, _, by omega, by simp, rfl, f6, b6⟩
                  case measure => simp [intOf]; omega
                exact AllReady.nil
              exact AllReady.nil
            exact AllReady.nil
          refine all_cons rfl (fun K hK => ?_) ?_
          · skip
            refine Stp.mk ?_
            go_simp
            have HGE := Lib.hid HBc.out.size
            have HX := Lib.hid (box_of_below HBc.out (.cells #[.int .u8 0, .int .u8 0, .int .u8 0, .int .u8 0, .int .u8 0, .int .u8 0, .int .u8 0, .int .u8 0, .int .u8 0, .int .u8 0, .int .u8 0, .int .u8 0, .int .u8 0, .int .u8 0, .int .u8 0, .int .u8 0] 75))
            replace HBc := Lib.hid (below_alloc HBc.out (.cells #[.int .u8 0, .int .u8 0, .int .u8 0, .int .u8 0, .int .u8 0, .int .u8 0, .int .u8 0, .int .u8 0, .int .u8 0, .int .u8 0, .int .u8 0, .int .u8 0, .int .u8 0, .int .u8 0, .int .u8 0, .int .u8 0] 75) (Nat.le_refl _))
            refine hK _ _ ?_
            clear hK K
            refine wpAny_ready (rs := [2]) (by kernel_rfl) (by simp) ?_
            refine all_cons rfl (fun K hK => ?_) ?_
            · skip
              refine Stp.mk ?_
              go_simp
              go_wp2_with fail
              refine (c_first A c seed leaf k _ hs ((HR.out.below (below_to HB.out (below_to HB11.out HBc.out (by rw [HSZ.out]; omega)) HB.out.size)).more (Nat.le_trans HB.out.size (Nat.le_trans HB11.out.size HBc.out.size)))).mono ?_
              rintro e wf ⟨rfl, bf⟩
              replace HX := Lib.hid ((bf.block _ (Array.getElem?_eq_some_iff.1 HX.out).1).trans HX.out)
              replace HBc := Lib.hid (below_to HBc.out bf HBc.out.size)
              clear bf
              go_wp2
              refine wpAny_ready (rs := [5]) (by kernel_rfl) (by simp) ?_
              refine all_cons rfl (fun K hK => ?_) ?_
              · skip
                refine Stp.mk ?_
                go_simp
                go_wp2_with fail
                refine (c_on leaf k (firstL seed leaf k) 0 x _ (Nat.zero_le _) (by have := H15k.out; omega) (firstL_len _ _ _)).mono ?_
                rintro e wo ⟨rfl, bo⟩
                replace HX := Lib.hid ((bo.block _ (Array.getElem?_eq_some_iff.1 HX.out).1).trans HX.out)
                replace HBc := Lib.hid (below_to HBc.out bo HBc.out.size)
                clear bo
                have hol : (onN leaf k (firstL seed leaf k) 0 x).length = 16 := onN_len (firstL_len _ _ _) _
                have HOL := Lib.hid hol
                clear hol
                go_wp2
                refine wpAny_ready (rs := [7]) (by kernel_rfl) (by simp) ?_
                refine all_cons rfl (fun K hK => ?_) ?_
                · skip
                  refine stp_store_row rfl 75 (.tmp 12) (.tmp 36) rfl _ 75 _ HX.out (onN leaf k (firstL seed leaf k) 0 x) (by simp [Act.eval, Act.put]) (by simp [Act.eval, Act.put]) (by rw [HOL.out]; exact HI.out) (by rw [HOL.out]; rfl) ?_
                  intro w5 h5 g5 z5
                  refine hK _ _ ?_
                  clear hK K
                  refine wpAny_done (by kernel_rfl) ?_ _
                  have b5 := HBc.out.grown g5.out HBc.out.size (fun k e => by injection e with e; have := HGE.out; omega)
                  have b5r := below_to HB11.out b5 (by rw [HSZ.out]; omega)
                  have rx := Rd.ofRow (n := 16) h5.out (by rw [bvs_len, HOL.out])
                  have f5 := HF.out.below b5r (Nat.le_refl _)
                  have HF5 := Lib.hid f5
                  have HRX := Lib.hid rx
                  have HB5 := Lib.hid (below_to HB.out b5r HB.out.size)
                  clear HBc HX b5 b5r rx f5 h5 g5 HGE HX11 HB11
                  go_wp2_with (first
                    | (at_builtin; go_loud (refine wpList_append_to rfl (.tmp 37) (.tmp 38) rfl okB rfl HF5.out rfl HRX.out (bvs_one _) (16 * (k + 1)) (by omega) (bvs (sigN seed leaf ds (k + 1))) (by rw [HNEXT.out, bvs_app]) (by unfold maxLen; omega) (by omega) HB5.out.size ?_; intro D6 d6 w6 f6 g6 _)))
                  have b6 := HB5.out.grown g6 HB5.out.size (fun g hg => (HF5.out.row g hg).1)
                  clear g6
                  go_roundw
                  case rel => exact ⟨k + 1, _, _, by omega, by simp, rfl, f6, b6⟩
                  case measure => simp [intOf]; omega
                exact AllReady.nil
              exact AllReady.nil
            exact AllReady.nil
          exact AllReady.nil
        refine all_cons rfl (fun K hK => ?_) ?_
        · skip
          refine Stp.mk ?_
          go_simp
          have HGE := Lib.hid HBc.out.size
          have HX := Lib.hid (box_of_below HBc.out (.cells #[.int .u8 0, .int .u8 0, .int .u8 0, .int .u8 0, .int .u8 0, .int .u8 0, .int .u8 0, .int .u8 0, .int .u8 0, .int .u8 0, .int .u8 0, .int .u8 0, .int .u8 0, .int .u8 0, .int .u8 0, .int .u8 0] 75))
          replace HBc := Lib.hid (below_alloc HBc.out (.cells #[.int .u8 0, .int .u8 0, .int .u8 0, .int .u8 0, .int .u8 0, .int .u8 0, .int .u8 0, .int .u8 0, .int .u8 0, .int .u8 0, .int .u8 0, .int .u8 0, .int .u8 0, .int .u8 0, .int .u8 0, .int .u8 0] 75) (Nat.le_refl _))
          refine hK _ _ ?_
          clear hK K
          refine wpAny_ready (rs := [1]) (by kernel_rfl) (by simp) ?_
          refine all_cons rfl (fun K hK => ?_) ?_
          · skip
            refine stp_load_box rfl 78 (.tmp 11) rfl wr.heap.size [.int .i64 (leaf : Int), .int .i64 (k : Int)] 78 (0, 0) (by simp [Act.eval, Act.put]) _ ((HBc.out.block wr.heap.size (by rw [HSZ.out]; omega)).trans HX11.out) Try.underlying78 rfl HI2.out ?_
            refine hK _ _ ?_
            clear hK K
            refine wpAny_ready (rs := [2]) (by kernel_rfl) (by simp) ?_
            refine all_cons rfl (fun K hK => ?_) ?_
            · skip
              refine Stp.mk ?_
              go_simp
              go_wp2_with fail
              refine (c_first A c seed leaf k _ hs ((HR.out.below (below_to HB.out (below_to HB11.out HBc.out (by rw [HSZ.out]; omega)) HB.out.size)).more (Nat.le_trans HB.out.size (Nat.le_trans HB11.out.size HBc.out.size)))).mono ?_
              rintro e wf ⟨rfl, bf⟩
              replace HX := Lib.hid ((bf.block _ (Array.getElem?_eq_some_iff.1 HX.out).1).trans HX.out)
              replace HBc := Lib.hid (below_to HBc.out bf HBc.out.size)
              clear bf
              go_wp2
              refine wpAny_ready (rs := [5]) (by kernel_rfl) (by simp) ?_
              refine all_cons rfl (fun K hK => ?_) ?_
              · skip
                refine Stp.mk ?_
                go_simp
                go_wp2_with fail
                refine (c_on leaf k (firstL seed leaf k) 0 x _ (Nat.zero_le _) (by have := H15k.out; omega) (firstL_len _ _ _)).mono ?_
                rintro e wo ⟨rfl, bo⟩
                replace HX := Lib.hid ((bo.block _ (Array.getElem?_eq_some_iff.1 HX.out).1).trans HX.out)
                replace HBc := Lib.hid (below_to HBc.out bo HBc.out.size)
                clear bo
                have hol : (onN leaf k (firstL seed leaf k) 0 x).length = 16 := onN_len (firstL_len _ _ _) _
                have HOL := Lib.hid hol
                clear hol
                go_wp2
                refine wpAny_ready (rs := [7]) (by kernel_rfl) (by simp) ?_
                refine all_cons rfl (fun K hK => ?_) ?_
                · skip
                  refine stp_store_row rfl 75 (.tmp 12) (.tmp 36) rfl _ 75 _ HX.out (onN leaf k (firstL seed leaf k) 0 x) (by simp [Act.eval, Act.put]) (by simp [Act.eval, Act.put]) (by rw [HOL.out]; exact HI.out) (by rw [HOL.out]; rfl) ?_
                  intro w5 h5 g5 z5
                  refine hK _ _ ?_
                  clear hK K
                  refine wpAny_done (by kernel_rfl) ?_ _
                  have b5 := HBc.out.grown g5.out HBc.out.size (fun k e => by injection e with e; have := HGE.out; omega)
                  have b5r := below_to HB11.out b5 (by rw [HSZ.out]; omega)
                  have rx := Rd.ofRow (n := 16) h5.out (by rw [bvs_len, HOL.out])
                  have f5 := HF.out.below b5r (Nat.le_refl _)
                  have HF5 := Lib.hid f5
                  have HRX := Lib.hid rx
                  have HB5 := Lib.hid (below_to HB.out b5r HB.out.size)
                  clear HBc HX b5 b5r rx f5 h5 g5 HGE HX11 HB11
                  go_wp2_with (first
                    | (at_builtin; go_loud (refine wpList_append_to rfl (.tmp 37) (.tmp 38) rfl okB rfl HF5.out rfl HRX.out (bvs_one _) (16 * (k + 1)) (by omega) (bvs (sigN seed leaf ds (k + 1))) (by rw [HNEXT.out, bvs_app]) (by unfold maxLen; omega) (by omega) HB5.out.size ?_; intro D6 d6 w6 f6 g6 _)))
                  have b6 := HB5.out.grown g6 HB5.out.size (fun g hg => (HF5.out.row g hg).1)
                  clear g6
                  go_roundw
                  case rel => exact ⟨k + 1, _, _, by omega, by simp, rfl, f6, b6⟩
                  case measure => simp [intOf]; omega
                exact AllReady.nil
              exact AllReady.nil
            exact AllReady.nil
          exact AllReady.nil
        exact AllReady.nil
      refine all_cons rfl (fun K hK => ?_) ?_
      · skip
        refine Stp.mk ?_
        go_simp
        have HGE := Lib.hid HBc.out.size
        have HX := Lib.hid (box_of_below HBc.out (.cells #[.int .u8 0, .int .u8 0, .int .u8 0, .int .u8 0, .int .u8 0, .int .u8 0, .int .u8 0, .int .u8 0, .int .u8 0, .int .u8 0, .int .u8 0, .int .u8 0, .int .u8 0, .int .u8 0, .int .u8 0, .int .u8 0] 75))
        replace HBc := Lib.hid (below_alloc HBc.out (.cells #[.int .u8 0, .int .u8 0, .int .u8 0, .int .u8 0, .int .u8 0, .int .u8 0, .int .u8 0, .int .u8 0, .int .u8 0, .int .u8 0, .int .u8 0, .int .u8 0, .int .u8 0, .int .u8 0, .int .u8 0, .int .u8 0] 75) (Nat.le_refl _))
        refine hK _ _ ?_
        clear hK K
        refine wpAny_ready (rs := [1, 3]) (by kernel_rfl) (by simp) ?_
        refine all_cons rfl (fun K hK => ?_) ?_
        · skip
          refine stp_load_box rfl 78 (.tmp 11) rfl wr.heap.size [.int .i64 (leaf : Int), .int .i64 (k : Int)] 78 (0, 0) (by simp [Act.eval, Act.put]) _ ((HBc.out.block wr.heap.size (by rw [HSZ.out]; omega)).trans HX11.out) Try.underlying78 rfl HI2.out ?_
          refine hK _ _ ?_
          clear hK K
          refine wpAny_ready (rs := [2, 3]) (by kernel_rfl) (by simp) ?_
          refine all_cons rfl (fun K hK => ?_) ?_
          · skip
            refine Stp.mk ?_
            go_simp
            go_wp2_with fail
            refine (c_first A c seed leaf k _ hs ((HR.out.below (below_to HB.out (below_to HB11.out HBc.out (by rw [HSZ.out]; omega)) HB.out.size)).more (Nat.le_trans HB.out.size (Nat.le_trans HB11.out.size HBc.out.size)))).mono ?_
            rintro e wf ⟨rfl, bf⟩
            replace HX := Lib.hid ((bf.block _ (Array.getElem?_eq_some_iff.1 HX.out).1).trans HX.out)
            replace HBc := Lib.hid (below_to HBc.out bf HBc.out.size)
            clear bf
            go_wp2
            refine wpAny_ready (rs := [3]) (by kernel_rfl) (by simp) ?_
            refine all_cons rfl (fun K hK => ?_) ?_
            · skip
              refine stp_load_box rfl 78 (.tmp 11) rfl wr.heap.size [.int .i64 (leaf : Int), .int .i64 (k : Int)] 78 (0, 0) (by simp [Act.eval, Act.put]) _ ((HBc.out.block wr.heap.size (by rw [HSZ.out]; omega)).trans HX11.out) Try.underlying78 rfl HI2.out ?_
              refine hK _ _ ?_
              clear hK K
              refine wpAny_ready (rs := [5]) (by kernel_rfl) (by simp) ?_
              refine all_cons rfl (fun K hK => ?_) ?_
              · skip
                refine Stp.mk ?_
                go_simp
                go_wp2_with fail
                refine (c_on leaf k (firstL seed leaf k) 0 x _ (Nat.zero_le _) (by have := H15k.out; omega) (firstL_len _ _ _)).mono ?_
                rintro e wo ⟨rfl, bo⟩
                replace HX := Lib.hid ((bo.block _ (Array.getElem?_eq_some_iff.1 HX.out).1).trans HX.out)
                replace HBc := Lib.hid (below_to HBc.out bo HBc.out.size)
                clear bo
                have hol : (onN leaf k (firstL seed leaf k) 0 x).length = 16 := onN_len (firstL_len _ _ _) _
                have HOL := Lib.hid hol
                clear hol
                go_wp2
                refine wpAny_ready (rs := [7]) (by kernel_rfl) (by simp) ?_
                refine all_cons rfl (fun K hK => ?_) ?_
                · skip
                  refine stp_store_row rfl 75 (.tmp 12) (.tmp 36) rfl _ 75 _ HX.out (onN leaf k (firstL seed leaf k) 0 x) (by simp [Act.eval, Act.put]) (by simp [Act.eval, Act.put]) (by rw [HOL.out]; exact HI.out) (by rw [HOL.out]; rfl) ?_
                  intro w5 h5 g5 z5
                  refine hK _ _ ?_
                  clear hK K
                  refine wpAny_done (by kernel_rfl) ?_ _
                  have b5 := HBc.out.grown g5.out HBc.out.size (fun k e => by injection e with e; have := HGE.out; omega)
                  have b5r := below_to HB11.out b5 (by rw [HSZ.out]; omega)
                  have rx := Rd.ofRow (n := 16) h5.out (by rw [bvs_len, HOL.out])
                  have f5 := HF.out.below b5r (Nat.le_refl _)
                  have HF5 := Lib.hid f5
                  have HRX := Lib.hid rx
                  have HB5 := Lib.hid (below_to HB.out b5r HB.out.size)
                  clear HBc HX b5 b5r rx f5 h5 g5 HGE HX11 HB11
                  go_wp2_with (first
                    | (at_builtin; go_loud (refine wpList_append_to rfl (.tmp 37) (.tmp 38) rfl okB rfl HF5.out rfl HRX.out (bvs_one _) (16 * (k + 1)) (by omega) (bvs (sigN seed leaf ds (k + 1))) (by rw [HNEXT.out, bvs_app]) (by unfold maxLen; omega) (by omega) HB5.out.size ?_; intro D6 d6 w6 f6 g6 _)))
                  have b6 := HB5.out.grown g6 HB5.out.size (fun g hg => (HF5.out.row g hg).1)
                  clear g6
                  go_roundw
                  case rel => exact ⟨k + 1, _, _, by omega, by simp, rfl, f6, b6⟩
                  case measure => simp [intOf]; omega
                exact AllReady.nil
              exact AllReady.nil
            exact AllReady.nil
          refine all_cons rfl (fun K hK => ?_) ?_
          · skip
            refine stp_load_box rfl 78 (.tmp 11) rfl wr.heap.size [.int .i64 (leaf : Int), .int .i64 (k : Int)] 78 (0, 0) (by simp [Act.eval, Act.put]) _ ((HBc.out.block wr.heap.size (by rw [HSZ.out]; omega)).trans HX11.out) Try.underlying78 rfl HI2.out ?_
            refine hK _ _ ?_
            clear hK K
            refine wpAny_ready (rs := [2]) (by kernel_rfl) (by simp) ?_
            refine all_cons rfl (fun K hK => ?_) ?_
            · skip
              refine Stp.mk ?_
              go_simp
              go_wp2_with fail
              refine (c_first A c seed leaf k _ hs ((HR.out.below (below_to HB.out (below_to HB11.out HBc.out (by rw [HSZ.out]; omega)) HB.out.size)).more (Nat.le_trans HB.out.size (Nat.le_trans HB11.out.size HBc.out.size)))).mono ?_
              rintro e wf ⟨rfl, bf⟩
              replace HX := Lib.hid ((bf.block _ (Array.getElem?_eq_some_iff.1 HX.out).1).trans HX.out)
              replace HBc := Lib.hid (below_to HBc.out bf HBc.out.size)
              clear bf
              go_wp2
              refine wpAny_ready (rs := [5]) (by kernel_rfl) (by simp) ?_
              refine all_cons rfl (fun K hK => ?_) ?_
              · skip
                refine Stp.mk ?_
                go_simp
                go_wp2_with fail
                refine (c_on leaf k (firstL seed leaf k) 0 x _ (Nat.zero_le _) (by have := H15k.out; omega) (firstL_len _ _ _)).mono ?_
                rintro e wo ⟨rfl, bo⟩
                replace HX := Lib.hid ((bo.block _ (Array.getElem?_eq_some_iff.1 HX.out).1).trans HX.out)
                replace HBc := Lib.hid (below_to HBc.out bo HBc.out.size)
                clear bo
                have hol : (onN leaf k (firstL seed leaf k) 0 x).length = 16 := onN_len (firstL_len _ _ _) _
                have HOL := Lib.hid hol
                clear hol
                go_wp2
                refine wpAny_ready (rs := [7]) (by kernel_rfl) (by simp) ?_
                refine all_cons rfl (fun K hK => ?_) ?_
                · skip
                  refine stp_store_row rfl 75 (.tmp 12) (.tmp 36) rfl _ 75 _ HX.out (onN leaf k (firstL seed leaf k) 0 x) (by simp [Act.eval, Act.put]) (by simp [Act.eval, Act.put]) (by rw [HOL.out]; exact HI.out) (by rw [HOL.out]; rfl) ?_
                  intro w5 h5 g5 z5
                  refine hK _ _ ?_
                  clear hK K
                  refine wpAny_done (by kernel_rfl) ?_ _
                  have b5 := HBc.out.grown g5.out HBc.out.size (fun k e => by injection e with e; have := HGE.out; omega)
                  have b5r := below_to HB11.out b5 (by rw [HSZ.out]; omega)
                  have rx := Rd.ofRow (n := 16) h5.out (by rw [bvs_len, HOL.out])
                  have f5 := HF.out.below b5r (Nat.le_refl _)
                  have HF5 := Lib.hid f5
                  have HRX := Lib.hid rx
                  have HB5 := Lib.hid (below_to HB.out b5r HB.out.size)
                  clear HBc HX b5 b5r rx f5 h5 g5 HGE HX11 HB11
                  go_wp2_with (first
                    | (at_builtin; go_loud (refine wpList_append_to rfl (.tmp 37) (.tmp 38) rfl okB rfl HF5.out rfl HRX.out (bvs_one _) (16 * (k + 1)) (by omega) (bvs (sigN seed leaf ds (k + 1))) (by rw [HNEXT.out, bvs_app]) (by unfold maxLen; omega) (by omega) HB5.out.size ?_; intro D6 d6 w6 f6 g6 _)))
                  have b6 := HB5.out.grown g6 HB5.out.size (fun g hg => (HF5.out.row g hg).1)
                  clear g6
                  go_roundw
                  case rel => exact ⟨k + 1, _, _, by omega, by simp, rfl, f6, b6⟩
                  case measure => simp [intOf]; omega
                exact AllReady.nil
              exact AllReady.nil
            exact AllReady.nil
          exact AllReady.nil
        refine all_cons rfl (fun K hK => ?_) ?_
        · skip
          refine stp_load_box rfl 78 (.tmp 11) rfl wr.heap.size [.int .i64 (leaf : Int), .int .i64 (k : Int)] 78 (0, 0) (by simp [Act.eval, Act.put]) _ ((HBc.out.block wr.heap.size (by rw [HSZ.out]; omega)).trans HX11.out) Try.underlying78 rfl HI2.out ?_
          refine hK _ _ ?_
          clear hK K
          refine wpAny_ready (rs := [1]) (by kernel_rfl) (by simp) ?_
          refine all_cons rfl (fun K hK => ?_) ?_
          · skip
            refine stp_load_box rfl 78 (.tmp 11) rfl wr.heap.size [.int .i64 (leaf : Int), .int .i64 (k : Int)] 78 (0, 0) (by simp [Act.eval, Act.put]) _ ((HBc.out.block wr.heap.size (by rw [HSZ.out]; omega)).trans HX11.out) Try.underlying78 rfl HI2.out ?_
            refine hK _ _ ?_
            clear hK K
            refine wpAny_ready (rs := [2]) (by kernel_rfl) (by simp) ?_
            refine all_cons rfl (fun K hK => ?_) ?_
            · skip
              refine Stp.mk ?_
              go_simp
              go_wp2_with fail
              refine (c_first A c seed leaf k _ hs ((HR.out.below (below_to HB.out (below_to HB11.out HBc.out (by rw [HSZ.out]; omega)) HB.out.size)).more (Nat.le_trans HB.out.size (Nat.le_trans HB11.out.size HBc.out.size)))).mono ?_
              rintro e wf ⟨rfl, bf⟩
              replace HX := Lib.hid ((bf.block _ (Array.getElem?_eq_some_iff.1 HX.out).1).trans HX.out)
              replace HBc := Lib.hid (below_to HBc.out bf HBc.out.size)
              clear bf
              go_wp2
              refine wpAny_ready (rs := [5]) (by kernel_rfl) (by simp) ?_
              refine all_cons rfl (fun K hK => ?_) ?_
              · skip
                refine Stp.mk ?_
                go_simp
                go_wp2_with fail
                refine (c_on leaf k (firstL seed leaf k) 0 x _ (Nat.zero_le _) (by have := H15k.out; omega) (firstL_len _ _ _)).mono ?_
                rintro e wo ⟨rfl, bo⟩
                replace HX := Lib.hid ((bo.block _ (Array.getElem?_eq_some_iff.1 HX.out).1).trans HX.out)
                replace HBc := Lib.hid (below_to HBc.out bo HBc.out.size)
                clear bo
                have hol : (onN leaf k (firstL seed leaf k) 0 x).length = 16 := onN_len (firstL_len _ _ _) _
                have HOL := Lib.hid hol
                clear hol
                go_wp2
                refine wpAny_ready (rs := [7]) (by kernel_rfl) (by simp) ?_
                refine all_cons rfl (fun K hK => ?_) ?_
                · skip
                  refine stp_store_row rfl 75 (.tmp 12) (.tmp 36) rfl _ 75 _ HX.out (onN leaf k (firstL seed leaf k) 0 x) (by simp [Act.eval, Act.put]) (by simp [Act.eval, Act.put]) (by rw [HOL.out]; exact HI.out) (by rw [HOL.out]; rfl) ?_
                  intro w5 h5 g5 z5
                  refine hK _ _ ?_
                  clear hK K
                  refine wpAny_done (by kernel_rfl) ?_ _
                  have b5 := HBc.out.grown g5.out HBc.out.size (fun k e => by injection e with e; have := HGE.out; omega)
                  have b5r := below_to HB11.out b5 (by rw [HSZ.out]; omega)
                  have rx := Rd.ofRow (n := 16) h5.out (by rw [bvs_len, HOL.out])
                  have f5 := HF.out.below b5r (Nat.le_refl _)
                  have HF5 := Lib.hid f5
                  have HRX := Lib.hid rx
                  have HB5 := Lib.hid (below_to HB.out b5r HB.out.size)
                  clear HBc HX b5 b5r rx f5 h5 g5 HGE HX11 HB11
                  go_wp2_with (first
                    | (at_builtin; go_loud (refine wpList_append_to rfl (.tmp 37) (.tmp 38) rfl okB rfl HF5.out rfl HRX.out (bvs_one _) (16 * (k + 1)) (by omega) (bvs (sigN seed leaf ds (k + 1))) (by rw [HNEXT.out, bvs_app]) (by unfold maxLen; omega) (by omega) HB5.out.size ?_; intro D6 d6 w6 f6 g6 _)))
                  have b6 := HB5.out.grown g6 HB5.out.size (fun g hg => (HF5.out.row g hg).1)
                  clear g6
                  go_roundw
                  case rel => exact ⟨k + 1, _, _, by omega, by simp, rfl, f6, b6⟩
                  case measure => simp [intOf]; omega
                exact AllReady.nil
              exact AllReady.nil
            exact AllReady.nil
          exact AllReady.nil
        exact AllReady.nil
      exact AllReady.nil
    · obtain rfl : k = 10 := by omega
      have HF := Lib.hid hf
      have HB := Lib.hid hb
      clear hf hb
      go_wp2
      go_ret2
      exact ⟨_, _, rfl, HF.out, HB.out⟩
end Go.Proofs.Ytoggpnncmgcgoaa
