/-
  Contracts of package chain: is, key, on, first.
-/
import Derived.Test.YtoggpnncmgcgoaaStretch
import Derived.Test.YtoggpnncmgcgoaaStp
namespace Go.Proofs.Ytoggpnncmgcgoaa
open Go.RowKit
set_option linter.unusedVariables false
set_option linter.unusedSimpArgs false
set_option maxRecDepth 100000

/-- A value, one step on. -/
def stepB (leaf place : Nat) (v : List UInt8) (n : Nat) : List UInt8 := keyB (v ++ [UInt8.ofNat leaf, UInt8.ofNat place, UInt8.ofNat n])
/-- So many steps, from a number on. -/
def onN (leaf place : Nat) (v : List UInt8) (f : Nat) : Nat → List UInt8
  | 0 => v
  | k + 1 => stepB leaf place (onN leaf place v f k) (f + k)
theorem onN_len {leaf place : Nat} {v : List UInt8} {f : Nat} (hv : v.length = 16) (k : Nat) : (onN leaf place v f k).length = 16 := by
  cases k with
  | zero => exact hv
  | succ k => exact keyB_len _
theorem onN_add (leaf place : Nat) (v : List UInt8) (f j k : Nat) : onN leaf place v f (j + k) = onN leaf place (onN leaf place v f j) (f + j) k := by
  induction k with
  | zero => rfl
  | succ k ih =>
    show stepB leaf place (onN leaf place v f (j + k)) (f + (j + k)) = stepB leaf place (onN leaf place (onN leaf place v f j) (f + j) k) (f + j + k)
    rw [ih, Nat.add_assoc]
def firstL (seed : List UInt8) (leaf place : Nat) : List UInt8 := keyB (seed ++ [UInt8.ofNat leaf, UInt8.ofNat place])
theorem firstL_len (seed : List UInt8) (leaf place : Nat) : (firstL seed leaf place).length = 16 := keyB_len _
theorem wrap8_nat (n : Nat) : IntKind.u8.wrap (n : Int) = ((UInt8.ofNat n).toNat : Int) := by
  rw [IntKind.wrap_u8, UInt8.toNat_ofNat']
  omega

theorem c_is (n : Int) (w : World) (h1 : 0 ≤ n) (h2 : n < 8) : Calls Try.prog 49 #[.int .i64 n] w fun e w' => e = .returned (.bool true) ∧ w = w' := by
  go_enter Try.func49, Try.ntmps49
  go_wp2
  go_ret
  exact ⟨rfl, rfl⟩
theorem c_is_neg (n : Int) (w : World) (h1 : n < 0) : Calls Try.prog 49 #[.int .i64 n] w fun e w' => e = .returned (.bool false) ∧ w = w' := by
  have h : ¬ (0 ≤ n) := by omega
  go_enter Try.func49, Try.ntmps49
  go_wp2
  go_ret
  exact ⟨rfl, rfl⟩
theorem c_is_far (n : Int) (w : World) (h1 : 0 ≤ n) (h2 : 8 ≤ n) : Calls Try.prog 49 #[.int .i64 n] w fun e w' => e = .returned (.bool false) ∧ w = w' := by
  have h : ¬ (n < 8) := by omega
  go_enter Try.func49, Try.ntmps49
  go_wp2
  go_ret
  exact ⟨rfl, rfl⟩
def isB (n : Int) : Bool := decide (0 ≤ n) && decide (n < 8)
theorem c_is_any (n : Int) (w : World) : Calls Try.prog 49 #[.int .i64 n] w fun e w' => e = .returned (.bool (isB n)) ∧ w = w' := by
  by_cases h0 : 0 ≤ n
  · by_cases h1 : n < 8
    · rw [show isB n = true by simp [isB, h0, h1]]
      exact c_is n w h0 h1
    · rw [show isB n = false by simp [isB]; omega]
      exact c_is_far n w h0 (by omega)
  · rw [show isB n = false by simp [isB]; omega]
    exact c_is_neg n w (by omega)

def lastL (leaf : Nat) (l : List UInt8) : List UInt8 := keyB (l ++ [UInt8.ofNat leaf])
theorem c_key (leaf : Nat) (D : Option Addr) (n d : Nat) (l : List UInt8) (base : Nat) (w : World) (hl : l.length = n) (hn : n ≤ 1000) (hb : base ≤ w.heap.size) (hf : Fr w base 5 1 D n d (bvs l)) :
    Calls Try.prog 51 #[.int .i64 (leaf : Int), .slice D n d] w fun e w' => ∃ A c, e = .returned (.slice A 16 c) ∧ Fr w' base 5 1 A 16 c (bvs (lastL leaf l)) ∧ Below base w w' := by
  have hwl := wrap8_nat leaf
  have HF := Lib.hid hf
  have HB := Lib.hid hb
  clear hf hb
  go_enter Try.func51, Try.ntmps51
  have f1 := HF.out.alloc (.cells (bvs [UInt8.ofNat leaf]).toArray 5)
  have b1 : Below base w (w.alloc (.cells (bvs [UInt8.ofNat leaf]).toArray 5)) := below_alloc (Below.refl _ _) _ HB.out
  have r1 := Rd.made w 5 1 1 (bvs [UInt8.ofNat leaf]) rfl
  have HF1 := Lib.hid f1
  have HB1 := Lib.hid b1
  have HR1 := Lib.hid r1
  clear f1 b1 r1
  go_wp2_with (first
    | (at_builtin; go_loud (refine wpList_append_to rfl (.tmp 5) (.tmp 8) rfl okB rfl HF1.out rfl HR1.out (bvs_one _) (n + 1) rfl _ (bvs_app _ _).symm (by unfold maxLen; omega) (by omega) (by rw [World.size_alloc]; have := HB.out; omega) ?_; intro D3 d3 w3 f3 g3 _)))
  have b3 := HB1.out.grown g3 (by rw [World.size_alloc]; have := HB.out; omega) (fun g hg => (HF1.out.row g hg).1)
  have hz3 := b3.size
  have HB3 := Lib.hid b3
  have HF3 := Lib.hid f3
  clear b3 f3 g3 HF1 HB1 HR1
  refine (k_key D3 (n + 1) d3 _ w3 (by rw [List.length_append, hl]; rfl) (by omega) HF3.out.nc HF3.out.rd).mono ?_
  rintro e w4 ⟨A4, c4, rfl, f4, b4⟩
  have hb4 := below_to HB3.out b4 (by have := HB.out; omega)
  have hf4 := f4.mono (base' := base) (by have := HB.out; omega)
  clear f4 b4
  go_wp2
  go_ret
  exact ⟨_, _, rfl, hf4, hb4⟩

/-! ### first -/
theorem rd_of_alloc {B : Nat} {a W : World} (h : Below B a W) {cs : List Value} {n : Nat} (t : TypeId) (hn : cs.length = n) : Rd (W.alloc (.cells cs.toArray t)) (W.alloc (.cells cs.toArray t)).heap.size 1 (some ⟨W.heap.size, 0, none⟩) n cs := Rd.ofRow (heap_alloc_new W _) hn
theorem box_of_below {B : Nat} {a W : World} (h : Below B a W) (o : Obj) : (W.alloc o).heap[W.heap.size]? = some o := heap_alloc_new W o
set_option maxHeartbeats 4000000 in
theorem c_first (A : Option Addr) (c : Nat) (seed : List UInt8) (leaf place : Nat) (w : World) (hs : seed.length = 16) (hr : Rd w w.heap.size 1 A 16 (bvs seed)) :
    Calls Try.prog 75 #[.slice A 16 c, .agg #[.int .i64 (leaf : Int), .int .i64 (place : Int)]] w fun e w' => e = .returned (.agg (bvs (firstL seed leaf place)).toArray) ∧ Below w.heap.size w w' := by
  have hwl := wrap8_nat leaf
  have hwp := wrap8_nat place
  have hi16 : (Try.prog.info? 75).map (·.size) = some 16 := by kernel_rfl
  have hb0 := below_alloc (below_new w (.cells #[.int .i64 (leaf : Int), .int .i64 (place : Int)] 78)) (.cells #[.int .u8 0, .int .u8 0, .int .u8 0, .int .u8 0, .int .u8 0, .int .u8 0, .int .u8 0, .int .u8 0, .int .u8 0, .int .u8 0, .int .u8 0, .int .u8 0, .int .u8 0, .int .u8 0, .int .u8 0, .int .u8 0] 75) (Nat.le_refl _)
  have hx0 := (Below.heap_alloc (w.alloc (.cells #[.int .i64 (leaf : Int), .int .i64 (place : Int)] 78)) (.cells #[.int .u8 0, .int .u8 0, .int .u8 0, .int .u8 0, .int .u8 0, .int .u8 0, .int .u8 0, .int .u8 0, .int .u8 0, .int .u8 0, .int .u8 0, .int .u8 0, .int .u8 0, .int .u8 0, .int .u8 0, .int .u8 0] 75) w.heap.size (by rw [World.size_alloc]; omega)).trans (heap_alloc_new w (.cells #[.int .i64 (leaf : Int), .int .i64 (place : Int)] 78))
  have hx1 := heap_alloc_new (w.alloc (.cells #[.int .i64 (leaf : Int), .int .i64 (place : Int)] 78)) (.cells #[.int .u8 0, .int .u8 0, .int .u8 0, .int .u8 0, .int .u8 0, .int .u8 0, .int .u8 0, .int .u8 0, .int .u8 0, .int .u8 0, .int .u8 0, .int .u8 0, .int .u8 0, .int .u8 0, .int .u8 0, .int .u8 0] 75)
  have hz0 : ((w.alloc (.cells #[.int .i64 (leaf : Int), .int .i64 (place : Int)] 78)).alloc (.cells #[.int .u8 0, .int .u8 0, .int .u8 0, .int .u8 0, .int .u8 0, .int .u8 0, .int .u8 0, .int .u8 0, .int .u8 0, .int .u8 0, .int .u8 0, .int .u8 0, .int .u8 0, .int .u8 0, .int .u8 0, .int .u8 0] 75)).heap.size = w.heap.size + 2 := by rw [World.size_alloc, World.size_alloc]
  rw [World.size_alloc] at hx1
  have hcl := fun (W : World) (h : Below w.heap.size w W) => m_clone A 16 c seed W hs (by omega) ((hr.below h).more h.size)
  have HCL := Lib.hid hcl
  have HI := Lib.hid hi16
  have HB0 := Lib.hid hb0
  have HX0 := Lib.hid hx0
  have HX1 := Lib.hid hx1
  have HZ := Lib.hid hz0
  clear hcl hi16 hb0 hx0 hx1 hz0 hr
  go_enter Try.func75, Try.ntmps75
  go_wp2_with fail
  generalize hw0 : ((w.alloc (.cells #[.int .i64 (leaf : Int), .int .i64 (place : Int)] 78)).alloc (.cells #[.int .u8 0, .int .u8 0, .int .u8 0, .int .u8 0, .int .u8 0, .int .u8 0, .int .u8 0, .int .u8 0, .int .u8 0, .int .u8 0, .int .u8 0, .int .u8 0, .int .u8 0, .int .u8 0, .int .u8 0, .int .u8 0] 75)) = w0 at *
  clear hw0
  have HBc := Lib.hid (Below.refl w0.heap.size w0).drew
  have HL := Lib.hid (fun (W : World) (h : Below w0.heap.size w0 W) => (show W.cell? ⟨w.heap.size, 0, none⟩ = some (.int .i64 (leaf : Int)) from by
    rw [cell_of_row W _ 0 _ _ _ ((h.block w.heap.size (by rw [HZ.out]; omega)).trans HX0.out)]; rfl))
  have HP := Lib.hid (fun (W : World) (h : Below w0.heap.size w0 W) => (show W.cell? ⟨w.heap.size, 1, none⟩ = some (.int .i64 (place : Int)) from by
    rw [cell_of_row W _ 1 _ _ _ ((h.block w.heap.size (by rw [HZ.out]; omega)).trans HX0.out)]; rfl))
  refine wp_region_any (by kernel_rfl) ?_
  try (change wpAny _ _ _ _ _ _ _ (World.drew _))
  refine wpAny_take (i := 0) (v := ?_) rfl (by kernel_rfl) (by kernel_rfl) (by kernel_rfl) (fun _ _ _ h => h) (Or.inl ⟨by rfl, ?hyq⟩) ?_
  case hyq => (intro w; go_simp; try (with_reducible rfl))
  refine wpAny_take (i := 2) (v := ?_) rfl (by kernel_rfl) (by kernel_rfl) (by kernel_rfl) (fun _ _ _ h => h) (Or.inl ⟨by rfl, ?hyq⟩) ?_
  case hyq => (intro w; go_simp; try (with_reducible rfl))
  refine wpAny_take (i := 5) (v := ?_) rfl (by kernel_rfl) (by kernel_rfl) (by kernel_rfl) (fun _ _ _ h => h) (Or.inl ⟨by rfl, ?hyq⟩) ?_
  case hyq => (intro w; go_simp; try (with_reducible rfl))
  refine wpAny_ready (rs := [1, 3, 6]) (by kernel_rfl) (by simp) ?_
  refine all_cons rfl (fun K hK => ?_) ?_
  · skip
    refine Stp.mk ?_
    go_simp
    go_wp2_with fail
    refine (HCL.out _ (below_to HB0.out HBc.out (by rw [HZ.out]; omega))).mono ?_
    rintro e wc ⟨D, d, rfl, f1, b1⟩
    have HCN := Lib.hid (Nat.le_trans (show w0.heap.size ≤ _ from HBc.out.size) (Nat.le_refl _))
    have HF := Lib.hid (f1.mono (base' := w0.heap.size) HBc.out.size)
    replace HBc := Lib.hid (below_to HBc.out b1 HBc.out.size)
    clear f1 b1
    go_wp2
    refine wpAny_ready (rs := [3, 6]) (by kernel_rfl) (by simp) ?_
    refine all_cons rfl (fun K hK => ?_) ?_
    · skip
      refine stp_load_cell rfl 3 (.tmp 7) rfl Try.underlying3 ⟨w.heap.size, 0, none⟩ (by simp [Act.eval, Act.put]) (.int .i64 (leaf : Int)) (HL.out _ HBc.out) ?_
      refine hK _ _ ?_
      clear hK K
      refine wpAny_take (i := 4) (v := ?_) rfl (by kernel_rfl) (by kernel_rfl) (by kernel_rfl) (fun _ _ _ h => h) (Or.inl ⟨by rfl, ?hyq⟩) ?_
      case hyq => (intro w; go_simp; try (with_reducible rfl))
      refine wpAny_ready (rs := [6]) (by kernel_rfl) (by simp) ?_
      refine all_cons rfl (fun K hK => ?_) ?_
      · skip
        refine stp_load_cell rfl 3 (.tmp 10) rfl Try.underlying3 ⟨w.heap.size, 1, none⟩ (by simp [Act.eval, Act.put]) (.int .i64 (place : Int)) (HP.out _ HBc.out) ?_
        refine hK _ _ ?_
        clear hK K
        refine wpAny_take (i := 7) (v := ?_) rfl (by kernel_rfl) (by kernel_rfl) (by kernel_rfl) (fun _ _ _ h => h) (Or.inl ⟨by rfl, ?hyq⟩) ?_
        case hyq => (intro w; go_simp; try (with_reducible rfl))
        refine wpAny_ready (rs := [8]) (by kernel_rfl) (by simp) ?_
        refine all_cons rfl (fun K hK => ?_) ?_
        · skip
          refine Stp.mk ?_
          go_simp
          have HRB := Lib.hid (rd_of_alloc HBc.out (cs := bvs [UInt8.ofNat leaf, UInt8.ofNat place]) (n := 2) 5 rfl)
          replace HF := Lib.hid (HF.out.alloc (.cells (bvs [UInt8.ofNat leaf, UInt8.ofNat place]).toArray 5))
          replace HBc := Lib.hid (below_alloc HBc.out (.cells (bvs [UInt8.ofNat leaf, UInt8.ofNat place]).toArray 5) (Nat.le_refl _))
          refine hK _ _ ?_
          clear hK K
          refine wpAny_ready (rs := [9]) (by kernel_rfl) (by simp) ?_
          refine all_cons rfl (fun K hK => ?_) ?_
          · skip
            refine stp_append_to (c' := 2) rfl (.tmp 6) (.tmp 13) rfl okB (by simp [Act.eval, Act.put]) HF.out (by simp [Act.eval, Act.put]) HRB.out (bvs_one _) 18 rfl _ (bvs_app _ _).symm (by unfold maxLen; omega) (by omega) HBc.out.size ?_
            intro D4 d4 w4 f4 g4
            replace HBc := Lib.hid (HBc.out.grown g4.out HBc.out.size (fun g hg => (HF.out.row g hg).1))
            clear HF HRB g4
            refine hK _ _ ?_
            clear hK K
            refine wpAny_ready (rs := [10]) (by kernel_rfl) (by simp) ?_
            refine all_cons rfl (fun K hK => ?_) ?_
            · skip
              refine Stp.mk ?_
              go_simp
              go_wp2_with fail
              refine (k_key D4 18 d4 _ w4 (by rw [List.length_append, hs]; rfl) (by decide) f4.out.nc f4.out.rd).mono ?_
              rintro e w5 ⟨D5, d5, rfl, f5, b5⟩
              replace HBc := Lib.hid (below_to HBc.out b5 HBc.out.size)
              have HF5 := Lib.hid f5
              obtain ⟨g5, o5, rfl, hg5, -⟩ := f5.rd.2 (by omega)
              have har := run_arrayAt_slice (P := Try.prog) Try.underlying75 (some ⟨g5, o5, none⟩) 16 d5 (by omega)
              clear b5 f5 f4
              go_wp2
              refine wpAny_take (i := 11) (v := ?_) rfl (by kernel_rfl) (by kernel_rfl) (by kernel_rfl) (fun _ _ _ h => h) (Or.inl ⟨by rfl, ?hyq⟩) ?_
              case hyq => (intro w; go_simp; try (with_reducible rfl))
              refine wpAny_ready (rs := [12]) (by kernel_rfl) (by simp) ?_
              refine all_cons rfl (fun K hK => ?_) ?_
              · skip
                have hl16 := HF5.out.rd.range 0 16
                rw [List.drop_zero, List.take_of_length_le (by rw [keyB_len]; exact Nat.le_refl _)] at hl16
                refine stp_load_arr rfl 75 (.tmp 16) rfl g5 (o5 + 0) (by simp [Act.eval, Act.put]) (bvs (firstL seed leaf place)) _ hl16 Try.underlying75 rfl (by rw [bvs_len, firstL_len]; exact HI.out) ?_
                clear hl16
                refine hK _ _ ?_
                clear hK K
                refine wpAny_ready (rs := [13]) (by kernel_rfl) (by simp) ?_
                refine all_cons rfl (fun K hK => ?_) ?_
                · skip
                  have HXX := Lib.hid ((HBc.out.block (w.heap.size + 1) (by rw [HZ.out]; omega)).trans HX1.out)
                  refine stp_store_row rfl 75 (.tmp 4) (.tmp 17) rfl _ 75 _ HXX.out (firstL seed leaf place) (by simp [Act.eval, Act.put]) (by simp [Act.eval, Act.put]) (by rw [firstL_len]; exact HI.out) (by rw [firstL_len]; rfl) ?_
                  intro w6 h6 g6 z6
                  refine hK _ _ ?_
                  clear hK K
                  refine wpAny_done (by kernel_rfl) ?_ _
                  have b6 := below_to HB0.out HBc.out (by rw [HZ.out]; omega)
                  have b7 := b6.grown g6.out b6.size (fun k e => by injection e with e; omega)
                  clear HL HP HX0 HX1 HB0 HBc HF5 HXX b6
                  go_wp2
                  exact bodyPost_ret (results_cell_row rfl _ w6 (w.heap.size + 1) 75 (bvs (firstL seed leaf place)).toArray (0, 0) _ rfl h6.out Try.underlying75 rfl (by rw [List.size_toArray, bvs_len, firstL_len]; exact HI.out)) rfl ⟨rfl, b7⟩
                exact AllReady.nil
              exact AllReady.nil
            exact AllReady.nil
          exact AllReady.nil
        exact AllReady.nil
      exact AllReady.nil
    refine all_cons rfl (fun K hK => ?_) ?_
    · skip
      refine stp_load_cell rfl 3 (.tmp 10) rfl Try.underlying3 ⟨w.heap.size, 1, none⟩ (by simp [Act.eval, Act.put]) (.int .i64 (place : Int)) (HP.out _ HBc.out) ?_
      refine hK _ _ ?_
      clear hK K
      refine wpAny_take (i := 7) (v := ?_) rfl (by kernel_rfl) (by kernel_rfl) (by kernel_rfl) (fun _ _ _ h => h) (Or.inl ⟨by rfl, ?hyq⟩) ?_
      case hyq => (intro w; go_simp; try (with_reducible rfl))
      refine wpAny_ready (rs := [3]) (by kernel_rfl) (by simp) ?_
      refine all_cons rfl (fun K hK => ?_) ?_
      · skip
        refine stp_load_cell rfl 3 (.tmp 7) rfl Try.underlying3 ⟨w.heap.size, 0, none⟩ (by simp [Act.eval, Act.put]) (.int .i64 (leaf : Int)) (HL.out _ HBc.out) ?_
        refine hK _ _ ?_
        clear hK K
        refine wpAny_take (i := 4) (v := ?_) rfl (by kernel_rfl) (by kernel_rfl) (by kernel_rfl) (fun _ _ _ h => h) (Or.inl ⟨by rfl, ?hyq⟩) ?_
        case hyq => (intro w; go_simp; try (with_reducible rfl))
        refine wpAny_ready (rs := [8]) (by kernel_rfl) (by simp) ?_
        refine all_cons rfl (fun K hK => ?_) ?_
        · skip
          refine Stp.mk ?_
          go_simp
          have HRB := Lib.hid (rd_of_alloc HBc.out (cs := bvs [UInt8.ofNat leaf, UInt8.ofNat place]) (n := 2) 5 rfl)
          replace HF := Lib.hid (HF.out.alloc (.cells (bvs [UInt8.ofNat leaf, UInt8.ofNat place]).toArray 5))
          replace HBc := Lib.hid (below_alloc HBc.out (.cells (bvs [UInt8.ofNat leaf, UInt8.ofNat place]).toArray 5) (Nat.le_refl _))
          refine hK _ _ ?_
          clear hK K
          refine wpAny_ready (rs := [9]) (by kernel_rfl) (by simp) ?_
          refine all_cons rfl (fun K hK => ?_) ?_
          · skip
            refine stp_append_to (c' := 2) rfl (.tmp 6) (.tmp 13) rfl okB (by simp [Act.eval, Act.put]) HF.out (by simp [Act.eval, Act.put]) HRB.out (bvs_one _) 18 rfl _ (bvs_app _ _).symm (by unfold maxLen; omega) (by omega) HBc.out.size ?_
            intro D4 d4 w4 f4 g4
            replace HBc := Lib.hid (HBc.out.grown g4.out HBc.out.size (fun g hg => (HF.out.row g hg).1))
            clear HF HRB g4
            refine hK _ _ ?_
            clear hK K
            refine wpAny_ready (rs := [10]) (by kernel_rfl) (by simp) ?_
            refine all_cons rfl (fun K hK => ?_) ?_
            · skip
              refine Stp.mk ?_
              go_simp
              go_wp2_with fail
              refine (k_key D4 18 d4 _ w4 (by rw [List.length_append, hs]; rfl) (by decide) f4.out.nc f4.out.rd).mono ?_
              rintro e w5 ⟨D5, d5, rfl, f5, b5⟩
              replace HBc := Lib.hid (below_to HBc.out b5 HBc.out.size)
              have HF5 := Lib.hid f5
              obtain ⟨g5, o5, rfl, hg5, -⟩ := f5.rd.2 (by omega)
              have har := run_arrayAt_slice (P := Try.prog) Try.underlying75 (some ⟨g5, o5, none⟩) 16 d5 (by omega)
              clear b5 f5 f4
              go_wp2
              refine wpAny_take (i := 11) (v := ?_) rfl (by kernel_rfl) (by kernel_rfl) (by kernel_rfl) (fun _ _ _ h => h) (Or.inl ⟨by rfl, ?hyq⟩) ?_
              case hyq => (intro w; go_simp; try (with_reducible rfl))
              refine wpAny_ready (rs := [12]) (by kernel_rfl) (by simp) ?_
              refine all_cons rfl (fun K hK => ?_) ?_
              · skip
                have hl16 := HF5.out.rd.range 0 16
                rw [List.drop_zero, List.take_of_length_le (by rw [keyB_len]; exact Nat.le_refl _)] at hl16
                refine stp_load_arr rfl 75 (.tmp 16) rfl g5 (o5 + 0) (by simp [Act.eval, Act.put]) (bvs (firstL seed leaf place)) _ hl16 Try.underlying75 rfl (by rw [bvs_len, firstL_len]; exact HI.out) ?_
                clear hl16
                refine hK _ _ ?_
                clear hK K
                refine wpAny_ready (rs := [13]) (by kernel_rfl) (by simp) ?_
                refine all_cons rfl (fun K hK => ?_) ?_
                · skip
                  have HXX := Lib.hid ((HBc.out.block (w.heap.size + 1) (by rw [HZ.out]; omega)).trans HX1.out)
                  refine stp_store_row rfl 75 (.tmp 4) (.tmp 17) rfl _ 75 _ HXX.out (firstL seed leaf place) (by simp [Act.eval, Act.put]) (by simp [Act.eval, Act.put]) (by rw [firstL_len]; exact HI.out) (by rw [firstL_len]; rfl) ?_
                  intro w6 h6 g6 z6
                  refine hK _ _ ?_
                  clear hK K
                  refine wpAny_done (by kernel_rfl) ?_ _
                  have b6 := below_to HB0.out HBc.out (by rw [HZ.out]; omega)
                  have b7 := b6.grown g6.out b6.size (fun k e => by injection e with e; omega)
                  clear HL HP HX0 HX1 HB0 HBc HF5 HXX b6
                  go_wp2
                  exact bodyPost_ret (results_cell_row rfl _ w6 (w.heap.size + 1) 75 (bvs (firstL seed leaf place)).toArray (0, 0) _ rfl h6.out Try.underlying75 rfl (by rw [List.size_toArray, bvs_len, firstL_len]; exact HI.out)) rfl ⟨rfl, b7⟩
                exact AllReady.nil
              exact AllReady.nil
            exact AllReady.nil
          exact AllReady.nil
        exact AllReady.nil
      exact AllReady.nil
    exact AllReady.nil
  refine all_cons rfl (fun K hK => ?_) ?_
  · skip
    refine stp_load_cell rfl 3 (.tmp 7) rfl Try.underlying3 ⟨w.heap.size, 0, none⟩ (by simp [Act.eval, Act.put]) (.int .i64 (leaf : Int)) (HL.out _ HBc.out) ?_
    refine hK _ _ ?_
    clear hK K
    refine wpAny_take (i := 4) (v := ?_) rfl (by kernel_rfl) (by kernel_rfl) (by kernel_rfl) (fun _ _ _ h => h) (Or.inl ⟨by rfl, ?hyq⟩) ?_
    case hyq => (intro w; go_simp; try (with_reducible rfl))
    refine wpAny_ready (rs := [1, 6]) (by kernel_rfl) (by simp) ?_
    refine all_cons rfl (fun K hK => ?_) ?_
    · skip
      refine Stp.mk ?_
      go_simp
      go_wp2_with fail
      refine (HCL.out _ (below_to HB0.out HBc.out (by rw [HZ.out]; omega))).mono ?_
      rintro e wc ⟨D, d, rfl, f1, b1⟩
      have HCN := Lib.hid (Nat.le_trans (show w0.heap.size ≤ _ from HBc.out.size) (Nat.le_refl _))
      have HF := Lib.hid (f1.mono (base' := w0.heap.size) HBc.out.size)
      replace HBc := Lib.hid (below_to HBc.out b1 HBc.out.size)
      clear f1 b1
      go_wp2
      refine wpAny_ready (rs := [6]) (by kernel_rfl) (by simp) ?_
      refine all_cons rfl (fun K hK => ?_) ?_
      · skip
        refine stp_load_cell rfl 3 (.tmp 10) rfl Try.underlying3 ⟨w.heap.size, 1, none⟩ (by simp [Act.eval, Act.put]) (.int .i64 (place : Int)) (HP.out _ HBc.out) ?_
        refine hK _ _ ?_
        clear hK K
        refine wpAny_take (i := 7) (v := ?_) rfl (by kernel_rfl) (by kernel_rfl) (by kernel_rfl) (fun _ _ _ h => h) (Or.inl ⟨by rfl, ?hyq⟩) ?_
        case hyq => (intro w; go_simp; try (with_reducible rfl))
        refine wpAny_ready (rs := [8]) (by kernel_rfl) (by simp) ?_
        refine all_cons rfl (fun K hK => ?_) ?_
        · skip
          refine Stp.mk ?_
          go_simp
          have HRB := Lib.hid (rd_of_alloc HBc.out (cs := bvs [UInt8.ofNat leaf, UInt8.ofNat place]) (n := 2) 5 rfl)
          replace HF := Lib.hid (HF.out.alloc (.cells (bvs [UInt8.ofNat leaf, UInt8.ofNat place]).toArray 5))
          replace HBc := Lib.hid (below_alloc HBc.out (.cells (bvs [UInt8.ofNat leaf, UInt8.ofNat place]).toArray 5) (Nat.le_refl _))
          refine hK _ _ ?_
          clear hK K
          refine wpAny_ready (rs := [9]) (by kernel_rfl) (by simp) ?_
          refine all_cons rfl (fun K hK => ?_) ?_
          · skip
            refine stp_append_to (c' := 2) rfl (.tmp 6) (.tmp 13) rfl okB (by simp [Act.eval, Act.put]) HF.out (by simp [Act.eval, Act.put]) HRB.out (bvs_one _) 18 rfl _ (bvs_app _ _).symm (by unfold maxLen; omega) (by omega) HBc.out.size ?_
            intro D4 d4 w4 f4 g4
            replace HBc := Lib.hid (HBc.out.grown g4.out HBc.out.size (fun g hg => (HF.out.row g hg).1))
            clear HF HRB g4
            refine hK _ _ ?_
            clear hK K
            refine wpAny_ready (rs := [10]) (by kernel_rfl) (by simp) ?_
            refine all_cons rfl (fun K hK => ?_) ?_
            · skip
              refine Stp.mk ?_
              go_simp
              go_wp2_with fail
              refine (k_key D4 18 d4 _ w4 (by rw [List.length_append, hs]; rfl) (by decide) f4.out.nc f4.out.rd).mono ?_
              rintro e w5 ⟨D5, d5, rfl, f5, b5⟩
              replace HBc := Lib.hid (below_to HBc.out b5 HBc.out.size)
              have HF5 := Lib.hid f5
              obtain ⟨g5, o5, rfl, hg5, -⟩ := f5.rd.2 (by omega)
              have har := run_arrayAt_slice (P := Try.prog) Try.underlying75 (some ⟨g5, o5, none⟩) 16 d5 (by omega)
              clear b5 f5 f4
              go_wp2
              refine wpAny_take (i := 11) (v := ?_) rfl (by kernel_rfl) (by kernel_rfl) (by kernel_rfl) (fun _ _ _ h => h) (Or.inl ⟨by rfl, ?hyq⟩) ?_
              case hyq => (intro w; go_simp; try (with_reducible rfl))
              refine wpAny_ready (rs := [12]) (by kernel_rfl) (by simp) ?_
              refine all_cons rfl (fun K hK => ?_) ?_
              · skip
                have hl16 := HF5.out.rd.range 0 16
                rw [List.drop_zero, List.take_of_length_le (by rw [keyB_len]; exact Nat.le_refl _)] at hl16
                refine stp_load_arr rfl 75 (.tmp 16) rfl g5 (o5 + 0) (by simp [Act.eval, Act.put]) (bvs (firstL seed leaf place)) _ hl16 Try.underlying75 rfl (by rw [bvs_len, firstL_len]; exact HI.out) ?_
                clear hl16
                refine hK _ _ ?_
                clear hK K
                refine wpAny_ready (rs := [13]) (by kernel_rfl) (by simp) ?_
                refine all_cons rfl (fun K hK => ?_) ?_
                · skip
                  have HXX := Lib.hid ((HBc.out.block (w.heap.size + 1) (by rw [HZ.out]; omega)).trans HX1.out)
                  refine stp_store_row rfl 75 (.tmp 4) (.tmp 17) rfl _ 75 _ HXX.out (firstL seed leaf place) (by simp [Act.eval, Act.put]) (by simp [Act.eval, Act.put]) (by rw [firstL_len]; exact HI.out) (by rw [firstL_len]; rfl) ?_
                  intro w6 h6 g6 z6
                  refine hK _ _ ?_
                  clear hK K
                  refine wpAny_done (by kernel_rfl) ?_ _
                  have b6 := below_to HB0.out HBc.out (by rw [HZ.out]; omega)
                  have b7 := b6.grown g6.out b6.size (fun k e => by injection e with e; omega)
                  clear HL HP HX0 HX1 HB0 HBc HF5 HXX b6
                  go_wp2
                  exact bodyPost_ret (results_cell_row rfl _ w6 (w.heap.size + 1) 75 (bvs (firstL seed leaf place)).toArray (0, 0) _ rfl h6.out Try.underlying75 rfl (by rw [List.size_toArray, bvs_len, firstL_len]; exact HI.out)) rfl ⟨rfl, b7⟩
                exact AllReady.nil
              exact AllReady.nil
            exact AllReady.nil
          exact AllReady.nil
        exact AllReady.nil
      exact AllReady.nil
    refine all_cons rfl (fun K hK => ?_) ?_
    · skip
      refine stp_load_cell rfl 3 (.tmp 10) rfl Try.underlying3 ⟨w.heap.size, 1, none⟩ (by simp [Act.eval, Act.put]) (.int .i64 (place : Int)) (HP.out _ HBc.out) ?_
      refine hK _ _ ?_
      clear hK K
      refine wpAny_take (i := 7) (v := ?_) rfl (by kernel_rfl) (by kernel_rfl) (by kernel_rfl) (fun _ _ _ h => h) (Or.inl ⟨by rfl, ?hyq⟩) ?_
      case hyq => (intro w; go_simp; try (with_reducible rfl))
      refine wpAny_ready (rs := [1, 8]) (by kernel_rfl) (by simp) ?_
      refine all_cons rfl (fun K hK => ?_) ?_
      · skip
        refine Stp.mk ?_
        go_simp
        go_wp2_with fail
        refine (HCL.out _ (below_to HB0.out HBc.out (by rw [HZ.out]; omega))).mono ?_
        rintro e wc ⟨D, d, rfl, f1, b1⟩
        have HCN := Lib.hid (Nat.le_trans (show w0.heap.size ≤ _ from HBc.out.size) (Nat.le_refl _))
        have HF := Lib.hid (f1.mono (base' := w0.heap.size) HBc.out.size)
        replace HBc := Lib.hid (below_to HBc.out b1 HBc.out.size)
        clear f1 b1
        go_wp2
        refine wpAny_ready (rs := [8]) (by kernel_rfl) (by simp) ?_
        refine all_cons rfl (fun K hK => ?_) ?_
        · skip
          refine Stp.mk ?_
          go_simp
          have HRB := Lib.hid (rd_of_alloc HBc.out (cs := bvs [UInt8.ofNat leaf, UInt8.ofNat place]) (n := 2) 5 rfl)
          replace HF := Lib.hid (HF.out.alloc (.cells (bvs [UInt8.ofNat leaf, UInt8.ofNat place]).toArray 5))
          replace HBc := Lib.hid (below_alloc HBc.out (.cells (bvs [UInt8.ofNat leaf, UInt8.ofNat place]).toArray 5) (Nat.le_refl _))
          refine hK _ _ ?_
          clear hK K
          refine wpAny_ready (rs := [9]) (by kernel_rfl) (by simp) ?_
          refine all_cons rfl (fun K hK => ?_) ?_
          · skip
            refine stp_append_to (c' := 2) rfl (.tmp 6) (.tmp 13) rfl okB (by simp [Act.eval, Act.put]) HF.out (by simp [Act.eval, Act.put]) HRB.out (bvs_one _) 18 rfl _ (bvs_app _ _).symm (by unfold maxLen; omega) (by omega) HBc.out.size ?_
            intro D4 d4 w4 f4 g4
            replace HBc := Lib.hid (HBc.out.grown g4.out HBc.out.size (fun g hg => (HF.out.row g hg).1))
            clear HF HRB g4
            refine hK _ _ ?_
            clear hK K
            refine wpAny_ready (rs := [10]) (by kernel_rfl) (by simp) ?_
            refine all_cons rfl (fun K hK => ?_) ?_
            · skip
              refine Stp.mk ?_
              go_simp
              go_wp2_with fail
              refine (k_key D4 18 d4 _ w4 (by rw [List.length_append, hs]; rfl) (by decide) f4.out.nc f4.out.rd).mono ?_
              rintro e w5 ⟨D5, d5, rfl, f5, b5⟩
              replace HBc := Lib.hid (below_to HBc.out b5 HBc.out.size)
              have HF5 := Lib.hid f5
              obtain ⟨g5, o5, rfl, hg5, -⟩ := f5.rd.2 (by omega)
              have har := run_arrayAt_slice (P := Try.prog) Try.underlying75 (some ⟨g5, o5, none⟩) 16 d5 (by omega)
              clear b5 f5 f4
              go_wp2
              refine wpAny_take (i := 11) (v := ?_) rfl (by kernel_rfl) (by kernel_rfl) (by kernel_rfl) (fun _ _ _ h => h) (Or.inl ⟨by rfl, ?hyq⟩) ?_
              case hyq => (intro w; go_simp; try (with_reducible rfl))
              refine wpAny_ready (rs := [12]) (by kernel_rfl) (by simp) ?_
              refine all_cons rfl (fun K hK => ?_) ?_
              · skip
                have hl16 := HF5.out.rd.range 0 16
                rw [List.drop_zero, List.take_of_length_le (by rw [keyB_len]; exact Nat.le_refl _)] at hl16
                refine stp_load_arr rfl 75 (.tmp 16) rfl g5 (o5 + 0) (by simp [Act.eval, Act.put]) (bvs (firstL seed leaf place)) _ hl16 Try.underlying75 rfl (by rw [bvs_len, firstL_len]; exact HI.out) ?_
                clear hl16
                refine hK _ _ ?_
                clear hK K
                refine wpAny_ready (rs := [13]) (by kernel_rfl) (by simp) ?_
                refine all_cons rfl (fun K hK => ?_) ?_
                · skip
                  have HXX := Lib.hid ((HBc.out.block (w.heap.size + 1) (by rw [HZ.out]; omega)).trans HX1.out)
                  refine stp_store_row rfl 75 (.tmp 4) (.tmp 17) rfl _ 75 _ HXX.out (firstL seed leaf place) (by simp [Act.eval, Act.put]) (by simp [Act.eval, Act.put]) (by rw [firstL_len]; exact HI.out) (by rw [firstL_len]; rfl) ?_
                  intro w6 h6 g6 z6
                  refine hK _ _ ?_
                  clear hK K
                  refine wpAny_done (by kernel_rfl) ?_ _
                  have b6 := below_to HB0.out HBc.out (by rw [HZ.out]; omega)
                  have b7 := b6.grown g6.out b6.size (fun k e => by injection e with e; omega)
                  clear HL HP HX0 HX1 HB0 HBc HF5 HXX b6
                  go_wp2
                  exact bodyPost_ret (results_cell_row rfl _ w6 (w.heap.size + 1) 75 (bvs (firstL seed leaf place)).toArray (0, 0) _ rfl h6.out Try.underlying75 rfl (by rw [List.size_toArray, bvs_len, firstL_len]; exact HI.out)) rfl ⟨rfl, b7⟩
                exact AllReady.nil
              exact AllReady.nil
            exact AllReady.nil
          exact AllReady.nil
        exact AllReady.nil
      refine all_cons rfl (fun K hK => ?_) ?_
      · skip
        refine Stp.mk ?_
        go_simp
        have HRB := Lib.hid (rd_of_alloc HBc.out (cs := bvs [UInt8.ofNat leaf, UInt8.ofNat place]) (n := 2) 5 rfl)
        replace HBc := Lib.hid (below_alloc HBc.out (.cells (bvs [UInt8.ofNat leaf, UInt8.ofNat place]).toArray 5) (Nat.le_refl _))
        refine hK _ _ ?_
        clear hK K
        refine wpAny_ready (rs := [1]) (by kernel_rfl) (by simp) ?_
        refine all_cons rfl (fun K hK => ?_) ?_
        · skip
          refine Stp.mk ?_
          go_simp
          go_wp2_with fail
          refine (HCL.out _ (below_to HB0.out HBc.out (by rw [HZ.out]; omega))).mono ?_
          rintro e wc ⟨D, d, rfl, f1, b1⟩
          have HCN := Lib.hid (Nat.le_trans (show w0.heap.size ≤ _ from HBc.out.size) (Nat.le_refl _))
          have HF := Lib.hid (f1.mono (base' := w0.heap.size) HBc.out.size)
          replace HRB := Lib.hid ((HRB.out.below b1).more b1.size)
          replace HBc := Lib.hid (below_to HBc.out b1 HBc.out.size)
          clear f1 b1
          go_wp2
          refine wpAny_ready (rs := [9]) (by kernel_rfl) (by simp) ?_
          refine all_cons rfl (fun K hK => ?_) ?_
          · skip
            refine stp_append_to (c' := 2) rfl (.tmp 6) (.tmp 13) rfl okB (by simp [Act.eval, Act.put]) HF.out (by simp [Act.eval, Act.put]) HRB.out (bvs_one _) 18 rfl _ (bvs_app _ _).symm (by unfold maxLen; omega) (by omega) HBc.out.size ?_
            intro D4 d4 w4 f4 g4
            replace HBc := Lib.hid (HBc.out.grown g4.out HBc.out.size (fun g hg => (HF.out.row g hg).1))
            clear HF HRB g4
            refine hK _ _ ?_
            clear hK K
            refine wpAny_ready (rs := [10]) (by kernel_rfl) (by simp) ?_
            refine all_cons rfl (fun K hK => ?_) ?_
            · skip
              refine Stp.mk ?_
              go_simp
              go_wp2_with fail
              refine (k_key D4 18 d4 _ w4 (by rw [List.length_append, hs]; rfl) (by decide) f4.out.nc f4.out.rd).mono ?_
              rintro e w5 ⟨D5, d5, rfl, f5, b5⟩
              replace HBc := Lib.hid (below_to HBc.out b5 HBc.out.size)
              have HF5 := Lib.hid f5
              obtain ⟨g5, o5, rfl, hg5, -⟩ := f5.rd.2 (by omega)
              have har := run_arrayAt_slice (P := Try.prog) Try.underlying75 (some ⟨g5, o5, none⟩) 16 d5 (by omega)
              clear b5 f5 f4
              go_wp2
              refine wpAny_take (i := 11) (v := ?_) rfl (by kernel_rfl) (by kernel_rfl) (by kernel_rfl) (fun _ _ _ h => h) (Or.inl ⟨by rfl, ?hyq⟩) ?_
              case hyq => (intro w; go_simp; try (with_reducible rfl))
              refine wpAny_ready (rs := [12]) (by kernel_rfl) (by simp) ?_
              refine all_cons rfl (fun K hK => ?_) ?_
              · skip
                have hl16 := HF5.out.rd.range 0 16
                rw [List.drop_zero, List.take_of_length_le (by rw [keyB_len]; exact Nat.le_refl _)] at hl16
                refine stp_load_arr rfl 75 (.tmp 16) rfl g5 (o5 + 0) (by simp [Act.eval, Act.put]) (bvs (firstL seed leaf place)) _ hl16 Try.underlying75 rfl (by rw [bvs_len, firstL_len]; exact HI.out) ?_
                clear hl16
                refine hK _ _ ?_
                clear hK K
                refine wpAny_ready (rs := [13]) (by kernel_rfl) (by simp) ?_
                refine all_cons rfl (fun K hK => ?_) ?_
                · skip
                  have HXX := Lib.hid ((HBc.out.block (w.heap.size + 1) (by rw [HZ.out]; omega)).trans HX1.out)
                  refine stp_store_row rfl 75 (.tmp 4) (.tmp 17) rfl _ 75 _ HXX.out (firstL seed leaf place) (by simp [Act.eval, Act.put]) (by simp [Act.eval, Act.put]) (by rw [firstL_len]; exact HI.out) (by rw [firstL_len]; rfl) ?_
                  intro w6 h6 g6 z6
                  refine hK _ _ ?_
                  clear hK K
                  refine wpAny_done (by kernel_rfl) ?_ _
                  have b6 := below_to HB0.out HBc.out (by rw [HZ.out]; omega)
                  have b7 := b6.grown g6.out b6.size (fun k e => by injection e with e; omega)
                  clear HL HP HX0 HX1 HB0 HBc HF5 HXX b6
                  go_wp2
                  exact bodyPost_ret (results_cell_row rfl _ w6 (w.heap.size + 1) 75 (bvs (firstL seed leaf place)).toArray (0, 0) _ rfl h6.out Try.underlying75 rfl (by rw [List.size_toArray, bvs_len, firstL_len]; exact HI.out)) rfl ⟨rfl, b7⟩
                exact AllReady.nil
              exact AllReady.nil
            exact AllReady.nil
          exact AllReady.nil
        exact AllReady.nil
      exact AllReady.nil
    exact AllReady.nil
  refine all_cons rfl (fun K hK => ?_) ?_
  · skip
    refine stp_load_cell rfl 3 (.tmp 10) rfl Try.underlying3 ⟨w.heap.size, 1, none⟩ (by simp [Act.eval, Act.put]) (.int .i64 (place : Int)) (HP.out _ HBc.out) ?_
    refine hK _ _ ?_
    clear hK K
    refine wpAny_take (i := 7) (v := ?_) rfl (by kernel_rfl) (by kernel_rfl) (by kernel_rfl) (fun _ _ _ h => h) (Or.inl ⟨by rfl, ?hyq⟩) ?_
    case hyq => (intro w; go_simp; try (with_reducible rfl))
    refine wpAny_ready (rs := [1, 3]) (by kernel_rfl) (by simp) ?_
    refine all_cons rfl (fun K hK => ?_) ?_
    · skip
      refine Stp.mk ?_
      go_simp
      go_wp2_with fail
      refine (HCL.out _ (below_to HB0.out HBc.out (by rw [HZ.out]; omega))).mono ?_
      rintro e wc ⟨D, d, rfl, f1, b1⟩
      have HCN := Lib.hid (Nat.le_trans (show w0.heap.size ≤ _ from HBc.out.size) (Nat.le_refl _))
      have HF := Lib.hid (f1.mono (base' := w0.heap.size) HBc.out.size)
      replace HBc := Lib.hid (below_to HBc.out b1 HBc.out.size)
      clear f1 b1
      go_wp2
      refine wpAny_ready (rs := [3]) (by kernel_rfl) (by simp) ?_
      refine all_cons rfl (fun K hK => ?_) ?_
      · skip
        refine stp_load_cell rfl 3 (.tmp 7) rfl Try.underlying3 ⟨w.heap.size, 0, none⟩ (by simp [Act.eval, Act.put]) (.int .i64 (leaf : Int)) (HL.out _ HBc.out) ?_
        refine hK _ _ ?_
        clear hK K
        refine wpAny_take (i := 4) (v := ?_) rfl (by kernel_rfl) (by kernel_rfl) (by kernel_rfl) (fun _ _ _ h => h) (Or.inl ⟨by rfl, ?hyq⟩) ?_
        case hyq => (intro w; go_simp; try (with_reducible rfl))
        refine wpAny_ready (rs := [8]) (by kernel_rfl) (by simp) ?_
        refine all_cons rfl (fun K hK => ?_) ?_
        · skip
          refine Stp.mk ?_
          go_simp
          have HRB := Lib.hid (rd_of_alloc HBc.out (cs := bvs [UInt8.ofNat leaf, UInt8.ofNat place]) (n := 2) 5 rfl)
          replace HF := Lib.hid (HF.out.alloc (.cells (bvs [UInt8.ofNat leaf, UInt8.ofNat place]).toArray 5))
          replace HBc := Lib.hid (below_alloc HBc.out (.cells (bvs [UInt8.ofNat leaf, UInt8.ofNat place]).toArray 5) (Nat.le_refl _))
          refine hK _ _ ?_
          clear hK K
          refine wpAny_ready (rs := [9]) (by kernel_rfl) (by simp) ?_
          refine all_cons rfl (fun K hK => ?_) ?_
          · skip
            refine stp_append_to (c' := 2) rfl (.tmp 6) (.tmp 13) rfl okB (by simp [Act.eval, Act.put]) HF.out (by simp [Act.eval, Act.put]) HRB.out (bvs_one _) 18 rfl _ (bvs_app _ _).symm (by unfold maxLen; omega) (by omega) HBc.out.size ?_
            intro D4 d4 w4 f4 g4
            replace HBc := Lib.hid (HBc.out.grown g4.out HBc.out.size (fun g hg => (HF.out.row g hg).1))
            clear HF HRB g4
            refine hK _ _ ?_
            clear hK K
            refine wpAny_ready (rs := [10]) (by kernel_rfl) (by simp) ?_
            refine all_cons rfl (fun K hK => ?_) ?_
            · skip
              refine Stp.mk ?_
              go_simp
              go_wp2_with fail
              refine (k_key D4 18 d4 _ w4 (by rw [List.length_append, hs]; rfl) (by decide) f4.out.nc f4.out.rd).mono ?_
              rintro e w5 ⟨D5, d5, rfl, f5, b5⟩
              replace HBc := Lib.hid (below_to HBc.out b5 HBc.out.size)
              have HF5 := Lib.hid f5
              obtain ⟨g5, o5, rfl, hg5, -⟩ := f5.rd.2 (by omega)
              have har := run_arrayAt_slice (P := Try.prog) Try.underlying75 (some ⟨g5, o5, none⟩) 16 d5 (by omega)
              clear b5 f5 f4
              go_wp2
              refine wpAny_take (i := 11) (v := ?_) rfl (by kernel_rfl) (by kernel_rfl) (by kernel_rfl) (fun _ _ _ h => h) (Or.inl ⟨by rfl, ?hyq⟩) ?_
              case hyq => (intro w; go_simp; try (with_reducible rfl))
              refine wpAny_ready (rs := [12]) (by kernel_rfl) (by simp) ?_
              refine all_cons rfl (fun K hK => ?_) ?_
              · skip
                have hl16 := HF5.out.rd.range 0 16
                rw [List.drop_zero, List.take_of_length_le (by rw [keyB_len]; exact Nat.le_refl _)] at hl16
                refine stp_load_arr rfl 75 (.tmp 16) rfl g5 (o5 + 0) (by simp [Act.eval, Act.put]) (bvs (firstL seed leaf place)) _ hl16 Try.underlying75 rfl (by rw [bvs_len, firstL_len]; exact HI.out) ?_
                clear hl16
                refine hK _ _ ?_
                clear hK K
                refine wpAny_ready (rs := [13]) (by kernel_rfl) (by simp) ?_
                refine all_cons rfl (fun K hK => ?_) ?_
                · skip
                  have HXX := Lib.hid ((HBc.out.block (w.heap.size + 1) (by rw [HZ.out]; omega)).trans HX1.out)
                  refine stp_store_row rfl 75 (.tmp 4) (.tmp 17) rfl _ 75 _ HXX.out (firstL seed leaf place) (by simp [Act.eval, Act.put]) (by simp [Act.eval, Act.put]) (by rw [firstL_len]; exact HI.out) (by rw [firstL_len]; rfl) ?_
                  intro w6 h6 g6 z6
                  refine hK _ _ ?_
                  clear hK K
                  refine wpAny_done (by kernel_rfl) ?_ _
                  have b6 := below_to HB0.out HBc.out (by rw [HZ.out]; omega)
                  have b7 := b6.grown g6.out b6.size (fun k e => by injection e with e; omega)
                  clear HL HP HX0 HX1 HB0 HBc HF5 HXX b6
                  go_wp2
                  exact bodyPost_ret (results_cell_row rfl _ w6 (w.heap.size + 1) 75 (bvs (firstL seed leaf place)).toArray (0, 0) _ rfl h6.out Try.underlying75 rfl (by rw [List.size_toArray, bvs_len, firstL_len]; exact HI.out)) rfl ⟨rfl, b7⟩
                exact AllReady.nil
              exact AllReady.nil
            exact AllReady.nil
          exact AllReady.nil
        exact AllReady.nil
      exact AllReady.nil
    refine all_cons rfl (fun K hK => ?_) ?_
    · skip
      refine stp_load_cell rfl 3 (.tmp 7) rfl Try.underlying3 ⟨w.heap.size, 0, none⟩ (by simp [Act.eval, Act.put]) (.int .i64 (leaf : Int)) (HL.out _ HBc.out) ?_
      refine hK _ _ ?_
      clear hK K
      refine wpAny_take (i := 4) (v := ?_) rfl (by kernel_rfl) (by kernel_rfl) (by kernel_rfl) (fun _ _ _ h => h) (Or.inl ⟨by rfl, ?hyq⟩) ?_
      case hyq => (intro w; go_simp; try (with_reducible rfl))
      refine wpAny_ready (rs := [1, 8]) (by kernel_rfl) (by simp) ?_
      refine all_cons rfl (fun K hK => ?_) ?_
      · skip
        refine Stp.mk ?_
        go_simp
        go_wp2_with fail
        refine (HCL.out _ (below_to HB0.out HBc.out (by rw [HZ.out]; omega))).mono ?_
        rintro e wc ⟨D, d, rfl, f1, b1⟩
        have HCN := Lib.hid (Nat.le_trans (show w0.heap.size ≤ _ from HBc.out.size) (Nat.le_refl _))
        have HF := Lib.hid (f1.mono (base' := w0.heap.size) HBc.out.size)
        replace HBc := Lib.hid (below_to HBc.out b1 HBc.out.size)
        clear f1 b1
        go_wp2
        refine wpAny_ready (rs := [8]) (by kernel_rfl) (by simp) ?_
        refine all_cons rfl (fun K hK => ?_) ?_
        · skip
          refine Stp.mk ?_
          go_simp
          have HRB := Lib.hid (rd_of_alloc HBc.out (cs := bvs [UInt8.ofNat leaf, UInt8.ofNat place]) (n := 2) 5 rfl)
          replace HF := Lib.hid (HF.out.alloc (.cells (bvs [UInt8.ofNat leaf, UInt8.ofNat place]).toArray 5))
          replace HBc := Lib.hid (below_alloc HBc.out (.cells (bvs [UInt8.ofNat leaf, UInt8.ofNat place]).toArray 5) (Nat.le_refl _))
          refine hK _ _ ?_
          clear hK K
          refine wpAny_ready (rs := [9]) (by kernel_rfl) (by simp) ?_
          refine all_cons rfl (fun K hK => ?_) ?_
          · skip
            refine stp_append_to (c' := 2) rfl (.tmp 6) (.tmp 13) rfl okB (by simp [Act.eval, Act.put]) HF.out (by simp [Act.eval, Act.put]) HRB.out (bvs_one _) 18 rfl _ (bvs_app _ _).symm (by unfold maxLen; omega) (by omega) HBc.out.size ?_
            intro D4 d4 w4 f4 g4
            replace HBc := Lib.hid (HBc.out.grown g4.out HBc.out.size (fun g hg => (HF.out.row g hg).1))
            clear HF HRB g4
            refine hK _ _ ?_
            clear hK K
            refine wpAny_ready (rs := [10]) (by kernel_rfl) (by simp) ?_
            refine all_cons rfl (fun K hK => ?_) ?_
            · skip
              refine Stp.mk ?_
              go_simp
              go_wp2_with fail
              refine (k_key D4 18 d4 _ w4 (by rw [List.length_append, hs]; rfl) (by decide) f4.out.nc f4.out.rd).mono ?_
              rintro e w5 ⟨D5, d5, rfl, f5, b5⟩
              replace HBc := Lib.hid (below_to HBc.out b5 HBc.out.size)
              have HF5 := Lib.hid f5
              obtain ⟨g5, o5, rfl, hg5, -⟩ := f5.rd.2 (by omega)
              have har := run_arrayAt_slice (P := Try.prog) Try.underlying75 (some ⟨g5, o5, none⟩) 16 d5 (by omega)
              clear b5 f5 f4
              go_wp2
              refine wpAny_take (i := 11) (v := ?_) rfl (by kernel_rfl) (by kernel_rfl) (by kernel_rfl) (fun _ _ _ h => h) (Or.inl ⟨by rfl, ?hyq⟩) ?_
              case hyq => (intro w; go_simp; try (with_reducible rfl))
              refine wpAny_ready (rs := [12]) (by kernel_rfl) (by simp) ?_
              refine all_cons rfl (fun K hK => ?_) ?_
              · skip
                have hl16 := HF5.out.rd.range 0 16
                rw [List.drop_zero, List.take_of_length_le (by rw [keyB_len]; exact Nat.le_refl _)] at hl16
                refine stp_load_arr rfl 75 (.tmp 16) rfl g5 (o5 + 0) (by simp [Act.eval, Act.put]) (bvs (firstL seed leaf place)) _ hl16 Try.underlying75 rfl (by rw [bvs_len, firstL_len]; exact HI.out) ?_
                clear hl16
                refine hK _ _ ?_
                clear hK K
                refine wpAny_ready (rs := [13]) (by kernel_rfl) (by simp) ?_
                refine all_cons rfl (fun K hK => ?_) ?_
                · skip
                  have HXX := Lib.hid ((HBc.out.block (w.heap.size + 1) (by rw [HZ.out]; omega)).trans HX1.out)
                  refine stp_store_row rfl 75 (.tmp 4) (.tmp 17) rfl _ 75 _ HXX.out (firstL seed leaf place) (by simp [Act.eval, Act.put]) (by simp [Act.eval, Act.put]) (by rw [firstL_len]; exact HI.out) (by rw [firstL_len]; rfl) ?_
                  intro w6 h6 g6 z6
                  refine hK _ _ ?_
                  clear hK K
                  refine wpAny_done (by kernel_rfl) ?_ _
                  have b6 := below_to HB0.out HBc.out (by rw [HZ.out]; omega)
                  have b7 := b6.grown g6.out b6.size (fun k e => by injection e with e; omega)
                  clear HL HP HX0 HX1 HB0 HBc HF5 HXX b6
                  go_wp2
                  exact bodyPost_ret (results_cell_row rfl _ w6 (w.heap.size + 1) 75 (bvs (firstL seed leaf place)).toArray (0, 0) _ rfl h6.out Try.underlying75 rfl (by rw [List.size_toArray, bvs_len, firstL_len]; exact HI.out)) rfl ⟨rfl, b7⟩
                exact AllReady.nil
              exact AllReady.nil
            exact AllReady.nil
          exact AllReady.nil
        exact AllReady.nil
      refine all_cons rfl (fun K hK => ?_) ?_
      · skip
        refine Stp.mk ?_
        go_simp
        have HRB := Lib.hid (rd_of_alloc HBc.out (cs := bvs [UInt8.ofNat leaf, UInt8.ofNat place]) (n := 2) 5 rfl)
        replace HBc := Lib.hid (below_alloc HBc.out (.cells (bvs [UInt8.ofNat leaf, UInt8.ofNat place]).toArray 5) (Nat.le_refl _))
        refine hK _ _ ?_
        clear hK K
        refine wpAny_ready (rs := [1]) (by kernel_rfl) (by simp) ?_
        refine all_cons rfl (fun K hK => ?_) ?_
        · skip
          refine Stp.mk ?_
          go_simp
          go_wp2_with fail
          refine (HCL.out _ (below_to HB0.out HBc.out (by rw [HZ.out]; omega))).mono ?_
          rintro e wc ⟨D, d, rfl, f1, b1⟩
          have HCN := Lib.hid (Nat.le_trans (show w0.heap.size ≤ _ from HBc.out.size) (Nat.le_refl _))
          have HF := Lib.hid (f1.mono (base' := w0.heap.size) HBc.out.size)
          replace HRB := Lib.hid ((HRB.out.below b1).more b1.size)
          replace HBc := Lib.hid (below_to HBc.out b1 HBc.out.size)
          clear f1 b1
          go_wp2
          refine wpAny_ready (rs := [9]) (by kernel_rfl) (by simp) ?_
          refine all_cons rfl (fun K hK => ?_) ?_
          · skip
            refine stp_append_to (c' := 2) rfl (.tmp 6) (.tmp 13) rfl okB (by simp [Act.eval, Act.put]) HF.out (by simp [Act.eval, Act.put]) HRB.out (bvs_one _) 18 rfl _ (bvs_app _ _).symm (by unfold maxLen; omega) (by omega) HBc.out.size ?_
            intro D4 d4 w4 f4 g4
            replace HBc := Lib.hid (HBc.out.grown g4.out HBc.out.size (fun g hg => (HF.out.row g hg).1))
            clear HF HRB g4
            refine hK _ _ ?_
            clear hK K
            refine wpAny_ready (rs := [10]) (by kernel_rfl) (by simp) ?_
            refine all_cons rfl (fun K hK => ?_) ?_
            · skip
              refine Stp.mk ?_
              go_simp
              go_wp2_with fail
              refine (k_key D4 18 d4 _ w4 (by rw [List.length_append, hs]; rfl) (by decide) f4.out.nc f4.out.rd).mono ?_
              rintro e w5 ⟨D5, d5, rfl, f5, b5⟩
              replace HBc := Lib.hid (below_to HBc.out b5 HBc.out.size)
              have HF5 := Lib.hid f5
              obtain ⟨g5, o5, rfl, hg5, -⟩ := f5.rd.2 (by omega)
              have har := run_arrayAt_slice (P := Try.prog) Try.underlying75 (some ⟨g5, o5, none⟩) 16 d5 (by omega)
              clear b5 f5 f4
              go_wp2
              refine wpAny_take (i := 11) (v := ?_) rfl (by kernel_rfl) (by kernel_rfl) (by kernel_rfl) (fun _ _ _ h => h) (Or.inl ⟨by rfl, ?hyq⟩) ?_
              case hyq => (intro w; go_simp; try (with_reducible rfl))
              refine wpAny_ready (rs := [12]) (by kernel_rfl) (by simp) ?_
              refine all_cons rfl (fun K hK => ?_) ?_
              · skip
                have hl16 := HF5.out.rd.range 0 16
                rw [List.drop_zero, List.take_of_length_le (by rw [keyB_len]; exact Nat.le_refl _)] at hl16
                refine stp_load_arr rfl 75 (.tmp 16) rfl g5 (o5 + 0) (by simp [Act.eval, Act.put]) (bvs (firstL seed leaf place)) _ hl16 Try.underlying75 rfl (by rw [bvs_len, firstL_len]; exact HI.out) ?_
                clear hl16
                refine hK _ _ ?_
                clear hK K
                refine wpAny_ready (rs := [13]) (by kernel_rfl) (by simp) ?_
                refine all_cons rfl (fun K hK => ?_) ?_
                · skip
                  have HXX := Lib.hid ((HBc.out.block (w.heap.size + 1) (by rw [HZ.out]; omega)).trans HX1.out)
                  refine stp_store_row rfl 75 (.tmp 4) (.tmp 17) rfl _ 75 _ HXX.out (firstL seed leaf place) (by simp [Act.eval, Act.put]) (by simp [Act.eval, Act.put]) (by rw [firstL_len]; exact HI.out) (by rw [firstL_len]; rfl) ?_
                  intro w6 h6 g6 z6
                  refine hK _ _ ?_
                  clear hK K
                  refine wpAny_done (by kernel_rfl) ?_ _
                  have b6 := below_to HB0.out HBc.out (by rw [HZ.out]; omega)
                  have b7 := b6.grown g6.out b6.size (fun k e => by injection e with e; omega)
                  clear HL HP HX0 HX1 HB0 HBc HF5 HXX b6
                  go_wp2
                  exact bodyPost_ret (results_cell_row rfl _ w6 (w.heap.size + 1) 75 (bvs (firstL seed leaf place)).toArray (0, 0) _ rfl h6.out Try.underlying75 rfl (by rw [List.size_toArray, bvs_len, firstL_len]; exact HI.out)) rfl ⟨rfl, b7⟩
                exact AllReady.nil
              exact AllReady.nil
            exact AllReady.nil
          exact AllReady.nil
        exact AllReady.nil
      exact AllReady.nil
    exact AllReady.nil
  exact AllReady.nil
end Go.Proofs.Ytoggpnncmgcgoaa
