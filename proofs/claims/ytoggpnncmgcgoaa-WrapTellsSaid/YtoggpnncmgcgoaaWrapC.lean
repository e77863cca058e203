/-
  Contracts of package wrap: Wrap.
-/
import Derived.Test.YtoggpnncmgcgoaaWrapB
import Derived.Deep.RegionLaw
namespace Go.Proofs.Ytoggpnncmgcgoaa
open Go.RowKit
set_option linter.unusedVariables false
set_option linter.unusedSimpArgs false
set_option maxRecDepth 100000

def wrapL (p k : List UInt8) (salt : Nat) : List UInt8 := sealL (stretchL p salt) (le 4 salt ++ xorL k (maskL (stretchL p salt)))
theorem sealL_len (s b : List UInt8) : (sealL s b).length = b.length + 4 := by rw [sealL, List.length_append, le_len]
theorem wrapL_len {p k : List UInt8} {salt : Nat} (hk : k.length = 16) : (wrapL p k salt).length = 24 := by
  rw [wrapL, sealL_len, List.length_append, le_len, xorL_len, hk]
theorem w_wrap_long (s : ByteArray) (A : Option Addr) (n c : Nat) (salt : Nat) (w : World) (h : (s.size : Int) > 64) : Calls Try.prog 37 #[.string s, .slice A n c, .int .u32 (salt : Int)] w fun e w' => e = .returned (.tuple #[.slice none 0 0, .int .i64 3]) ∧ w = w' := by
  go_enter Try.func37, Try.ntmps37
  go_wp2_with fail
  refine (w_stretch_long s salt w h).mono ?_
  rintro e w1 ⟨rfl, rfl⟩
  go_wp2
  go_ret2
  exact ⟨rfl, rfl⟩
theorem w_wrap_arg (s : ByteArray) (A : Option Addr) (n c : Nat) (salt : Nat) (w : World) (hs : (salt : Int) < 4294967296) (h : s.size ≤ 64) (hn : ((n : Int) != 16) = true) : Calls Try.prog 37 #[.string s, .slice A n c, .int .u32 (salt : Int)] w fun e w' => e = .returned (.tuple #[.slice none 0 0, .int .i64 2]) ∧ Below w.heap.size w w' := by
  have hst := w_stretch s salt w hs h
  have HST := Lib.hid hst
  clear hst hs h
  go_enter Try.func37, Try.ntmps37
  go_wp2_with fail
  refine HST.out.mono ?_
  rintro e w1 ⟨A1, c1, rfl, f1, b1⟩
  clear f1
  go_wp2
  go_ret2
  exact ⟨rfl, b1⟩
theorem box_of_below {B : Nat} {a W : World} (h : Below B a W) (o : Obj) : (W.alloc o).heap[W.heap.size]? = some o := heap_alloc_new W o
set_option maxHeartbeats 4000000 in
theorem w_wrap (s : ByteArray) (A : Option Addr) (c : Nat) (k : List UInt8) (salt : Nat) (w : World) (hs : (salt : Int) < 4294967296) (h : s.size ≤ 64) (hk : k.length = 16) (hc : 16 ≤ c) (hr : Rd w w.heap.size 1 A 16 (bvs k)) : Calls Try.prog 37 #[.string s, .slice A 16 c, .int .u32 (salt : Int)] w fun e w' =>
    ∃ D d, e = .returned (.tuple #[.slice D 24 d, .int .i64 0]) ∧ Fr w' w.heap.size 5 1 D 24 d (bvs (wrapL s.data.toList k salt)) ∧ Below w.heap.size w w' := by
  have hst := w_stretch s salt w hs h
  have hwr : IntKind.i64.wrap (salt : Int) = (salt : Int) := by rw [IntKind.wrap_i64]; omega
  have hput := fun W => put_ok4 (salt : Int) W (by omega) hs
  have hSL := stretchL_len s.data.toList salt
  have hwl : sealL (stretchL s.data.toList salt) (le 4 salt ++ xorL k (maskL (stretchL s.data.toList salt))) = wrapL s.data.toList k salt := rfl
  have HST := Lib.hid hst
  have HPUT := Lib.hid hput
  have HSL := Lib.hid hSL
  have HWL := Lib.hid hwl
  have HR := Lib.hid hr
  clear hst hput hSL hwl hs h
  obtain ⟨g, o, rfl, hg, -⟩ := hr.2 (by omega)
  clear hr
  generalize wrapL s.data.toList k salt = WL at *
  generalize stretchL s.data.toList salt = S at *
  have hi16 : (Try.prog.info? 93).map (·.size) = some 16 := by kernel_rfl
  have hi : (Try.prog.info? 93).map (·.size) = some (bvs k).length := by rw [bvs_len, hk]; exact hi16
  have HI := Lib.hid hi
  have HI16 := Lib.hid hi16
  have har := run_arrayAt_slice (P := Try.prog) Try.underlying93 (some ⟨g, o, none⟩) 16 c (by omega)
  clear hi hi16
  go_enter Try.func37, Try.ntmps37
  go_wp2_with fail
  refine HST.out.mono ?_
  rintro e w1 ⟨A1, c1, rfl, f1, b1⟩
  have HF1 := Lib.hid f1
  have HB1 := Lib.hid b1
  clear f1 b1
  go_wp2_with fail
  refine (HPUT.out w1).mono ?_
  rintro e w2 ⟨A2, c2, rfl, f2, b2⟩
  have hb2 := below_to HB1.out b2 HB1.out.size
  have HB12 := Lib.hid b2
  have hf1 := HF1.out.below b2 (Nat.le_refl _)
  have hmask := fun (W : World) (h : Below w2.heap.size w2 W) => w_mask A1 c1 S W HSL.out ((hf1.rd.below h).more h.size)
  have hwith := fun (W : World) => w_with k (maskL S) W hk (maskL_len S)
  have hix : (Try.prog.info? 93).map (·.size) = some (xorL k (maskL S)).length := by rw [xorL_len, hk]; exact HI16.out
  have hxl : (xorL k (maskL S)).length = 16 := by rw [xorL_len, hk]
  have HIX := Lib.hid hix
  have HXL := Lib.hid hxl
  have hrng := fun (W : World) (h : Below w2.heap.size w2 W) => ((HR.out.below hb2).belowH h hb2.size).range 0 16
  rw [List.drop_zero, List.take_of_length_le (by omega), Nat.add_zero] at hrng
  have HMASK := Lib.hid hmask
  have HWITH := Lib.hid hwith
  have HRNG := Lib.hid hrng
  have HF2 := Lib.hid f2
  have HF1' := Lib.hid hf1
  have HB2 := Lib.hid hb2
  have HBc := Lib.hid (Below.refl w2.heap.size w2).drew
  clear f2 b2 hf1 hb2 hmask hwith hrng hix hxl
  go_wp2_with fail
  refine wp_region_any (by kernel_rfl) ?_
  try (change wpAny _ _ _ _ _ _ _ (World.drew _))
  refine wpAny_take (i := 0) (v := ?_) rfl (by kernel_rfl) (by kernel_rfl) (by kernel_rfl) (fun _ _ _ h => h) (Or.inl ⟨by rfl, ?hyq⟩) ?_
  case hyq => (intro w; go_simp; try (with_reducible rfl))
  refine wpAny_take (i := 1) (v := ?_) rfl (by kernel_rfl) (by kernel_rfl) (by kernel_rfl) (fun _ _ _ h => h) (Or.inl ⟨by rfl, ?hyq⟩) ?_
  case hyq => (intro w; go_simp; try (with_reducible rfl))
  refine wpAny_take (i := 3) (v := ?_) rfl (by kernel_rfl) (by kernel_rfl) (by kernel_rfl) (fun _ _ _ h => h) (Or.inl ⟨by rfl, ?hyq⟩) ?_
  case hyq => (intro w; go_simp; try (with_reducible rfl))
  refine wpAny_ready (rs := [2, 4, 6]) (by kernel_rfl) (by simp) ?_
  refine AllReady.cons rfl (fun K hK => ?_) ?_
  · skip
    refine step_load_arr rfl 93 (.tmp 34) rfl g o (by simp [Act.eval, Act.put]) (bvs k) _ (HRNG.out _ HBc.out) Try.underlying93 rfl HI.out ?_
    refine hK _ _ ?_
    clear hK K
    refine wpAny_ready (rs := [4, 6]) (by kernel_rfl) (by simp) ?_
    refine AllReady.cons rfl (fun K hK => ?_) ?_
    · skip
      go_simp
      go_wp2_with fail
      refine (HMASK.out _ HBc.out).mono ?_
      rintro e wm ⟨rfl, bm⟩
      replace HBc := Lib.hid (below_to HBc.out bm HBc.out.size)
      clear bm
      go_wp2
      refine wpAny_ready (rs := [5, 6]) (by kernel_rfl) (by simp) ?_
      refine AllReady.cons rfl (fun K hK => ?_) ?_
      · skip
        go_simp
        go_wp2_with fail
        refine (HWITH.out _).mono ?_
        rintro e wx ⟨rfl, bx⟩
        replace HBc := Lib.hid (below_to HBc.out bx HBc.out.size)
        clear bx
        go_wp2
        refine wpAny_ready (rs := [6]) (by kernel_rfl) (by simp) ?_
        refine AllReady.cons rfl (fun K hK => ?_) ?_
        · skip
          go_simp
          have HGE := Lib.hid HBc.out.size
          have HX := Lib.hid (box_of_below HBc.out (.cells #[.int .u8 0, .int .u8 0, .int .u8 0, .int .u8 0, .int .u8 0, .int .u8 0, .int .u8 0, .int .u8 0, .int .u8 0, .int .u8 0, .int .u8 0, .int .u8 0, .int .u8 0, .int .u8 0, .int .u8 0, .int .u8 0] 93))
          replace HBc := Lib.hid (below_alloc HBc.out (.cells #[.int .u8 0, .int .u8 0, .int .u8 0, .int .u8 0, .int .u8 0, .int .u8 0, .int .u8 0, .int .u8 0, .int .u8 0, .int .u8 0, .int .u8 0, .int .u8 0, .int .u8 0, .int .u8 0, .int .u8 0, .int .u8 0] 93) (Nat.le_refl _))
          refine hK _ _ ?_
          clear hK K
          refine wpAny_ready (rs := [7]) (by kernel_rfl) (by simp) ?_
          refine AllReady.cons rfl (fun K hK => ?_) ?_
          · skip
            refine step_store_row rfl 93 (.tmp 12) (.tmp 38) rfl _ 93 _ HX.out (xorL k (maskL S)) (by simp [Act.eval, Act.put]) (by simp [Act.eval, Act.put]) HIX.out (by rw [HXL.out]; rfl) ?_
            intro w5 h5 g5 z5
            refine hK _ _ ?_
            clear hK K
            refine wpAny_done (by kernel_rfl) ?_ _
            have hb5 := HBc.out.grown g5.out HBc.out.size (fun k e => by injection e with e; have := HGE.out; omega)
            have hb15 := below_to HB12.out hb5 HB12.out.size
            have hrx := Rd.ofRow (cs := bvs (xorL k (maskL S))) h5.out (by rw [bvs_len, HXL.out])
            have hf5 := HF2.out.below hb5 (Nat.le_refl _)
            have HF5 := Lib.hid hf5
            have HRX := Lib.hid hrx
            have HB15 := Lib.hid hb15
            clear hb5 hb15 hrx hf5 h5 g5 HBc HX HF2 HB2 HB12 HMASK HWITH HRNG
            go_wp2_with (first
              | (at_builtin; go_loud (refine wpList_append_to rfl (.tmp 40) (.tmp 41) rfl okB rfl HF5.out rfl HRX.out (bvs_one _) 20 rfl _ (bvs_app _ _).symm (by unfold maxLen; omega) (by omega) (by have := HB15.out.size; omega) ?_; intro D d w6 f6 g6 _)))
            have hb6 := HB15.out.grown g6 HB15.out.size (fun g hg => (HF5.out.row g hg).1)
            have hl20 : (le 4 salt ++ xorL k (maskL S)).length = 20 := by rw [List.length_append, le_len, HXL.out]
            refine (w_sealed A1 c1 S D 20 d _ w6 HSL.out ((HF1.out.rd.below hb6).more hb6.size) hl20 (by decide) f6.rd).mono ?_
            rintro e w7 ⟨D7, d7, rfl, f7, b7⟩
            have hb7 := below_to HB1.out (below_to hb6 b7 hb6.size) HB1.out.size
            have hf7 := f7.mono (base' := w.heap.size) (Nat.le_trans HB1.out.size hb6.size)
            rw [HWL.out] at hf7
            go_wp2
            go_ret2
            exact ⟨_, _, rfl, hf7, hb7⟩
          exact AllReady.nil
        exact AllReady.nil
      refine AllReady.cons rfl (fun K hK => ?_) ?_
      · skip
        go_simp
        have HGE := Lib.hid HBc.out.size
        have HX := Lib.hid (box_of_below HBc.out (.cells #[.int .u8 0, .int .u8 0, .int .u8 0, .int .u8 0, .int .u8 0, .int .u8 0, .int .u8 0, .int .u8 0, .int .u8 0, .int .u8 0, .int .u8 0, .int .u8 0, .int .u8 0, .int .u8 0, .int .u8 0, .int .u8 0] 93))
        replace HBc := Lib.hid (below_alloc HBc.out (.cells #[.int .u8 0, .int .u8 0, .int .u8 0, .int .u8 0, .int .u8 0, .int .u8 0, .int .u8 0, .int .u8 0, .int .u8 0, .int .u8 0, .int .u8 0, .int .u8 0, .int .u8 0, .int .u8 0, .int .u8 0, .int .u8 0] 93) (Nat.le_refl _))
        refine hK _ _ ?_
        clear hK K
        refine wpAny_ready (rs := [5]) (by kernel_rfl) (by simp) ?_
        refine AllReady.cons rfl (fun K hK => ?_) ?_
        · skip
          go_simp
          go_wp2_with fail
          refine (HWITH.out _).mono ?_
          rintro e wx ⟨rfl, bx⟩
          replace HX := Lib.hid ((bx.block _ (Array.getElem?_eq_some_iff.1 HX.out).1).trans HX.out)
          replace HBc := Lib.hid (below_to HBc.out bx HBc.out.size)
          clear bx
          go_wp2
          refine wpAny_ready (rs := [7]) (by kernel_rfl) (by simp) ?_
          refine AllReady.cons rfl (fun K hK => ?_) ?_
          · skip
            refine step_store_row rfl 93 (.tmp 12) (.tmp 38) rfl _ 93 _ HX.out (xorL k (maskL S)) (by simp [Act.eval, Act.put]) (by simp [Act.eval, Act.put]) HIX.out (by rw [HXL.out]; rfl) ?_
            intro w5 h5 g5 z5
            refine hK _ _ ?_
            clear hK K
            refine wpAny_done (by kernel_rfl) ?_ _
            have hb5 := HBc.out.grown g5.out HBc.out.size (fun k e => by injection e with e; have := HGE.out; omega)
            have hb15 := below_to HB12.out hb5 HB12.out.size
            have hrx := Rd.ofRow (cs := bvs (xorL k (maskL S))) h5.out (by rw [bvs_len, HXL.out])
            have hf5 := HF2.out.below hb5 (Nat.le_refl _)
            have HF5 := Lib.hid hf5
            have HRX := Lib.hid hrx
            have HB15 := Lib.hid hb15
            clear hb5 hb15 hrx hf5 h5 g5 HBc HX HF2 HB2 HB12 HMASK HWITH HRNG
            go_wp2_with (first
              | (at_builtin; go_loud (refine wpList_append_to rfl (.tmp 40) (.tmp 41) rfl okB rfl HF5.out rfl HRX.out (bvs_one _) 20 rfl _ (bvs_app _ _).symm (by unfold maxLen; omega) (by omega) (by have := HB15.out.size; omega) ?_; intro D d w6 f6 g6 _)))
            have hb6 := HB15.out.grown g6 HB15.out.size (fun g hg => (HF5.out.row g hg).1)
            have hl20 : (le 4 salt ++ xorL k (maskL S)).length = 20 := by rw [List.length_append, le_len, HXL.out]
            refine (w_sealed A1 c1 S D 20 d _ w6 HSL.out ((HF1.out.rd.below hb6).more hb6.size) hl20 (by decide) f6.rd).mono ?_
            rintro e w7 ⟨D7, d7, rfl, f7, b7⟩
            have hb7 := below_to HB1.out (below_to hb6 b7 hb6.size) HB1.out.size
            have hf7 := f7.mono (base' := w.heap.size) (Nat.le_trans HB1.out.size hb6.size)
            rw [HWL.out] at hf7
            go_wp2
            go_ret2
            exact ⟨_, _, rfl, hf7, hb7⟩
          exact AllReady.nil
        exact AllReady.nil
      exact AllReady.nil
    refine AllReady.cons rfl (fun K hK => ?_) ?_
    · skip
      go_simp
      have HGE := Lib.hid HBc.out.size
      have HX := Lib.hid (box_of_below HBc.out (.cells #[.int .u8 0, .int .u8 0, .int .u8 0, .int .u8 0, .int .u8 0, .int .u8 0, .int .u8 0, .int .u8 0, .int .u8 0, .int .u8 0, .int .u8 0, .int .u8 0, .int .u8 0, .int .u8 0, .int .u8 0, .int .u8 0] 93))
      replace HBc := Lib.hid (below_alloc HBc.out (.cells #[.int .u8 0, .int .u8 0, .int .u8 0, .int .u8 0, .int .u8 0, .int .u8 0, .int .u8 0, .int .u8 0, .int .u8 0, .int .u8 0, .int .u8 0, .int .u8 0, .int .u8 0, .int .u8 0, .int .u8 0, .int .u8 0] 93) (Nat.le_refl _))
      refine hK _ _ ?_
      clear hK K
      refine wpAny_ready (rs := [4]) (by kernel_rfl) (by simp) ?_
      refine AllReady.cons rfl (fun K hK => ?_) ?_
      · skip
        go_simp
        go_wp2_with fail
        refine (HMASK.out _ HBc.out).mono ?_
        rintro e wm ⟨rfl, bm⟩
        replace HX := Lib.hid ((bm.block _ (Array.getElem?_eq_some_iff.1 HX.out).1).trans HX.out)
        replace HBc := Lib.hid (below_to HBc.out bm HBc.out.size)
        clear bm
        go_wp2
        refine wpAny_ready (rs := [5]) (by kernel_rfl) (by simp) ?_
        refine AllReady.cons rfl (fun K hK => ?_) ?_
        · skip
          go_simp
          go_wp2_with fail
          refine (HWITH.out _).mono ?_
          rintro e wx ⟨rfl, bx⟩
          replace HX := Lib.hid ((bx.block _ (Array.getElem?_eq_some_iff.1 HX.out).1).trans HX.out)
          replace HBc := Lib.hid (below_to HBc.out bx HBc.out.size)
          clear bx
          go_wp2
          refine wpAny_ready (rs := [7]) (by kernel_rfl) (by simp) ?_
          refine AllReady.cons rfl (fun K hK => ?_) ?_
          · skip
            refine step_store_row rfl 93 (.tmp 12) (.tmp 38) rfl _ 93 _ HX.out (xorL k (maskL S)) (by simp [Act.eval, Act.put]) (by simp [Act.eval, Act.put]) HIX.out (by rw [HXL.out]; rfl) ?_
            intro w5 h5 g5 z5
            refine hK _ _ ?_
            clear hK K
            refine wpAny_done (by kernel_rfl) ?_ _
            have hb5 := HBc.out.grown g5.out HBc.out.size (fun k e => by injection e with e; have := HGE.out; omega)
            have hb15 := below_to HB12.out hb5 HB12.out.size
            have hrx := Rd.ofRow (cs := bvs (xorL k (maskL S))) h5.out (by rw [bvs_len, HXL.out])
            have hf5 := HF2.out.below hb5 (Nat.le_refl _)
            have HF5 := Lib.hid hf5
            have HRX := Lib.hid hrx
            have HB15 := Lib.hid hb15
            clear hb5 hb15 hrx hf5 h5 g5 HBc HX HF2 HB2 HB12 HMASK HWITH HRNG
            go_wp2_with (first
              | (at_builtin; go_loud (refine wpList_append_to rfl (.tmp 40) (.tmp 41) rfl okB rfl HF5.out rfl HRX.out (bvs_one _) 20 rfl _ (bvs_app _ _).symm (by unfold maxLen; omega) (by omega) (by have := HB15.out.size; omega) ?_; intro D d w6 f6 g6 _)))
            have hb6 := HB15.out.grown g6 HB15.out.size (fun g hg => (HF5.out.row g hg).1)
            have hl20 : (le 4 salt ++ xorL k (maskL S)).length = 20 := by rw [List.length_append, le_len, HXL.out]
            refine (w_sealed A1 c1 S D 20 d _ w6 HSL.out ((HF1.out.rd.below hb6).more hb6.size) hl20 (by decide) f6.rd).mono ?_
            rintro e w7 ⟨D7, d7, rfl, f7, b7⟩
            have hb7 := below_to HB1.out (below_to hb6 b7 hb6.size) HB1.out.size
            have hf7 := f7.mono (base' := w.heap.size) (Nat.le_trans HB1.out.size hb6.size)
            rw [HWL.out] at hf7
            go_wp2
            go_ret2
            exact ⟨_, _, rfl, hf7, hb7⟩
          exact AllReady.nil
        exact AllReady.nil
      exact AllReady.nil
    exact AllReady.nil
  refine AllReady.cons rfl (fun K hK => ?_) ?_
  · skip
    go_simp
    go_wp2_with fail
    refine (HMASK.out _ HBc.out).mono ?_
    rintro e wm ⟨rfl, bm⟩
    replace HBc := Lib.hid (below_to HBc.out bm HBc.out.size)
    clear bm
    go_wp2
    refine wpAny_ready (rs := [2, 6]) (by kernel_rfl) (by simp) ?_
    refine AllReady.cons rfl (fun K hK => ?_) ?_
    · skip
      refine step_load_arr rfl 93 (.tmp 34) rfl g o (by simp [Act.eval, Act.put]) (bvs k) _ (HRNG.out _ HBc.out) Try.underlying93 rfl HI.out ?_
      refine hK _ _ ?_
      clear hK K
      refine wpAny_ready (rs := [5, 6]) (by kernel_rfl) (by simp) ?_
      refine AllReady.cons rfl (fun K hK => ?_) ?_
      · skip
        go_simp
        go_wp2_with fail
        refine (HWITH.out _).mono ?_
        rintro e wx ⟨rfl, bx⟩
        replace HBc := Lib.hid (below_to HBc.out bx HBc.out.size)
        clear bx
        go_wp2
        refine wpAny_ready (rs := [6]) (by kernel_rfl) (by simp) ?_
        refine AllReady.cons rfl (fun K hK => ?_) ?_
        · skip
          go_simp
          have HGE := Lib.hid HBc.out.size
          have HX := Lib.hid (box_of_below HBc.out (.cells #[.int .u8 0, .int .u8 0, .int .u8 0, .int .u8 0, .int .u8 0, .int .u8 0, .int .u8 0, .int .u8 0, .int .u8 0, .int .u8 0, .int .u8 0, .int .u8 0, .int .u8 0, .int .u8 0, .int .u8 0, .int .u8 0] 93))
          replace HBc := Lib.hid (below_alloc HBc.out (.cells #[.int .u8 0, .int .u8 0, .int .u8 0, .int .u8 0, .int .u8 0, .int .u8 0, .int .u8 0, .int .u8 0, .int .u8 0, .int .u8 0, .int .u8 0, .int .u8 0, .int .u8 0, .int .u8 0, .int .u8 0, .int .u8 0] 93) (Nat.le_refl _))
          refine hK _ _ ?_
          clear hK K
          refine wpAny_ready (rs := [7]) (by kernel_rfl) (by simp) ?_
          refine AllReady.cons rfl (fun K hK => ?_) ?_
          · skip
            refine step_store_row rfl 93 (.tmp 12) (.tmp 38) rfl _ 93 _ HX.out (xorL k (maskL S)) (by simp [Act.eval, Act.put]) (by simp [Act.eval, Act.put]) HIX.out (by rw [HXL.out]; rfl) ?_
            intro w5 h5 g5 z5
            refine hK _ _ ?_
            clear hK K
            refine wpAny_done (by kernel_rfl) ?_ _
            have hb5 := HBc.out.grown g5.out HBc.out.size (fun k e => by injection e with e; have := HGE.out; omega)
            have hb15 := below_to HB12.out hb5 HB12.out.size
            have hrx := Rd.ofRow (cs := bvs (xorL k (maskL S))) h5.out (by rw [bvs_len, HXL.out])
            have hf5 := HF2.out.below hb5 (Nat.le_refl _)
            have HF5 := Lib.hid hf5
            have HRX := Lib.hid hrx
            have HB15 := Lib.hid hb15
            clear hb5 hb15 hrx hf5 h5 g5 HBc HX HF2 HB2 HB12 HMASK HWITH HRNG
            go_wp2_with (first
              | (at_builtin; go_loud (refine wpList_append_to rfl (.tmp 40) (.tmp 41) rfl okB rfl HF5.out rfl HRX.out (bvs_one _) 20 rfl _ (bvs_app _ _).symm (by unfold maxLen; omega) (by omega) (by have := HB15.out.size; omega) ?_; intro D d w6 f6 g6 _)))
            have hb6 := HB15.out.grown g6 HB15.out.size (fun g hg => (HF5.out.row g hg).1)
            have hl20 : (le 4 salt ++ xorL k (maskL S)).length = 20 := by rw [List.length_append, le_len, HXL.out]
            refine (w_sealed A1 c1 S D 20 d _ w6 HSL.out ((HF1.out.rd.below hb6).more hb6.size) hl20 (by decide) f6.rd).mono ?_
            rintro e w7 ⟨D7, d7, rfl, f7, b7⟩
            have hb7 := below_to HB1.out (below_to hb6 b7 hb6.size) HB1.out.size
            have hf7 := f7.mono (base' := w.heap.size) (Nat.le_trans HB1.out.size hb6.size)
            rw [HWL.out] at hf7
            go_wp2
            go_ret2
            exact ⟨_, _, rfl, hf7, hb7⟩
          exact AllReady.nil
        exact AllReady.nil
      refine AllReady.cons rfl (fun K hK => ?_) ?_
      · skip
        go_simp
        have HGE := Lib.hid HBc.out.size
        have HX := Lib.hid (box_of_below HBc.out (.cells #[.int .u8 0, .int .u8 0, .int .u8 0, .int .u8 0, .int .u8 0, .int .u8 0, .int .u8 0, .int .u8 0, .int .u8 0, .int .u8 0, .int .u8 0, .int .u8 0, .int .u8 0, .int .u8 0, .int .u8 0, .int .u8 0] 93))
        replace HBc := Lib.hid (below_alloc HBc.out (.cells #[.int .u8 0, .int .u8 0, .int .u8 0, .int .u8 0, .int .u8 0, .int .u8 0, .int .u8 0, .int .u8 0, .int .u8 0, .int .u8 0, .int .u8 0, .int .u8 0, .int .u8 0, .int .u8 0, .int .u8 0, .int .u8 0] 93) (Nat.le_refl _))
        refine hK _ _ ?_
        clear hK K
        refine wpAny_ready (rs := [5]) (by kernel_rfl) (by simp) ?_
        refine AllReady.cons rfl (fun K hK => ?_) ?_
        · skip
          go_simp
          go_wp2_with fail
          refine (HWITH.out _).mono ?_
          rintro e wx ⟨rfl, bx⟩
          replace HX := Lib.hid ((bx.block _ (Array.getElem?_eq_some_iff.1 HX.out).1).trans HX.out)
          replace HBc := Lib.hid (below_to HBc.out bx HBc.out.size)
          clear bx
          go_wp2
          refine wpAny_ready (rs := [7]) (by kernel_rfl) (by simp) ?_
          refine AllReady.cons rfl (fun K hK => ?_) ?_
          · skip
            refine step_store_row rfl 93 (.tmp 12) (.tmp 38) rfl _ 93 _ HX.out (xorL k (maskL S)) (by simp [Act.eval, Act.put]) (by simp [Act.eval, Act.put]) HIX.out (by rw [HXL.out]; rfl) ?_
            intro w5 h5 g5 z5
            refine hK _ _ ?_
            clear hK K
            refine wpAny_done (by kernel_rfl) ?_ _
            have hb5 := HBc.out.grown g5.out HBc.out.size (fun k e => by injection e with e; have := HGE.out; omega)
            have hb15 := below_to HB12.out hb5 HB12.out.size
            have hrx := Rd.ofRow (cs := bvs (xorL k (maskL S))) h5.out (by rw [bvs_len, HXL.out])
            have hf5 := HF2.out.below hb5 (Nat.le_refl _)
            have HF5 := Lib.hid hf5
            have HRX := Lib.hid hrx
            have HB15 := Lib.hid hb15
            clear hb5 hb15 hrx hf5 h5 g5 HBc HX HF2 HB2 HB12 HMASK HWITH HRNG
            go_wp2_with (first
              | (at_builtin; go_loud (refine wpList_append_to rfl (.tmp 40) (.tmp 41) rfl okB rfl HF5.out rfl HRX.out (bvs_one _) 20 rfl _ (bvs_app _ _).symm (by unfold maxLen; omega) (by omega) (by have := HB15.out.size; omega) ?_; intro D d w6 f6 g6 _)))
            have hb6 := HB15.out.grown g6 HB15.out.size (fun g hg => (HF5.out.row g hg).1)
            have hl20 : (le 4 salt ++ xorL k (maskL S)).length = 20 := by rw [List.length_append, le_len, HXL.out]
            refine (w_sealed A1 c1 S D 20 d _ w6 HSL.out ((HF1.out.rd.below hb6).more hb6.size) hl20 (by decide) f6.rd).mono ?_
            rintro e w7 ⟨D7, d7, rfl, f7, b7⟩
            have hb7 := below_to HB1.out (below_to hb6 b7 hb6.size) HB1.out.size
            have hf7 := f7.mono (base' := w.heap.size) (Nat.le_trans HB1.out.size hb6.size)
            rw [HWL.out] at hf7
            go_wp2
            go_ret2
            exact ⟨_, _, rfl, hf7, hb7⟩
          exact AllReady.nil
        exact AllReady.nil
      exact AllReady.nil
    refine AllReady.cons rfl (fun K hK => ?_) ?_
    · skip
      go_simp
      have HGE := Lib.hid HBc.out.size
      have HX := Lib.hid (box_of_below HBc.out (.cells #[.int .u8 0, .int .u8 0, .int .u8 0, .int .u8 0, .int .u8 0, .int .u8 0, .int .u8 0, .int .u8 0, .int .u8 0, .int .u8 0, .int .u8 0, .int .u8 0, .int .u8 0, .int .u8 0, .int .u8 0, .int .u8 0] 93))
      replace HBc := Lib.hid (below_alloc HBc.out (.cells #[.int .u8 0, .int .u8 0, .int .u8 0, .int .u8 0, .int .u8 0, .int .u8 0, .int .u8 0, .int .u8 0, .int .u8 0, .int .u8 0, .int .u8 0, .int .u8 0, .int .u8 0, .int .u8 0, .int .u8 0, .int .u8 0] 93) (Nat.le_refl _))
      refine hK _ _ ?_
      clear hK K
      refine wpAny_ready (rs := [2]) (by kernel_rfl) (by simp) ?_
      refine AllReady.cons rfl (fun K hK => ?_) ?_
      · skip
        refine step_load_arr rfl 93 (.tmp 34) rfl g o (by simp [Act.eval, Act.put]) (bvs k) _ (HRNG.out _ HBc.out) Try.underlying93 rfl HI.out ?_
        refine hK _ _ ?_
        clear hK K
        refine wpAny_ready (rs := [5]) (by kernel_rfl) (by simp) ?_
        refine AllReady.cons rfl (fun K hK => ?_) ?_
        · skip
          go_simp
          go_wp2_with fail
          refine (HWITH.out _).mono ?_
          rintro e wx ⟨rfl, bx⟩
          replace HX := Lib.hid ((bx.block _ (Array.getElem?_eq_some_iff.1 HX.out).1).trans HX.out)
          replace HBc := Lib.hid (below_to HBc.out bx HBc.out.size)
          clear bx
          go_wp2
          refine wpAny_ready (rs := [7]) (by kernel_rfl) (by simp) ?_
          refine AllReady.cons rfl (fun K hK => ?_) ?_
          · skip
            refine step_store_row rfl 93 (.tmp 12) (.tmp 38) rfl _ 93 _ HX.out (xorL k (maskL S)) (by simp [Act.eval, Act.put]) (by simp [Act.eval, Act.put]) HIX.out (by rw [HXL.out]; rfl) ?_
            intro w5 h5 g5 z5
            refine hK _ _ ?_
            clear hK K
            refine wpAny_done (by kernel_rfl) ?_ _
            have hb5 := HBc.out.grown g5.out HBc.out.size (fun k e => by injection e with e; have := HGE.out; omega)
            have hb15 := below_to HB12.out hb5 HB12.out.size
            have hrx := Rd.ofRow (cs := bvs (xorL k (maskL S))) h5.out (by rw [bvs_len, HXL.out])
            have hf5 := HF2.out.below hb5 (Nat.le_refl _)
            have HF5 := Lib.hid hf5
            have HRX := Lib.hid hrx
            have HB15 := Lib.hid hb15
            clear hb5 hb15 hrx hf5 h5 g5 HBc HX HF2 HB2 HB12 HMASK HWITH HRNG
            go_wp2_with (first
              | (at_builtin; go_loud (refine wpList_append_to rfl (.tmp 40) (.tmp 41) rfl okB rfl HF5.out rfl HRX.out (bvs_one _) 20 rfl _ (bvs_app _ _).symm (by unfold maxLen; omega) (by omega) (by have := HB15.out.size; omega) ?_; intro D d w6 f6 g6 _)))
            have hb6 := HB15.out.grown g6 HB15.out.size (fun g hg => (HF5.out.row g hg).1)
            have hl20 : (le 4 salt ++ xorL k (maskL S)).length = 20 := by rw [List.length_append, le_len, HXL.out]
            refine (w_sealed A1 c1 S D 20 d _ w6 HSL.out ((HF1.out.rd.below hb6).more hb6.size) hl20 (by decide) f6.rd).mono ?_
            rintro e w7 ⟨D7, d7, rfl, f7, b7⟩
            have hb7 := below_to HB1.out (below_to hb6 b7 hb6.size) HB1.out.size
            have hf7 := f7.mono (base' := w.heap.size) (Nat.le_trans HB1.out.size hb6.size)
            rw [HWL.out] at hf7
            go_wp2
            go_ret2
            exact ⟨_, _, rfl, hf7, hb7⟩
          exact AllReady.nil
        exact AllReady.nil
      exact AllReady.nil
    exact AllReady.nil
  refine AllReady.cons rfl (fun K hK => ?_) ?_
  · skip
    go_simp
    have HGE := Lib.hid HBc.out.size
    have HX := Lib.hid (box_of_below HBc.out (.cells #[.int .u8 0, .int .u8 0, .int .u8 0, .int .u8 0, .int .u8 0, .int .u8 0, .int .u8 0, .int .u8 0, .int .u8 0, .int .u8 0, .int .u8 0, .int .u8 0, .int .u8 0, .int .u8 0, .int .u8 0, .int .u8 0] 93))
    replace HBc := Lib.hid (below_alloc HBc.out (.cells #[.int .u8 0, .int .u8 0, .int .u8 0, .int .u8 0, .int .u8 0, .int .u8 0, .int .u8 0, .int .u8 0, .int .u8 0, .int .u8 0, .int .u8 0, .int .u8 0, .int .u8 0, .int .u8 0, .int .u8 0, .int .u8 0] 93) (Nat.le_refl _))
    refine hK _ _ ?_
    clear hK K
    refine wpAny_ready (rs := [2, 4]) (by kernel_rfl) (by simp) ?_
    refine AllReady.cons rfl (fun K hK => ?_) ?_
    · skip
      refine step_load_arr rfl 93 (.tmp 34) rfl g o (by simp [Act.eval, Act.put]) (bvs k) _ (HRNG.out _ HBc.out) Try.underlying93 rfl HI.out ?_
      refine hK _ _ ?_
      clear hK K
      refine wpAny_ready (rs := [4]) (by kernel_rfl) (by simp) ?_
      refine AllReady.cons rfl (fun K hK => ?_) ?_
      · skip
        go_simp
        go_wp2_with fail
        refine (HMASK.out _ HBc.out).mono ?_
        rintro e wm ⟨rfl, bm⟩
        replace HX := Lib.hid ((bm.block _ (Array.getElem?_eq_some_iff.1 HX.out).1).trans HX.out)
        replace HBc := Lib.hid (below_to HBc.out bm HBc.out.size)
        clear bm
        go_wp2
        refine wpAny_ready (rs := [5]) (by kernel_rfl) (by simp) ?_
        refine AllReady.cons rfl (fun K hK => ?_) ?_
        · skip
          go_simp
          go_wp2_with fail
          refine (HWITH.out _).mono ?_
          rintro e wx ⟨rfl, bx⟩
          replace HX := Lib.hid ((bx.block _ (Array.getElem?_eq_some_iff.1 HX.out).1).trans HX.out)
          replace HBc := Lib.hid (below_to HBc.out bx HBc.out.size)
          clear bx
          go_wp2
          refine wpAny_ready (rs := [7]) (by kernel_rfl) (by simp) ?_
          refine AllReady.cons rfl (fun K hK => ?_) ?_
          · skip
            refine step_store_row rfl 93 (.tmp 12) (.tmp 38) rfl _ 93 _ HX.out (xorL k (maskL S)) (by simp [Act.eval, Act.put]) (by simp [Act.eval, Act.put]) HIX.out (by rw [HXL.out]; rfl) ?_
            intro w5 h5 g5 z5
            refine hK _ _ ?_
            clear hK K
            refine wpAny_done (by kernel_rfl) ?_ _
            have hb5 := HBc.out.grown g5.out HBc.out.size (fun k e => by injection e with e; have := HGE.out; omega)
            have hb15 := below_to HB12.out hb5 HB12.out.size
            have hrx := Rd.ofRow (cs := bvs (xorL k (maskL S))) h5.out (by rw [bvs_len, HXL.out])
            have hf5 := HF2.out.below hb5 (Nat.le_refl _)
            have HF5 := Lib.hid hf5
            have HRX := Lib.hid hrx
            have HB15 := Lib.hid hb15
            clear hb5 hb15 hrx hf5 h5 g5 HBc HX HF2 HB2 HB12 HMASK HWITH HRNG
            go_wp2_with (first
              | (at_builtin; go_loud (refine wpList_append_to rfl (.tmp 40) (.tmp 41) rfl okB rfl HF5.out rfl HRX.out (bvs_one _) 20 rfl _ (bvs_app _ _).symm (by unfold maxLen; omega) (by omega) (by have := HB15.out.size; omega) ?_; intro D d w6 f6 g6 _)))
            have hb6 := HB15.out.grown g6 HB15.out.size (fun g hg => (HF5.out.row g hg).1)
            have hl20 : (le 4 salt ++ xorL k (maskL S)).length = 20 := by rw [List.length_append, le_len, HXL.out]
            refine (w_sealed A1 c1 S D 20 d _ w6 HSL.out ((HF1.out.rd.below hb6).more hb6.size) hl20 (by decide) f6.rd).mono ?_
            rintro e w7 ⟨D7, d7, rfl, f7, b7⟩
            have hb7 := below_to HB1.out (below_to hb6 b7 hb6.size) HB1.out.size
            have hf7 := f7.mono (base' := w.heap.size) (Nat.le_trans HB1.out.size hb6.size)
            rw [HWL.out] at hf7
            go_wp2
            go_ret2
            exact ⟨_, _, rfl, hf7, hb7⟩
          exact AllReady.nil
        exact AllReady.nil
      exact AllReady.nil
    refine AllReady.cons rfl (fun K hK => ?_) ?_
    · skip
      go_simp
      go_wp2_with fail
      refine (HMASK.out _ HBc.out).mono ?_
      rintro e wm ⟨rfl, bm⟩
      replace HX := Lib.hid ((bm.block _ (Array.getElem?_eq_some_iff.1 HX.out).1).trans HX.out)
      replace HBc := Lib.hid (below_to HBc.out bm HBc.out.size)
      clear bm
      go_wp2
      refine wpAny_ready (rs := [2]) (by kernel_rfl) (by simp) ?_
      refine AllReady.cons rfl (fun K hK => ?_) ?_
      · skip
        refine step_load_arr rfl 93 (.tmp 34) rfl g o (by simp [Act.eval, Act.put]) (bvs k) _ (HRNG.out _ HBc.out) Try.underlying93 rfl HI.out ?_
        refine hK _ _ ?_
        clear hK K
        refine wpAny_ready (rs := [5]) (by kernel_rfl) (by simp) ?_
        refine AllReady.cons rfl (fun K hK => ?_) ?_
        · skip
          go_simp
          go_wp2_with fail
          refine (HWITH.out _).mono ?_
          rintro e wx ⟨rfl, bx⟩
          replace HX := Lib.hid ((bx.block _ (Array.getElem?_eq_some_iff.1 HX.out).1).trans HX.out)
          replace HBc := Lib.hid (below_to HBc.out bx HBc.out.size)
          clear bx
          go_wp2
          refine wpAny_ready (rs := [7]) (by kernel_rfl) (by simp) ?_
          refine AllReady.cons rfl (fun K hK => ?_) ?_
          · skip
            refine step_store_row rfl 93 (.tmp 12) (.tmp 38) rfl _ 93 _ HX.out (xorL k (maskL S)) (by simp [Act.eval, Act.put]) (by simp [Act.eval, Act.put]) HIX.out (by rw [HXL.out]; rfl) ?_
            intro w5 h5 g5 z5
            refine hK _ _ ?_
            clear hK K
            refine wpAny_done (by kernel_rfl) ?_ _
            have hb5 := HBc.out.grown g5.out HBc.out.size (fun k e => by injection e with e; have := HGE.out; omega)
            have hb15 := below_to HB12.out hb5 HB12.out.size
            have hrx := Rd.ofRow (cs := bvs (xorL k (maskL S))) h5.out (by rw [bvs_len, HXL.out])
            have hf5 := HF2.out.below hb5 (Nat.le_refl _)
            have HF5 := Lib.hid hf5
            have HRX := Lib.hid hrx
            have HB15 := Lib.hid hb15
            clear hb5 hb15 hrx hf5 h5 g5 HBc HX HF2 HB2 HB12 HMASK HWITH HRNG
            go_wp2_with (first
              | (at_builtin; go_loud (refine wpList_append_to rfl (.tmp 40) (.tmp 41) rfl okB rfl HF5.out rfl HRX.out (bvs_one _) 20 rfl _ (bvs_app _ _).symm (by unfold maxLen; omega) (by omega) (by have := HB15.out.size; omega) ?_; intro D d w6 f6 g6 _)))
            have hb6 := HB15.out.grown g6 HB15.out.size (fun g hg => (HF5.out.row g hg).1)
            have hl20 : (le 4 salt ++ xorL k (maskL S)).length = 20 := by rw [List.length_append, le_len, HXL.out]
            refine (w_sealed A1 c1 S D 20 d _ w6 HSL.out ((HF1.out.rd.below hb6).more hb6.size) hl20 (by decide) f6.rd).mono ?_
            rintro e w7 ⟨D7, d7, rfl, f7, b7⟩
            have hb7 := below_to HB1.out (below_to hb6 b7 hb6.size) HB1.out.size
            have hf7 := f7.mono (base' := w.heap.size) (Nat.le_trans HB1.out.size hb6.size)
            rw [HWL.out] at hf7
            go_wp2
            go_ret2
            exact ⟨_, _, rfl, hf7, hb7⟩
          exact AllReady.nil
        exact AllReady.nil
      exact AllReady.nil
    exact AllReady.nil
  exact AllReady.nil
end Go.Proofs.Ytoggpnncmgcgoaa
