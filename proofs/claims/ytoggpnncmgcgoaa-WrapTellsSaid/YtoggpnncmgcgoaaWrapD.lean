/-
  Contracts of package wrap: Unwrap.
-/
import Derived.Test.YtoggpnncmgcgoaaWrapC
namespace Go.Proofs.Ytoggpnncmgcgoaa
open Go.RowKit
set_option linter.unusedVariables false
set_option linter.unusedSimpArgs false
set_option maxRecDepth 100000

theorem w_unwrap_long (s : ByteArray) (A : Option Addr) (n c : Nat) (w : World) (h : (s.size : Int) > 64) : Calls Try.prog 38 #[.string s, .slice A n c] w fun e w' => e = .returned (.tuple #[.slice none 0 0, .int .i64 3]) ∧ w = w' := by
  have h64 : (64 : Int) < (s.size : Int) := h
  clear h
  go_enter Try.func38, Try.ntmps38
  go_wp2
  go_ret2
  exact ⟨rfl, rfl⟩
theorem w_unwrap_bad (s : ByteArray) (A : Option Addr) (n c : Nat) (w : World) (h : s.size ≤ 64) (hn : ((n : Int) != 24) = true) : Calls Try.prog 38 #[.string s, .slice A n c] w fun e w' => e = .returned (.tuple #[.slice none 0 0, .int .i64 8]) ∧ w = w' := by
  have hd64 : decide ((64 : Int) < (s.size : Int)) = false := by simp; omega
  clear h
  go_enter Try.func38, Try.ntmps38
  go_wp2
  go_ret2
  exact ⟨rfl, rfl⟩
set_option maxHeartbeats 4000000 in
theorem w_unwrap_no (s : ByteArray) (B : Option Addr) (d : Nat) (l : List UInt8) (w : World) (h : s.size ≤ 64) (hl : l.length = 24) (hd : 24 ≤ d) (hr : Rd w w.heap.size 1 B 24 (bvs l)) (hE : sealL (stretchL s.data.toList (num (l.take 4))) (l.take 20) ≠ l) : Calls Try.prog 38 #[.string s, .slice B 24 d] w fun e w' =>
    e = .returned (.tuple #[.slice none 0 0, .int .i64 201]) ∧ Below w.heap.size w w' := by
  have hd64 : decide ((64 : Int) < (s.size : Int)) = false := by simp; omega
  have hcap20 : (20 : Int) ≤ (d : Int) := by omega
  have hlt : num (l.take 4) < 4294967296 := by have := num_lt (l.take 4); rw [List.length_take, hl] at this; exact this
  have hwr : IntKind.u32.wrap ((num (l.take 4) : Nat) : Int) = ((num (l.take 4) : Nat) : Int) := by rw [IntKind.wrap_u32]; omega
  have hget := fun W (h : Below w.heap.size w W) => get_ok B 24 d 0 4 W l (by decide) (by omega) ((hr.below h).more h.size) (by decide) (by decide) (by decide) (by decide)
  rw [show (l.drop (0 : Int).toNat).take (4 : Int).toNat = l.take 4 from rfl] at hget
  have hst := fun W => w_stretch s (num (l.take 4)) W (by omega) h
  have HGET := Lib.hid hget
  have HST := Lib.hid hst
  have HR := Lib.hid hr
  have HL := Lib.hid hl
  have HE := Lib.hid hE
  have HSL := Lib.hid (stretchL_len s.data.toList (num (l.take 4)))
  clear hget hst hlt hE h
  generalize stretchL s.data.toList (num (l.take 4)) = S at *
  generalize num (l.take 4) = salt at *
  obtain ⟨g, o, rfl, hg, -⟩ := hr.2 (by omega)
  clear hr
  go_enter Try.func38, Try.ntmps38
  go_wp2_with fail
  refine (HGET.out _ (Below.refl _ _)).mono ?_
  rintro e w1 ⟨rfl, b1⟩
  go_wp2_with fail
  refine (HST.out w1).mono ?_
  rintro e w2 ⟨A2, c2, rfl, f2, b2⟩
  have hb2 := below_to b1 b2 b1.size
  have HF2 := Lib.hid f2
  have HB2 := Lib.hid hb2
  have HB1 := Lib.hid b1
  clear f2 b2 hb2 b1
  go_wp2_with fail
  have hr20 := (HR.out.take (k := 20) (by omega))
  rw [Nat.mul_one, ← bvs_take] at hr20
  refine (w_sealed A2 c2 S (some ⟨g, o, none⟩) 20 d (l.take 20) w2 HSL.out HF2.out.rd (by rw [List.length_take, HL.out]; rfl) (by decide) ((hr20.below HB2.out).more HB2.out.size)).mono ?_
  rintro e w3 ⟨A3, c3, rfl, f3, b3⟩
  have hb3 := below_to HB2.out b3 HB2.out.size
  have hf3 := HF2.out.below b3 (Nat.le_refl _)
  clear hr20
  go_wp2_with fail
  refine (b_equal_len A3 24 c3 _ _ d l w3 (by rw [sealL_len, List.length_take, HL.out]; rfl) (by decide) f3.rd HL.out ((HR.out.below hb3).more hb3.size) false (by have := HE.out; simpa using this)).mono ?_
  rintro e w4 ⟨rfl, b4⟩
  have hb4 := below_to hb3 b4 hb3.size
  clear f3 b3 b4 hb3 hf3
  go_wp2
  go_ret2
  exact ⟨rfl, hb4⟩
set_option maxHeartbeats 4000000 in
theorem w_unwrap_ok (s : ByteArray) (B : Option Addr) (d : Nat) (l : List UInt8) (w : World) (h : s.size ≤ 64) (hl : l.length = 24) (hd : 24 ≤ d) (hr : Rd w w.heap.size 1 B 24 (bvs l)) (hE : sealL (stretchL s.data.toList (num (l.take 4))) (l.take 20) = l) : Calls Try.prog 38 #[.string s, .slice B 24 d] w fun e w' =>
    ∃ D c, e = .returned (.tuple #[.slice D 16 c, .int .i64 0]) ∧ Fr w' w.heap.size 5 1 D 16 c (bvs (xorL ((l.drop 4).take 16) (maskL (stretchL s.data.toList (num (l.take 4)))))) ∧ Below w.heap.size w w' := by
  have hd64 : decide ((64 : Int) < (s.size : Int)) = false := by simp; omega
  have hcap20 : (20 : Int) ≤ (d : Int) := by omega
  have hlt : num (l.take 4) < 4294967296 := by have := num_lt (l.take 4); rw [List.length_take, hl] at this; exact this
  have hwr : IntKind.u32.wrap ((num (l.take 4) : Nat) : Int) = ((num (l.take 4) : Nat) : Int) := by rw [IntKind.wrap_u32]; omega
  have hget := fun W (h : Below w.heap.size w W) => get_ok B 24 d 0 4 W l (by decide) (by omega) ((hr.below h).more h.size) (by decide) (by decide) (by decide) (by decide)
  rw [show (l.drop (0 : Int).toNat).take (4 : Int).toNat = l.take 4 from rfl] at hget
  have hst := fun W => w_stretch s (num (l.take 4)) W (by omega) h
  have HGET := Lib.hid hget
  have HST := Lib.hid hst
  have HR := Lib.hid hr
  have HL := Lib.hid hl
  have HE := Lib.hid hE
  have HSL := Lib.hid (stretchL_len s.data.toList (num (l.take 4)))
  clear hget hst hlt hE h
  generalize stretchL s.data.toList (num (l.take 4)) = S at *
  generalize num (l.take 4) = salt at *
  obtain ⟨g, o, rfl, hg, -⟩ := hr.2 (by omega)
  clear hr
  go_enter Try.func38, Try.ntmps38
  go_wp2_with fail
  refine (HGET.out _ (Below.refl _ _)).mono ?_
  rintro e w1 ⟨rfl, b1⟩
  go_wp2_with fail
  refine (HST.out w1).mono ?_
  rintro e w2 ⟨A2, c2, rfl, f2, b2⟩
  have hb2 := below_to b1 b2 b1.size
  have HF2 := Lib.hid f2
  have HB2 := Lib.hid hb2
  have HB1 := Lib.hid b1
  clear f2 b2 hb2 b1
  go_wp2_with fail
  have hr20 := (HR.out.take (k := 20) (by omega))
  rw [Nat.mul_one, ← bvs_take] at hr20
  refine (w_sealed A2 c2 S (some ⟨g, o, none⟩) 20 d (l.take 20) w2 HSL.out HF2.out.rd (by rw [List.length_take, HL.out]; rfl) (by decide) ((hr20.below HB2.out).more HB2.out.size)).mono ?_
  rintro e w3 ⟨A3, c3, rfl, f3, b3⟩
  have hb3 := below_to HB2.out b3 HB2.out.size
  have hf3 := HF2.out.below b3 (Nat.le_refl _)
  clear hr20
  go_wp2_with fail
  refine (b_equal_len A3 24 c3 _ _ d l w3 (by rw [sealL_len, List.length_take, HL.out]; rfl) (by decide) f3.rd HL.out ((HR.out.below hb3).more hb3.size) true (by have := HE.out; simpa using this)).mono ?_
  rintro e w4 ⟨rfl, b4⟩
  have hb4 := below_to hb3 b4 hb3.size
  have hf4 := hf3.below b4 (Nat.le_refl _)
  have hd4 : ¬ d = 4 := by omega
  have hkl : ((l.drop 4).take 16).length = 16 := by rw [List.length_take, List.length_drop, HL.out]; rfl
  have hmask := fun (W : World) (h : Below w4.heap.size w4 W) => w_mask A2 c2 S W HSL.out ((hf4.rd.below h).more h.size)
  have hwith := fun (W : World) => w_with ((l.drop 4).take 16) (maskL S) W hkl (maskL_len S)
  have hxl : (xorL ((l.drop 4).take 16) (maskL S)).length = 16 := by rw [xorL_len, hkl]
  have hi16 : (Try.prog.info? 93).map (·.size) = some 16 := by kernel_rfl
  have hi : (Try.prog.info? 93).map (·.size) = some (bvs ((l.drop 4).take 16)).length := by rw [bvs_len, hkl]; exact hi16
  have hix : (Try.prog.info? 93).map (·.size) = some (xorL ((l.drop 4).take 16) (maskL S)).length := by rw [hxl]; exact hi16
  have hrng := fun (W : World) (h : Below w4.heap.size w4 W) => ((HR.out.below hb4).belowH h hb4.size).range 4 16
  have HMASK := Lib.hid hmask
  have HWITH := Lib.hid hwith
  have HRNG := Lib.hid hrng
  have HIX := Lib.hid hix
  have HXL := Lib.hid hxl
  have HI := Lib.hid hi
  have HB4 := Lib.hid hb4
  have HBc := Lib.hid (Below.refl w4.heap.size w4).drew
  have har := run_arrayAt_slice (P := Try.prog) Try.underlying93 (some ⟨g, o + 4, none⟩) 16 (d - 4) (by omega)
  clear f3 b3 b4 hb3 hb4 hmask hwith hrng hkl hix hxl hi hi16 hf4 hf3
  generalize hkk : (l.drop 4).take 16 = k at *
  go_wp2_with fail
  refine wp_region_any (by kernel_rfl) ?_
  try (change wpAny _ _ _ _ _ _ _ (World.drew _))
  refine wpAny_take (i := 0) (v := ?_) rfl (by kernel_rfl) (by kernel_rfl) (by kernel_rfl) (fun _ _ _ h => h) (Or.inl ⟨by rfl, ?hyq⟩) ?_
  case hyq => (intro w; go_simp; try (with_reducible rfl))
  refine wpAny_take (i := 1) (v := ?_) rfl (by kernel_rfl) (by kernel_rfl) (by kernel_rfl) (fun _ _ _ h => h) (Or.inl ⟨by rfl, ?hyq⟩) ?_
  case hyq => (intro w; go_simp; try (with_reducible rfl))
  refine wpAny_take (i := 2) (v := ?_) rfl (by kernel_rfl) (by kernel_rfl) (by kernel_rfl) (fun _ _ _ h => h) (Or.inl ⟨by rfl, ?hyq⟩) ?_
  case hyq => (intro w; go_simp; try (with_reducible rfl))
  refine wpAny_take (i := 4) (v := ?_) rfl (by kernel_rfl) (by kernel_rfl) (by kernel_rfl) (fun _ _ _ h => h) (Or.inl ⟨by rfl, ?hyq⟩) ?_
  case hyq => (intro w; go_simp; try (with_reducible rfl))
  refine wpAny_ready (rs := [3, 5, 7]) (by kernel_rfl) (by simp) ?_
  refine AllReady.cons rfl (fun K hK => ?_) ?_
  · skip
    refine step_load_arr rfl 93 (.tmp 41) rfl g (o + 4) (by simp [Act.eval, Act.put]) (bvs k) _ (HRNG.out _ HBc.out) Try.underlying93 rfl HI.out ?_
    refine hK _ _ ?_
    clear hK K
    refine wpAny_ready (rs := [5, 7]) (by kernel_rfl) (by simp) ?_
    refine AllReady.cons rfl (fun K hK => ?_) ?_
    · skip
      go_simp
      go_wp2_with fail
      refine (HMASK.out _ HBc.out).mono ?_
      rintro e wm ⟨rfl, bm⟩
      replace HBc := Lib.hid (below_to HBc.out bm HBc.out.size)
      clear bm
      go_wp2
      refine wpAny_ready (rs := [6, 7]) (by kernel_rfl) (by simp) ?_
      refine AllReady.cons rfl (fun K hK => ?_) ?_
      · skip
        go_simp
        go_wp2_with fail
        refine (HWITH.out _).mono ?_
        rintro e wx ⟨rfl, bx⟩
        replace HBc := Lib.hid (below_to HBc.out bx HBc.out.size)
        clear bx
        go_wp2
        refine wpAny_ready (rs := [7]) (by kernel_rfl) (by simp) ?_
        refine AllReady.cons rfl (fun K hK => ?_) ?_
        · skip
          go_simp
          have HGE := Lib.hid HBc.out.size
          have HX := Lib.hid (box_of_below HBc.out (.cells #[.int .u8 0, .int .u8 0, .int .u8 0, .int .u8 0, .int .u8 0, .int .u8 0, .int .u8 0, .int .u8 0, .int .u8 0, .int .u8 0, .int .u8 0, .int .u8 0, .int .u8 0, .int .u8 0, .int .u8 0, .int .u8 0] 93))
          replace HBc := Lib.hid (below_alloc HBc.out (.cells #[.int .u8 0, .int .u8 0, .int .u8 0, .int .u8 0, .int .u8 0, .int .u8 0, .int .u8 0, .int .u8 0, .int .u8 0, .int .u8 0, .int .u8 0, .int .u8 0, .int .u8 0, .int .u8 0, .int .u8 0, .int .u8 0] 93) (Nat.le_refl _))
          refine hK _ _ ?_
          clear hK K
          refine wpAny_ready (rs := [8]) (by kernel_rfl) (by simp) ?_
          refine AllReady.cons rfl (fun K hK => ?_) ?_
          · skip
            refine step_store_row rfl 93 (.tmp 10) (.tmp 45) rfl _ 93 _ HX.out (xorL k (maskL S)) (by simp [Act.eval, Act.put]) (by simp [Act.eval, Act.put]) HIX.out (by rw [HXL.out]; rfl) ?_
            intro w5 h5 g5 z5
            refine hK _ _ ?_
            clear hK K
            refine wpAny_done (by kernel_rfl) ?_ _
            have hb5 := HBc.out.grown g5.out HBc.out.size (fun k e => by injection e with e; have := HGE.out; omega)
            have hb5w := below_to HB4.out hb5 HB4.out.size
            have hrx := Rd.ofRow (cs := bvs (xorL k (maskL S))) h5.out (by rw [bvs_len, HXL.out])
            have HRX := Lib.hid hrx
            have HB5 := Lib.hid hb5w
            clear hb5 hrx h5 g5 hb5w HBc HX HMASK HWITH HRNG
            go_wp2_with fail
            refine (m_clone _ 16 16 _ w5 HXL.out (by decide) HRX.out).mono ?_
            rintro e w6 ⟨D6, d6, rfl, f6, b6⟩
            have hb6 := below_to HB5.out b6 HB5.out.size
            have hf6 := f6.mono (base' := w.heap.size) HB5.out.size
            go_wp2
            go_ret2
            exact ⟨_, _, rfl, by rw [hkk]; exact hf6, hb6⟩
          exact AllReady.nil
        exact AllReady.nil
      refine AllReady.cons rfl (fun K hK => ?_) ?_
      · skip
        go_simp
        have HGE := Lib.hid HBc.out.size
        have HX := Lib.hid (box_of_below HBc.out (.cells #[.int .u8 0, .int .u8 0, .int .u8 0, .int .u8 0, .int .u8 0, .int .u8 0, .int .u8 0, .int .u8 0, .int .u8 0, .int .u8 0, .int .u8 0, .int .u8 0, .int .u8 0, .int .u8 0, .int .u8 0, .int .u8 0] 93))
        replace HBc := Lib.hid (below_alloc HBc.out (.cells #[.int .u8 0, .int .u8 0, .int .u8 0, .int .u8 0, .int .u8 0, .int .u8 0, .int .u8 0, .int .u8 0, .int .u8 0, .int .u8 0, .int .u8 0, .int .u8 0, .int .u8 0, .int .u8 0, .int .u8 0, .int .u8 0] 93) (Nat.le_refl _))
        refine hK _ _ ?_
        clear hK K
        refine wpAny_ready (rs := [6]) (by kernel_rfl) (by simp) ?_
        refine AllReady.cons rfl (fun K hK => ?_) ?_
        · skip
          go_simp
          go_wp2_with fail
          refine (HWITH.out _).mono ?_
          rintro e wx ⟨rfl, bx⟩
          replace HX := Lib.hid ((bx.block _ (Array.getElem?_eq_some_iff.1 HX.out).1).trans HX.out)
          replace HBc := Lib.hid (below_to HBc.out bx HBc.out.size)
          clear bx
          go_wp2
          refine wpAny_ready (rs := [8]) (by kernel_rfl) (by simp) ?_
          refine AllReady.cons rfl (fun K hK => ?_) ?_
          · skip
            refine step_store_row rfl 93 (.tmp 10) (.tmp 45) rfl _ 93 _ HX.out (xorL k (maskL S)) (by simp [Act.eval, Act.put]) (by simp [Act.eval, Act.put]) HIX.out (by rw [HXL.out]; rfl) ?_
            intro w5 h5 g5 z5
            refine hK _ _ ?_
            clear hK K
            refine wpAny_done (by kernel_rfl) ?_ _
            have hb5 := HBc.out.grown g5.out HBc.out.size (fun k e => by injection e with e; have := HGE.out; omega)
            have hb5w := below_to HB4.out hb5 HB4.out.size
            have hrx := Rd.ofRow (cs := bvs (xorL k (maskL S))) h5.out (by rw [bvs_len, HXL.out])
            have HRX := Lib.hid hrx
            have HB5 := Lib.hid hb5w
            clear hb5 hrx h5 g5 hb5w HBc HX HMASK HWITH HRNG
            go_wp2_with fail
            refine (m_clone _ 16 16 _ w5 HXL.out (by decide) HRX.out).mono ?_
            rintro e w6 ⟨D6, d6, rfl, f6, b6⟩
            have hb6 := below_to HB5.out b6 HB5.out.size
            have hf6 := f6.mono (base' := w.heap.size) HB5.out.size
            go_wp2
            go_ret2
            exact ⟨_, _, rfl, by rw [hkk]; exact hf6, hb6⟩
          exact AllReady.nil
        exact AllReady.nil
      exact AllReady.nil
    refine AllReady.cons rfl (fun K hK => ?_) ?_
    · skip
      go_simp
      have HGE := Lib.hid HBc.out.size
      have HX := Lib.hid (box_of_below HBc.out (.cells #[.int .u8 0, .int .u8 0, .int .u8 0, .int .u8 0, .int .u8 0, .int .u8 0, .int .u8 0, .int .u8 0, .int .u8 0, .int .u8 0, .int .u8 0, .int .u8 0, .int .u8 0, .int .u8 0, .int .u8 0, .int .u8 0] 93))
      replace HBc := Lib.hid (below_alloc HBc.out (.cells #[.int .u8 0, .int .u8 0, .int .u8 0, .int .u8 0, .int .u8 0, .int .u8 0, .int .u8 0, .int .u8 0, .int .u8 0, .int .u8 0, .int .u8 0, .int .u8 0, .int .u8 0, .int .u8 0, .int .u8 0, .int .u8 0] 93) (Nat.le_refl _))
      refine hK _ _ ?_
      clear hK K
      refine wpAny_ready (rs := [5]) (by kernel_rfl) (by simp) ?_
      refine AllReady.cons rfl (fun K hK => ?_) ?_
      · skip
        go_simp
        go_wp2_with fail
        refine (HMASK.out _ HBc.out).mono ?_
        rintro e wm ⟨rfl, bm⟩
        replace HX := Lib.hid ((bm.block _ (Array.getElem?_eq_some_iff.1 HX.out).1).trans HX.out)
        replace HBc := Lib.hid (below_to HBc.out bm HBc.out.size)
        clear bm
        go_wp2
        refine wpAny_ready (rs := [6]) (by kernel_rfl) (by simp) ?_
        refine AllReady.cons rfl (fun K hK => ?_) ?_
        · skip
          go_simp
          go_wp2_with fail
          refine (HWITH.out _).mono ?_
          rintro e wx ⟨rfl, bx⟩
          replace HX := Lib.hid ((bx.block _ (Array.getElem?_eq_some_iff.1 HX.out).1).trans HX.out)
          replace HBc := Lib.hid (below_to HBc.out bx HBc.out.size)
          clear bx
          go_wp2
          refine wpAny_ready (rs := [8]) (by kernel_rfl) (by simp) ?_
          refine AllReady.cons rfl (fun K hK => ?_) ?_
          · skip
            refine step_store_row rfl 93 (.tmp 10) (.tmp 45) rfl _ 93 _ HX.out (xorL k (maskL S)) (by simp [Act.eval, Act.put]) (by simp [Act.eval, Act.put]) HIX.out (by rw [HXL.out]; rfl) ?_
            intro w5 h5 g5 z5
            refine hK _ _ ?_
            clear hK K
            refine wpAny_done (by kernel_rfl) ?_ _
            have hb5 := HBc.out.grown g5.out HBc.out.size (fun k e => by injection e with e; have := HGE.out; omega)
            have hb5w := below_to HB4.out hb5 HB4.out.size
            have hrx := Rd.ofRow (cs := bvs (xorL k (maskL S))) h5.out (by rw [bvs_len, HXL.out])
            have HRX := Lib.hid hrx
            have HB5 := Lib.hid hb5w
            clear hb5 hrx h5 g5 hb5w HBc HX HMASK HWITH HRNG
            go_wp2_with fail
            refine (m_clone _ 16 16 _ w5 HXL.out (by decide) HRX.out).mono ?_
            rintro e w6 ⟨D6, d6, rfl, f6, b6⟩
            have hb6 := below_to HB5.out b6 HB5.out.size
            have hf6 := f6.mono (base' := w.heap.size) HB5.out.size
            go_wp2
            go_ret2
            exact ⟨_, _, rfl, by rw [hkk]; exact hf6, hb6⟩
          exact AllReady.nil
        exact AllReady.nil
      exact AllReady.nil
    exact AllReady.nil
  refine AllReady.cons rfl (fun K hK => ?_) ?_
  · skip
    go_simp
    go_wp2_with fail
    refine (HMASK.out _ HBc.out).mono ?_
    rintro e wm ⟨rfl, bm⟩
    replace HBc := Lib.hid (below_to HBc.out bm HBc.out.size)
    clear bm
    go_wp2
    refine wpAny_ready (rs := [3, 7]) (by kernel_rfl) (by simp) ?_
    refine AllReady.cons rfl (fun K hK => ?_) ?_
    · skip
      refine step_load_arr rfl 93 (.tmp 41) rfl g (o + 4) (by simp [Act.eval, Act.put]) (bvs k) _ (HRNG.out _ HBc.out) Try.underlying93 rfl HI.out ?_
      refine hK _ _ ?_
      clear hK K
      refine wpAny_ready (rs := [6, 7]) (by kernel_rfl) (by simp) ?_
      refine AllReady.cons rfl (fun K hK => ?_) ?_
      · skip
        go_simp
        go_wp2_with fail
        refine (HWITH.out _).mono ?_
        rintro e wx ⟨rfl, bx⟩
        replace HBc := Lib.hid (below_to HBc.out bx HBc.out.size)
        clear bx
        go_wp2
        refine wpAny_ready (rs := [7]) (by kernel_rfl) (by simp) ?_
        refine AllReady.cons rfl (fun K hK => ?_) ?_
        · skip
          go_simp
          have HGE := Lib.hid HBc.out.size
          have HX := Lib.hid (box_of_below HBc.out (.cells #[.int .u8 0, .int .u8 0, .int .u8 0, .int .u8 0, .int .u8 0, .int .u8 0, .int .u8 0, .int .u8 0, .int .u8 0, .int .u8 0, .int .u8 0, .int .u8 0, .int .u8 0, .int .u8 0, .int .u8 0, .int .u8 0] 93))
          replace HBc := Lib.hid (below_alloc HBc.out (.cells #[.int .u8 0, .int .u8 0, .int .u8 0, .int .u8 0, .int .u8 0, .int .u8 0, .int .u8 0, .int .u8 0, .int .u8 0, .int .u8 0, .int .u8 0, .int .u8 0, .int .u8 0, .int .u8 0, .int .u8 0, .int .u8 0] 93) (Nat.le_refl _))
          refine hK _ _ ?_
          clear hK K
          refine wpAny_ready (rs := [8]) (by kernel_rfl) (by simp) ?_
          refine AllReady.cons rfl (fun K hK => ?_) ?_
          · skip
            refine step_store_row rfl 93 (.tmp 10) (.tmp 45) rfl _ 93 _ HX.out (xorL k (maskL S)) (by simp [Act.eval, Act.put]) (by simp [Act.eval, Act.put]) HIX.out (by rw [HXL.out]; rfl) ?_
            intro w5 h5 g5 z5
            refine hK _ _ ?_
            clear hK K
            refine wpAny_done (by kernel_rfl) ?_ _
            have hb5 := HBc.out.grown g5.out HBc.out.size (fun k e => by injection e with e; have := HGE.out; omega)
            have hb5w := below_to HB4.out hb5 HB4.out.size
            have hrx := Rd.ofRow (cs := bvs (xorL k (maskL S))) h5.out (by rw [bvs_len, HXL.out])
            have HRX := Lib.hid hrx
            have HB5 := Lib.hid hb5w
            clear hb5 hrx h5 g5 hb5w HBc HX HMASK HWITH HRNG
            go_wp2_with fail
            refine (m_clone _ 16 16 _ w5 HXL.out (by decide) HRX.out).mono ?_
            rintro e w6 ⟨D6, d6, rfl, f6, b6⟩
            have hb6 := below_to HB5.out b6 HB5.out.size
            have hf6 := f6.mono (base' := w.heap.size) HB5.out.size
            go_wp2
            go_ret2
            exact ⟨_, _, rfl, by rw [hkk]; exact hf6, hb6⟩
          exact AllReady.nil
        exact AllReady.nil
      refine AllReady.cons rfl (fun K hK => ?_) ?_
      · skip
        go_simp
        have HGE := Lib.hid HBc.out.size
        have HX := Lib.hid (box_of_below HBc.out (.cells #[.int .u8 0, .int .u8 0, .int .u8 0, .int .u8 0, .int .u8 0, .int .u8 0, .int .u8 0, .int .u8 0, .int .u8 0, .int .u8 0, .int .u8 0, .int .u8 0, .int .u8 0, .int .u8 0, .int .u8 0, .int .u8 0] 93))
        replace HBc := Lib.hid (below_alloc HBc.out (.cells #[.int .u8 0, .int .u8 0, .int .u8 0, .int .u8 0, .int .u8 0, .int .u8 0, .int .u8 0, .int .u8 0, .int .u8 0, .int .u8 0, .int .u8 0, .int .u8 0, .int .u8 0, .int .u8 0, .int .u8 0, .int .u8 0] 93) (Nat.le_refl _))
        refine hK _ _ ?_
        clear hK K
        refine wpAny_ready (rs := [6]) (by kernel_rfl) (by simp) ?_
        refine AllReady.cons rfl (fun K hK => ?_) ?_
        · skip
          go_simp
          go_wp2_with fail
          refine (HWITH.out _).mono ?_
          rintro e wx ⟨rfl, bx⟩
          replace HX := Lib.hid ((bx.block _ (Array.getElem?_eq_some_iff.1 HX.out).1).trans HX.out)
          replace HBc := Lib.hid (below_to HBc.out bx HBc.out.size)
          clear bx
          go_wp2
          refine wpAny_ready (rs := [8]) (by kernel_rfl) (by simp) ?_
          refine AllReady.cons rfl (fun K hK => ?_) ?_
          · skip
            refine step_store_row rfl 93 (.tmp 10) (.tmp 45) rfl _ 93 _ HX.out (xorL k (maskL S)) (by simp [Act.eval, Act.put]) (by simp [Act.eval, Act.put]) HIX.out (by rw [HXL.out]; rfl) ?_
            intro w5 h5 g5 z5
            refine hK _ _ ?_
            clear hK K
            refine wpAny_done (by kernel_rfl) ?_ _
            have hb5 := HBc.out.grown g5.out HBc.out.size (fun k e => by injection e with e; have := HGE.out; omega)
            have hb5w := below_to HB4.out hb5 HB4.out.size
            have hrx := Rd.ofRow (cs := bvs (xorL k (maskL S))) h5.out (by rw [bvs_len, HXL.out])
            have HRX := Lib.hid hrx
            have HB5 := Lib.hid hb5w
            clear hb5 hrx h5 g5 hb5w HBc HX HMASK HWITH HRNG
            go_wp2_with fail
            refine (m_clone _ 16 16 _ w5 HXL.out (by decide) HRX.out).mono ?_
            rintro e w6 ⟨D6, d6, rfl, f6, b6⟩
            have hb6 := below_to HB5.out b6 HB5.out.size
            have hf6 := f6.mono (base' := w.heap.size) HB5.out.size
            go_wp2
            go_ret2
            exact ⟨_, _, rfl, by rw [hkk]; exact hf6, hb6⟩
          exact AllReady.nil
        exact AllReady.nil
      exact AllReady.nil
    refine AllReady.cons rfl (fun K hK => ?_) ?_
    · skip
      go_simp
      have HGE := Lib.hid HBc.out.size
      have HX := Lib.hid (box_of_below HBc.out (.cells #[.int .u8 0, .int .u8 0, .int .u8 0, .int .u8 0, .int .u8 0, .int .u8 0, .int .u8 0, .int .u8 0, .int .u8 0, .int .u8 0, .int .u8 0, .int .u8 0, .int .u8 0, .int .u8 0, .int .u8 0, .int .u8 0] 93))
      replace HBc := Lib.hid (below_alloc HBc.out (.cells #[.int .u8 0, .int .u8 0, .int .u8 0, .int .u8 0, .int .u8 0, .int .u8 0, .int .u8 0, .int .u8 0, .int .u8 0, .int .u8 0, .int .u8 0, .int .u8 0, .int .u8 0, .int .u8 0, .int .u8 0, .int .u8 0] 93) (Nat.le_refl _))
      refine hK _ _ ?_
      clear hK K
      refine wpAny_ready (rs := [3]) (by kernel_rfl) (by simp) ?_
      refine AllReady.cons rfl (fun K hK => ?_) ?_
      · skip
        refine step_load_arr rfl 93 (.tmp 41) rfl g (o + 4) (by simp [Act.eval, Act.put]) (bvs k) _ (HRNG.out _ HBc.out) Try.underlying93 rfl HI.out ?_
        refine hK _ _ ?_
        clear hK K
        refine wpAny_ready (rs := [6]) (by kernel_rfl) (by simp) ?_
        refine AllReady.cons rfl (fun K hK => ?_) ?_
        · skip
          go_simp
          go_wp2_with fail
          refine (HWITH.out _).mono ?_
          rintro e wx ⟨rfl, bx⟩
          replace HX := Lib.hid ((bx.block _ (Array.getElem?_eq_some_iff.1 HX.out).1).trans HX.out)
          replace HBc := Lib.hid (below_to HBc.out bx HBc.out.size)
          clear bx
          go_wp2
          refine wpAny_ready (rs := [8]) (by kernel_rfl) (by simp) ?_
          refine AllReady.cons rfl (fun K hK => ?_) ?_
          · skip
            refine step_store_row rfl 93 (.tmp 10) (.tmp 45) rfl _ 93 _ HX.out (xorL k (maskL S)) (by simp [Act.eval, Act.put]) (by simp [Act.eval, Act.put]) HIX.out (by rw [HXL.out]; rfl) ?_
            intro w5 h5 g5 z5
            refine hK _ _ ?_
            clear hK K
            refine wpAny_done (by kernel_rfl) ?_ _
            have hb5 := HBc.out.grown g5.out HBc.out.size (fun k e => by injection e with e; have := HGE.out; omega)
            have hb5w := below_to HB4.out hb5 HB4.out.size
            have hrx := Rd.ofRow (cs := bvs (xorL k (maskL S))) h5.out (by rw [bvs_len, HXL.out])
            have HRX := Lib.hid hrx
            have HB5 := Lib.hid hb5w
            clear hb5 hrx h5 g5 hb5w HBc HX HMASK HWITH HRNG
            go_wp2_with fail
            refine (m_clone _ 16 16 _ w5 HXL.out (by decide) HRX.out).mono ?_
            rintro e w6 ⟨D6, d6, rfl, f6, b6⟩
            have hb6 := below_to HB5.out b6 HB5.out.size
            have hf6 := f6.mono (base' := w.heap.size) HB5.out.size
            go_wp2
            go_ret2
            exact ⟨_, _, rfl, by rw [hkk]; exact hf6, hb6⟩
          exact AllReady.nil
        exact AllReady.nil
      exact AllReady.nil
    exact AllReady.nil
  refine AllReady.cons rfl (fun K hK => ?_) ?_
  · skip
    go_simp
    have HGE := Lib.hid HBc.out.size
    have HX := Lib.hid (box_of_below HBc.out (.cells #[.int .u8 0, .int .u8 0, .int .u8 0, .int .u8 0, .int .u8 0, .int .u8 0, .int .u8 0, .int .u8 0, .int .u8 0, .int .u8 0, .int .u8 0, .int .u8 0, .int .u8 0, .int .u8 0, .int .u8 0, .int .u8 0] 93))
    replace HBc := Lib.hid (below_alloc HBc.out (.cells #[.int .u8 0, .int .u8 0, .int .u8 0, .int .u8 0, .int .u8 0, .int .u8 0, .int .u8 0, .int .u8 0, .int .u8 0, .int .u8 0, .int .u8 0, .int .u8 0, .int .u8 0, .int .u8 0, .int .u8 0, .int .u8 0] 93) (Nat.le_refl _))
    refine hK _ _ ?_
    clear hK K
    refine wpAny_ready (rs := [3, 5]) (by kernel_rfl) (by simp) ?_
    refine AllReady.cons rfl (fun K hK => ?_) ?_
    · skip
      refine step_load_arr rfl 93 (.tmp 41) rfl g (o + 4) (by simp [Act.eval, Act.put]) (bvs k) _ (HRNG.out _ HBc.out) Try.underlying93 rfl HI.out ?_
      refine hK _ _ ?_
      clear hK K
      refine wpAny_ready (rs := [5]) (by kernel_rfl) (by simp) ?_
      refine AllReady.cons rfl (fun K hK => ?_) ?_
      · skip
        go_simp
        go_wp2_with fail
        refine (HMASK.out _ HBc.out).mono ?_
        rintro e wm ⟨rfl, bm⟩
        replace HX := Lib.hid ((bm.block _ (Array.getElem?_eq_some_iff.1 HX.out).1).trans HX.out)
        replace HBc := Lib.hid (below_to HBc.out bm HBc.out.size)
        clear bm
        go_wp2
        refine wpAny_ready (rs := [6]) (by kernel_rfl) (by simp) ?_
        refine AllReady.cons rfl (fun K hK => ?_) ?_
        · skip
          go_simp
          go_wp2_with fail
          refine (HWITH.out _).mono ?_
          rintro e wx ⟨rfl, bx⟩
          replace HX := Lib.hid ((bx.block _ (Array.getElem?_eq_some_iff.1 HX.out).1).trans HX.out)
          replace HBc := Lib.hid (below_to HBc.out bx HBc.out.size)
          clear bx
          go_wp2
          refine wpAny_ready (rs := [8]) (by kernel_rfl) (by simp) ?_
          refine AllReady.cons rfl (fun K hK => ?_) ?_
          · skip
            refine step_store_row rfl 93 (.tmp 10) (.tmp 45) rfl _ 93 _ HX.out (xorL k (maskL S)) (by simp [Act.eval, Act.put]) (by simp [Act.eval, Act.put]) HIX.out (by rw [HXL.out]; rfl) ?_
            intro w5 h5 g5 z5
            refine hK _ _ ?_
            clear hK K
            refine wpAny_done (by kernel_rfl) ?_ _
            have hb5 := HBc.out.grown g5.out HBc.out.size (fun k e => by injection e with e; have := HGE.out; omega)
            have hb5w := below_to HB4.out hb5 HB4.out.size
            have hrx := Rd.ofRow (cs := bvs (xorL k (maskL S))) h5.out (by rw [bvs_len, HXL.out])
            have HRX := Lib.hid hrx
            have HB5 := Lib.hid hb5w
            clear hb5 hrx h5 g5 hb5w HBc HX HMASK HWITH HRNG
            go_wp2_with fail
            refine (m_clone _ 16 16 _ w5 HXL.out (by decide) HRX.out).mono ?_
            rintro e w6 ⟨D6, d6, rfl, f6, b6⟩
            have hb6 := below_to HB5.out b6 HB5.out.size
            have hf6 := f6.mono (base' := w.heap.size) HB5.out.size
            go_wp2
            go_ret2
            exact ⟨_, _, rfl, by rw [hkk]; exact hf6, hb6⟩
          exact AllReady.nil
        exact AllReady.nil
      exact AllReady.nil
    refine AllReady.cons rfl (fun K hK => ?_) ?_
    · skip
      go_simp
      go_wp2_with fail
      refine (HMASK.out _ HBc.out).mono ?_
      rintro e wm ⟨rfl, bm⟩
      replace HX := Lib.hid ((bm.block _ (Array.getElem?_eq_some_iff.1 HX.out).1).trans HX.out)
      replace HBc := Lib.hid (below_to HBc.out bm HBc.out.size)
      clear bm
      go_wp2
      refine wpAny_ready (rs := [3]) (by kernel_rfl) (by simp) ?_
      refine AllReady.cons rfl (fun K hK => ?_) ?_
      · skip
        refine step_load_arr rfl 93 (.tmp 41) rfl g (o + 4) (by simp [Act.eval, Act.put]) (bvs k) _ (HRNG.out _ HBc.out) Try.underlying93 rfl HI.out ?_
        refine hK _ _ ?_
        clear hK K
        refine wpAny_ready (rs := [6]) (by kernel_rfl) (by simp) ?_
        refine AllReady.cons rfl (fun K hK => ?_) ?_
        · skip
          go_simp
          go_wp2_with fail
          refine (HWITH.out _).mono ?_
          rintro e wx ⟨rfl, bx⟩
          replace HX := Lib.hid ((bx.block _ (Array.getElem?_eq_some_iff.1 HX.out).1).trans HX.out)
          replace HBc := Lib.hid (below_to HBc.out bx HBc.out.size)
          clear bx
          go_wp2
          refine wpAny_ready (rs := [8]) (by kernel_rfl) (by simp) ?_
          refine AllReady.cons rfl (fun K hK => ?_) ?_
          · skip
            refine step_store_row rfl 93 (.tmp 10) (.tmp 45) rfl _ 93 _ HX.out (xorL k (maskL S)) (by simp [Act.eval, Act.put]) (by simp [Act.eval, Act.put]) HIX.out (by rw [HXL.out]; rfl) ?_
            intro w5 h5 g5 z5
            refine hK _ _ ?_
            clear hK K
            refine wpAny_done (by kernel_rfl) ?_ _
            have hb5 := HBc.out.grown g5.out HBc.out.size (fun k e => by injection e with e; have := HGE.out; omega)
            have hb5w := below_to HB4.out hb5 HB4.out.size
            have hrx := Rd.ofRow (cs := bvs (xorL k (maskL S))) h5.out (by rw [bvs_len, HXL.out])
            have HRX := Lib.hid hrx
            have HB5 := Lib.hid hb5w
            clear hb5 hrx h5 g5 hb5w HBc HX HMASK HWITH HRNG
            go_wp2_with fail
            refine (m_clone _ 16 16 _ w5 HXL.out (by decide) HRX.out).mono ?_
            rintro e w6 ⟨D6, d6, rfl, f6, b6⟩
            have hb6 := below_to HB5.out b6 HB5.out.size
            have hf6 := f6.mono (base' := w.heap.size) HB5.out.size
            go_wp2
            go_ret2
            exact ⟨_, _, rfl, by rw [hkk]; exact hf6, hb6⟩
          exact AllReady.nil
        exact AllReady.nil
      exact AllReady.nil
    exact AllReady.nil
  exact AllReady.nil
end Go.Proofs.Ytoggpnncmgcgoaa
