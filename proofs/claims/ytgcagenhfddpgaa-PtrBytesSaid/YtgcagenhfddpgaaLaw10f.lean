/-
  The walk of PtrBytes.
-/
import Derived.Test.YtgcagenhfddpgaaRef10f
import Derived.Test.YtgcagenhfddpgaaLaw10d
namespace Go.Proofs.Ytgcagenhfddpgaa
open Go.RowKit
set_option linter.unusedVariables false
set_option linter.unusedSimpArgs false
set_option maxRecDepth 100000
attribute [local go_sem] str_toList toList_mk

def IncRelP (base n c : Nat) (A : Option Addr) (w0 : World) (i : Value) (wr : World) : Prop :=
  ∃ (k : Nat) (l : List UInt8), k ≤ n ∧ i = .int .i64 (k : Int) ∧ l.length = n ∧ Fr wr base 5 1 A n c (bvs l) ∧ Below base w0 wr
theorem bvs_setP (l : List UInt8) (k : Nat) (x : UInt8) : (bvs l).set k (bv x) = bvs (l.set k x) := by simp [bvs, List.map_set]
theorem wrap8_oneP (x : UInt8) : IntKind.u8.wrap ((x.toNat : Int) + 1) = ((x + 1).toNat : Int) := by
  rw [IntKind.wrap_u8, UInt8.toNat_add]
  have : (1 : UInt8).toNat = 1 := rfl
  omega
set_option maxHeartbeats 16000000 in
theorem ptrBytes_walk (p : Pt) (hu : p.U) (A : Option Addr) (n c : Nat) (l : List Pt) (D : Option Addr) (m d : Nat) (b : List UInt8) (w : World) (hl : l.length = n) (hU : AllU l) (hr : Rd w w.heap.size 5 A n (pcs l)) (hb : b.length = m) (hd : m ≤ d) (hrb : Rd w w.heap.size 1 D m (bvs b)) :
    Calls Try.prog 13 #[.agg #[.int .i64 p.a, .int .u32 p.b, .int .u32 p.i, .int .u32 p.t, .int .u32 p.s], .slice A n c, .slice D m d] w fun e w' => e = .returned (.bool true) ∧ Below w.heap.size w w' := by
  by_cases hn : 1000 < (n : Int)
  · clear hr hrb
    have hB := below_new w (.cells #[.int .i64 p.a, .int .u32 p.b, .int .u32 p.i, .int .u32 p.t, .int .u32 p.s] 31)
    have HB := Lib.hid hB
    clear hB
    go_enter Try.func13, Try.ntmps13
    go_wp2
    go_ret
    exact ⟨rfl, HB.out⟩
  by_cases hm : 10000 < (m : Int)
  · clear hr hrb
    have hB := below_new w (.cells #[.int .i64 p.a, .int .u32 p.b, .int .u32 p.i, .int .u32 p.t, .int .u32 p.s] 31)
    have HB := Lib.hid hB
    clear hB
    go_enter Try.func13, Try.ntmps13
    go_wp2
    go_ret
    exact ⟨rfl, HB.out⟩
  obtain ⟨wl, hwl⟩ : ∃ x, x = wrP p := ⟨_, rfl⟩
  obtain ⟨wn, hwn⟩ : ∃ x, x = wl.length := ⟨_, rfl⟩
  obtain ⟨E1, hE1⟩ : ∃ x, x = p.chk := ⟨_, rfl⟩
  obtain ⟨q3, hq3⟩ : ∃ x, x = readP b := ⟨_, rfl⟩
  obtain ⟨E3, hE3⟩ : ∃ x, x = readE b := ⟨_, rfl⟩
  obtain ⟨xl, hxl⟩ : ∃ x, x = rowB l := ⟨_, rfl⟩
  obtain ⟨xn, hxn⟩ : ∃ x, x = xl.length := ⟨_, rfl⟩
  obtain ⟨E5, hE5⟩ : ∃ x, x = rowE l := ⟨_, rfl⟩
  obtain ⟨ml, hml⟩ : ∃ x, x = rowsP b := ⟨_, rfl⟩
  obtain ⟨mn, hmn⟩ : ∃ x, x = ml.length := ⟨_, rfl⟩
  obtain ⟨E7, hE7⟩ : ∃ x, x = rowsE b := ⟨_, rfl⟩
  have C1 : Hid (∀ V, Calls Try.prog 22 #[.agg #[.int .i64 p.a, .int .u32 p.b, .int .u32 p.i, .int .u32 p.t, .int .u32 p.s]] V fun e w' => ∃ A c, e = .returned (.tuple #[.slice A wn c, .int .i64 E1]) ∧ Fr w' V.heap.size 5 1 A wn c (bvs wl) ∧ Below V.heap.size V w') := Lib.hid fun V => by
    rw [hwn, hwl, hE1]
    exact ptr_write_any p.a p.b p.i p.t p.s V hu.2.1 hu.2.2.1 hu.2.2.2
  have C2 : Hid (∀ V, Calls Try.prog 32 #[.agg #[.int .i64 p.a, .int .u32 p.b, .int .u32 p.i, .int .u32 p.t, .int .u32 p.s]] V fun e w' => ∃ A c, e = .returned (.tuple #[.slice A wn c, .int .i64 E1]) ∧ Fr w' V.heap.size 5 1 A wn c (bvs wl) ∧ Below V.heap.size V w') := Lib.hid fun V => by
    rw [hwn, hwl, hE1]
    exact q_write p hu V
  have C3 : Hid (∀ V B k, m ≤ k → Rd V V.heap.size 1 B m (bvs b) → Calls Try.prog 27 #[.slice B m k] V fun e w' => e = .returned (.tuple #[.agg #[.int .i64 q3.a, .int .u32 q3.b, .int .u32 q3.i, .int .u32 q3.t, .int .u32 q3.s], .int .i64 E3]) ∧ Below V.heap.size V w') := Lib.hid fun V B k hk h => by
    rw [hq3, hE3]
    exact ptr_read B m k b V hb hk h
  have C4 : Hid (∀ V B k, m ≤ k → Rd V V.heap.size 1 B m (bvs b) → Calls Try.prog 33 #[.slice B m k] V fun e w' => e = .returned (.tuple #[.agg #[.int .i64 q3.a, .int .u32 q3.b, .int .u32 q3.i, .int .u32 q3.t, .int .u32 q3.s], .int .i64 E3]) ∧ Below V.heap.size V w') := Lib.hid fun V B k hk h => by
    rw [hq3, hE3]
    exact q_read B m k b V hb hk h
  have C5 : Hid (∀ V B k, Rd V V.heap.size 5 B n (pcs l) → Calls Try.prog 26 #[.slice B n k] V fun e w' => ∃ D d, e = .returned (.tuple #[.slice D xn d, .int .i64 E5]) ∧ Fr w' V.heap.size 5 1 D xn d (bvs xl) ∧ Below V.heap.size V w') := Lib.hid fun V B k h => by
    rw [hxn, hxl, hE5]
    exact ptr_row B n k l V hl hU h
  have C6 : Hid (∀ V B k, Rd V V.heap.size 5 B n (pcs l) → Calls Try.prog 34 #[.slice B n k] V fun e w' => ∃ D d, e = .returned (.tuple #[.slice D xn d, .int .i64 E5]) ∧ Fr w' V.heap.size 5 1 D xn d (bvs xl) ∧ Below V.heap.size V w') := Lib.hid fun V B k h => by
    rw [hxn, hxl, hE5]
    exact q_row B n k l V hl hU h
  have C7 : Hid (∀ V B k, m ≤ k → Rd V V.heap.size 1 B m (bvs b) → Calls Try.prog 31 #[.slice B m k] V fun e w' => ∃ D d, e = .returned (.tuple #[.slice D mn d, .int .i64 E7]) ∧ Fr w' V.heap.size 31 5 D mn d (pcs ml) ∧ Below V.heap.size V w') := Lib.hid fun V B k hk h => by
    rw [hmn, hml, hE7]
    exact ptr_rows B m k b V hb hk h
  have C8 : Hid (∀ V B k, m ≤ k → Rd V V.heap.size 1 B m (bvs b) → Calls Try.prog 35 #[.slice B m k] V fun e w' => ∃ D d, e = .returned (.tuple #[.slice D mn d, .int .i64 E7]) ∧ Fr w' V.heap.size 31 5 D mn d (pcs ml) ∧ Below V.heap.size V w') := Lib.hid fun V B k hk h => by
    rw [hmn, hml, hE7]
    exact q_rows B m k b V hb hk h
  have hm16 : mn ≤ 16 := by
    rw [hmn, hml]
    unfold rowsP
    split
    · rw [rowsL_len]; exact Nat.le_refl _
    · exact Nat.zero_le _
  have hx256 : xn ≤ 256 := by
    by_cases he : rowE l = 0
    · rw [hxn, hxl, (rowE_ok he).2.2.2]; exact Nat.le_refl _
    · rw [hxn, hxl, rowB_err he]; exact Nat.zero_le _
  have HM16 := Lib.hid hm16
  have HX256 := Lib.hid hx256
  have HMN := Lib.hid hmn
  have HXN := Lib.hid hxn
  have HCP := Lib.hid (fun V => ptr_checkX p E1 hE1.symm V)
  have HCQ : Hid (∀ V, Calls Try.prog 37 #[.agg #[.int .i64 p.a, .int .u32 p.b, .int .u32 p.i, .int .u32 p.t, .int .u32 p.s]] V fun e w' => e = .returned (.int .i64 E1) ∧ Below V.heap.size V w') := Lib.hid fun V => by rw [hE1]; exact q_pcheck p V
  have HL := Lib.hid hl
  have HBL := Lib.hid hb
  have HD := Lib.hid hd
  have hb1 := below_new w (.cells #[.int .i64 p.a, .int .u32 p.b, .int .u32 p.i, .int .u32 p.t, .int .u32 p.s] 31)
  have hx1 := PtBox.new w p
  have HR1 := Lib.hid (hr.below hb1)
  have HRB1 := Lib.hid (hrb.below hb1)
  have HB1 := Lib.hid hb1
  have HX1 := Lib.hid hx1
  clear hwl hwn hE1 hq3 hE3 hxl hxn hE5 hml hmn hE7 hm16 hx256 hl hU hr hb hd hrb hu hb1 hx1
  have dn : decide (1000 < (n : Int)) = false := decide_eq_false hn
  have dm : decide (10000 < (m : Int)) = false := decide_eq_false hm
  have hn1 : (n : Int) ≤ 1000 := by omega
  have hm1 : (m : Int) ≤ 10000 := by omega
  have HN1 := Lib.hid hn1
  have HM1 := Lib.hid hm1
  clear hn1 hm1
  go_enter Try.func13, Try.ntmps13
  generalize hW1 : w.alloc (.cells #[.int .i64 p.a, .int .u32 p.b, .int .u32 p.i, .int .u32 p.t, .int .u32 p.s] 31) = W1 at HR1 HRB1 HB1 HX1
  have HW1 := Lib.hid hW1
  clear hW1
  go_wp2_with (first
    | (rw [HW1.out]; at_builtin; go_loud (refine wpList_append_to rfl (.const (.slice none 0 0)) (.tmp 34) rfl okP rfl (Fr.none_ (base := W1.heap.size)) rfl HR1.out (pcs_oneCell _) n (Nat.zero_add n) (pcs l) (List.nil_append _) (by have := HN1.out; unfold maxLen; omega) (by have := HN1.out; omega) (Nat.le_refl _) ?_); intro OA oc wo fo g1 _)
    | (at_builtin; go_loud (refine wpList_append_to rfl (.const (.slice none 0 0)) (.tmp 36) rfl okB rfl (Fr.none_ (base := W1.heap.size)) rfl (HRB1.out.below (grownBy_below g1 HB1.out.size (by simp [rowOf_zero]))) (bvs_one _) m (Nat.zero_add m) (bvs b) (List.nil_append _) (by have := HM1.out; unfold maxLen; omega) (by have := HM1.out; omega) g1.size ?_); intro MA mc w3 fm g2 _; have b1 : Below W1.heap.size W1 wo := grownBy_below g1 (Nat.le_refl _) (by simp [rowOf_zero]); have b2 : Below wo.heap.size wo w3 := grownBy_below g2 (Nat.le_refl _) (by simp [rowOf_zero]); have b3 := below_to b1 b2 b1.size; have fo2 := fo.below b2 (Nat.le_refl _); have hx3 := HX1.out.below b3 HX1.out.lt; obtain ⟨x0, x1, x2, x3, x4⟩ := hx3.cells))

  have HX3 := Lib.hid hx3
  have HO3 := Lib.hid fo2
  have HM3 := Lib.hid fm
  have HB3 := Lib.hid (below_to HB1.out b3 HB1.out.size)
  have HR3 := Lib.hid ((HR1.out.below (b3.mono HB1.out.size)).more HB3.out.size)
  have HRB3 := Lib.hid ((HRB1.out.below (b3.mono HB1.out.size)).more HB3.out.size)
  have HBV := Lib.hid (Below.refl w3.heap.size w3)
  clear fo2 fm fo g1 g2 b1 b2 b3 hx3 dn dm HW1 HR1 HRB1 HB1 HX1
  refine (C1.out _).mono ?_
  clear C1
  clear x0 x1 x2 x3 x4
  rintro e v1 ⟨A1, c1, rfl, hf, hbx⟩
  have HF1 := Lib.hid (hf.mono HBV.out.size)
  replace HBV := Lib.hid (below_to HBV.out hbx HBV.out.size)
  clear hf hbx
  have hxn := HX3.out.below HBV.out HX3.out.lt
  obtain ⟨x0, x1, x2, x3, x4⟩ := hxn.cells
  clear hxn
  go_wp2_with fail
  refine (C2.out _).mono ?_
  clear C2
  clear x0 x1 x2 x3 x4
  rintro e v2 ⟨A2, c2, rfl, hf, hbx⟩
  have HF2 := Lib.hid (hf.mono HBV.out.size)
  replace HF1 := Lib.hid (HF1.out.below hbx (Nat.le_refl _))
  replace HBV := Lib.hid (below_to HBV.out hbx HBV.out.size)
  clear hf hbx
  go_wp2_with fail
  refine (C3.out _ MA mc HM3.out.nc (HM3.out.below HBV.out (Nat.le_refl _)).rd).mono ?_
  clear C3
  rintro e v3 ⟨rfl, hb0⟩
  obtain ⟨u3, hu3⟩ : ∃ V, V = v3.alloc (.cells #[.int .i64 q3.a, .int .u32 q3.b, .int .u32 q3.i, .int .u32 q3.t, .int .u32 q3.s] 31) := ⟨_, rfl⟩
  have hb2 : Below v3.heap.size v3 u3 := by rw [hu3]; exact below_new _ _
  have hbx := below_to hb0 hb2 hb0.size
  have HP3 := Lib.hid (show PtBox u3 v3.heap.size q3 from by rw [hu3]; exact PtBox.new _ _)
  replace HF1 := Lib.hid (HF1.out.below hbx (Nat.le_refl _))
  replace HF2 := Lib.hid (HF2.out.below hbx (Nat.le_refl _))
  replace HBV := Lib.hid (below_to HBV.out hbx HBV.out.size)
  have HU3 := Lib.hid hu3.symm
  clear hb0 hb2 hbx hu3
  go_wp2_with fail
  rw [HU3.out]
  clear HU3
  refine (C4.out _ D d HD.out ((HRB3.out.below HBV.out).more HBV.out.size)).mono ?_
  clear C4
  rintro e v4 ⟨rfl, hb0⟩
  obtain ⟨u4, hu4⟩ : ∃ V, V = v4.alloc (.cells #[.int .i64 q3.a, .int .u32 q3.b, .int .u32 q3.i, .int .u32 q3.t, .int .u32 q3.s] 31) := ⟨_, rfl⟩
  have hb2 : Below v4.heap.size v4 u4 := by rw [hu4]; exact below_new _ _
  have hbx := below_to hb0 hb2 hb0.size
  have HP4 := Lib.hid (show PtBox u4 v4.heap.size q3 from by rw [hu4]; exact PtBox.new _ _)
  replace HF1 := Lib.hid (HF1.out.below hbx (Nat.le_refl _))
  replace HF2 := Lib.hid (HF2.out.below hbx (Nat.le_refl _))
  replace HP3 := Lib.hid (HP3.out.below hbx HP3.out.lt)
  replace HBV := Lib.hid (below_to HBV.out hbx HBV.out.size)
  have HU4 := Lib.hid hu4.symm
  clear hb0 hb2 hbx hu4
  go_wp2_with fail
  rw [HU4.out]
  clear HU4
  refine (C5.out _ OA oc (HO3.out.below HBV.out (Nat.le_refl _)).rd).mono ?_
  clear C5
  rintro e v5 ⟨A5, c5, rfl, hf, hbx⟩
  have HF5 := Lib.hid (hf.mono HBV.out.size)
  replace HF1 := Lib.hid (HF1.out.below hbx (Nat.le_refl _))
  replace HF2 := Lib.hid (HF2.out.below hbx (Nat.le_refl _))
  replace HP3 := Lib.hid (HP3.out.below hbx HP3.out.lt)
  replace HP4 := Lib.hid (HP4.out.below hbx HP4.out.lt)
  replace HBV := Lib.hid (below_to HBV.out hbx HBV.out.size)
  clear hf hbx
  go_wp2_with fail
  refine (C6.out _ A c ((HR3.out.below HBV.out).more HBV.out.size)).mono ?_
  clear C6
  rintro e v6 ⟨A6, c6, rfl, hf, hbx⟩
  have HF6 := Lib.hid (hf.mono HBV.out.size)
  replace HF1 := Lib.hid (HF1.out.below hbx (Nat.le_refl _))
  replace HF2 := Lib.hid (HF2.out.below hbx (Nat.le_refl _))
  replace HP3 := Lib.hid (HP3.out.below hbx HP3.out.lt)
  replace HP4 := Lib.hid (HP4.out.below hbx HP4.out.lt)
  replace HF5 := Lib.hid (HF5.out.below hbx (Nat.le_refl _))
  replace HBV := Lib.hid (below_to HBV.out hbx HBV.out.size)
  clear hf hbx
  go_wp2_with fail
  refine (C7.out _ MA mc HM3.out.nc (HM3.out.below HBV.out (Nat.le_refl _)).rd).mono ?_
  clear C7
  rintro e v7 ⟨A7, c7, rfl, hf, hbx⟩
  have HF7 := Lib.hid (hf.mono HBV.out.size)
  replace HF1 := Lib.hid (HF1.out.below hbx (Nat.le_refl _))
  replace HF2 := Lib.hid (HF2.out.below hbx (Nat.le_refl _))
  replace HP3 := Lib.hid (HP3.out.below hbx HP3.out.lt)
  replace HP4 := Lib.hid (HP4.out.below hbx HP4.out.lt)
  replace HF5 := Lib.hid (HF5.out.below hbx (Nat.le_refl _))
  replace HF6 := Lib.hid (HF6.out.below hbx (Nat.le_refl _))
  replace HBV := Lib.hid (below_to HBV.out hbx HBV.out.size)
  clear hf hbx
  go_wp2_with fail
  refine (C8.out _ D d HD.out ((HRB3.out.below HBV.out).more HBV.out.size)).mono ?_
  clear C8
  rintro e v8 ⟨A8, c8, rfl, hf, hbx⟩
  have HF8 := Lib.hid (hf.mono HBV.out.size)
  replace HF1 := Lib.hid (HF1.out.below hbx (Nat.le_refl _))
  replace HF2 := Lib.hid (HF2.out.below hbx (Nat.le_refl _))
  replace HP3 := Lib.hid (HP3.out.below hbx HP3.out.lt)
  replace HP4 := Lib.hid (HP4.out.below hbx HP4.out.lt)
  replace HF5 := Lib.hid (HF5.out.below hbx (Nat.le_refl _))
  replace HF6 := Lib.hid (HF6.out.below hbx (Nat.le_refl _))
  replace HF7 := Lib.hid (HF7.out.below hbx (Nat.le_refl _))
  replace HBV := Lib.hid (below_to HBV.out hbx HBV.out.size)
  clear hf hbx
  go_wp2
  have hpq := run_pt_neq q3 q3
  rw [decide_eq_true rfl] at hpq
  have HXV := Lib.hid (HX3.out.below HBV.out HX3.out.lt)
  refine wp_region_held_drew (S := fun V => Below v8.heap.size v8 V) (by kernel_rfl) (show Below v8.heap.size v8 v8.drew from (Below.refl _ _).drew) (fun hS => ?_)
  refine wpAnyH_take (i := 0) (v := ?_) rfl (by kernel_rfl) (by kernel_rfl) (by kernel_rfl) (fun _ _ _ h => h) (Or.inl ⟨by rfl, ?hyq⟩) hS ?_
  case hyq =>
    intro w hw
    go_simp
    try (with_reducible rfl)
  try go_simp
  refine wpAnyH_take (i := 1) (v := ?_) rfl (by kernel_rfl) (by kernel_rfl) (by kernel_rfl) (fun _ _ _ h => h) (Or.inl ⟨by rfl, ?hyq⟩) hS ?_
  case hyq =>
    intro w hw
    have hcv := conv (HF1.out.rd.below hw) c1
    go_simp
    try (with_reducible rfl)
  try go_simp
  refine wpAnyH_take (i := 2) (v := ?_) rfl (by kernel_rfl) (by kernel_rfl) (by kernel_rfl) (fun _ _ _ h => h) (Or.inl ⟨by rfl, ?hyq⟩) hS ?_
  case hyq =>
    intro w hw
    go_simp
    try (with_reducible rfl)
  try go_simp
  refine wpAnyH_take (i := 3) (v := ?_) rfl (by kernel_rfl) (by kernel_rfl) (by kernel_rfl) (fun _ _ _ h => h) (Or.inl ⟨by rfl, ?hyq⟩) hS ?_
  case hyq =>
    intro w hw
    have hcv := conv (HF2.out.rd.below hw) c2
    go_simp
    try (with_reducible rfl)
  try go_simp
  refine wpAnyH_take (i := 4) (v := ?_) rfl (by kernel_rfl) (by kernel_rfl) (by kernel_rfl) (fun _ _ _ h => h) (Or.inl ⟨by rfl, ?hyq⟩) hS ?_
  case hyq =>
    intro w hw
    go_simp
    try (with_reducible rfl)
  try go_simp
  refine wpAnyH_take (i := 5) (v := ?_) rfl (by kernel_rfl) (by kernel_rfl) (by kernel_rfl) (fun _ _ _ h => h) (Or.inl ⟨by rfl, ?hyq⟩) hS ?_
  case hyq =>
    intro w hw
    go_simp
    try (with_reducible rfl)
  try go_simp
  refine wpAnyH_take (i := 6) (v := ?_) rfl (by kernel_rfl) (by kernel_rfl) (by kernel_rfl) (fun _ _ _ h => h) (Or.inl ⟨by rfl, ?hyq⟩) hS ?_
  case hyq =>
    intro w hw
    go_simp
    try (with_reducible rfl)
  try go_simp
  refine wpAnyH_take (i := 7) (v := ?_) rfl (by kernel_rfl) (by kernel_rfl) (by kernel_rfl) (fun _ _ _ h => h) (Or.inl ⟨by rfl, ?hyq⟩) hS ?_
  case hyq =>
    intro w hw
    go_simp
    try (with_reducible rfl)
  try go_simp
  refine wpAnyH_take (i := 8) (v := ?_) rfl (by kernel_rfl) (by kernel_rfl) (by kernel_rfl) (fun _ _ _ h => h) (Or.inl ⟨by rfl, ?hyq⟩) hS ?_
  case hyq =>
    intro w hw
    go_simp
    try (with_reducible rfl)
  try go_simp
  refine wpAnyH_take (i := 9) (v := ?_) rfl (by kernel_rfl) (by kernel_rfl) (by kernel_rfl) (fun _ _ _ h => h) (Or.inl ⟨by rfl, ?hyq⟩) hS ?_
  case hyq =>
    intro w hw
    go_simp
    try (with_reducible rfl)
  try go_simp
  refine wpAnyH_take (i := 10) (v := ?_) rfl (by kernel_rfl) (by kernel_rfl) (by kernel_rfl) (fun _ _ _ h => h) (Or.inl ⟨by rfl, ?hyq⟩) hS ?_
  case hyq =>
    intro w hw
    go_simp
    try (with_reducible rfl)
  try go_simp
  refine wpAnyH_take (i := 11) (v := ?_) rfl (by kernel_rfl) (by kernel_rfl) (by kernel_rfl) (fun _ _ _ h => h) (Or.inl ⟨by rfl, ?hyq⟩) hS ?_
  case hyq =>
    intro w hw
    obtain ⟨k0, k1, k2, k3, k4⟩ := (HP3.out.below hw HP3.out.lt).cells
    go_simp
    try (with_reducible rfl)
  try go_simp
  refine wpAnyH_take (i := 12) (v := ?_) rfl (by kernel_rfl) (by kernel_rfl) (by kernel_rfl) (fun _ _ _ h => h) (Or.inl ⟨by rfl, ?hyq⟩) hS ?_
  case hyq =>
    intro w hw
    obtain ⟨k0, k1, k2, k3, k4⟩ := (HP4.out.below hw HP4.out.lt).cells
    go_simp
    try (with_reducible rfl)
  try go_simp
  refine wpAnyH_take (i := 13) (v := ?_) rfl (by kernel_rfl) (by kernel_rfl) (by kernel_rfl) (fun _ _ _ h => h) (Or.inl ⟨by rfl, ?hyq⟩) hS ?_
  case hyq =>
    intro w hw
    go_simp
    try (with_reducible rfl)
  try go_simp
  refine wpAnyH_take (i := 14) (v := ?_) rfl (by kernel_rfl) (by kernel_rfl) (by kernel_rfl) (fun _ _ _ h => h) (Or.inl ⟨by rfl, ?hyq⟩) hS ?_
  case hyq =>
    intro w hw
    go_simp
    try (with_reducible rfl)
  try go_simp
  refine wpAnyH_take (i := 15) (v := ?_) rfl (by kernel_rfl) (by kernel_rfl) (by kernel_rfl) (fun _ _ _ h => h) (Or.inl ⟨by rfl, ?hyq⟩) hS ?_
  case hyq =>
    intro w hw
    go_simp
    try (with_reducible rfl)
  try go_simp
  refine wpAnyH_take (i := 16) (v := ?_) rfl (by kernel_rfl) (by kernel_rfl) (by kernel_rfl) (fun _ _ _ h => h) (Or.inl ⟨by rfl, ?hyq⟩) hS ?_
  case hyq =>
    intro w hw
    go_simp
    try (with_reducible rfl)
  try go_simp
  refine wpAnyH_take (i := 17) (v := ?_) rfl (by kernel_rfl) (by kernel_rfl) (by kernel_rfl) (fun _ _ _ h => h) (Or.inl ⟨by rfl, ?hyq⟩) hS ?_
  case hyq =>
    intro w hw
    go_simp
    try (with_reducible rfl)
  try go_simp
  refine wpAnyH_take (i := 18) (v := ?_) rfl (by kernel_rfl) (by kernel_rfl) (by kernel_rfl) (fun _ _ _ h => h) (Or.inl ⟨by rfl, ?hyq⟩) hS ?_
  case hyq =>
    intro w hw
    go_simp
    try (with_reducible rfl)
  try go_simp
  refine wpAnyH_take (i := 19) (v := ?_) rfl (by kernel_rfl) (by kernel_rfl) (by kernel_rfl) (fun _ _ _ h => h) (Or.inl ⟨by rfl, ?hyq⟩) hS ?_
  case hyq =>
    intro w hw
    go_simp
    try (with_reducible rfl)
  try go_simp
  refine wpAnyH_take (i := 20) (v := ?_) rfl (by kernel_rfl) (by kernel_rfl) (by kernel_rfl) (fun _ _ _ h => h) (Or.inl ⟨by rfl, ?hyq⟩) hS ?_
  case hyq =>
    intro w hw
    go_simp
    try (with_reducible rfl)
  try go_simp
  refine wpAnyH_take (i := 21) (v := ?_) rfl (by kernel_rfl) (by kernel_rfl) (by kernel_rfl) (fun _ _ _ h => h) (Or.inl ⟨by rfl, ?hyq⟩) hS ?_
  case hyq =>
    intro w hw
    go_simp
    try (with_reducible rfl)
  try go_simp
  refine wpAnyH_take (i := 22) (v := ?_) rfl (by kernel_rfl) (by kernel_rfl) (by kernel_rfl) (fun _ _ _ h => h) (Or.inl ⟨by rfl, ?hyq⟩) hS ?_
  case hyq =>
    intro w hw
    have hcv := conv (HF5.out.rd.below hw) c5
    go_simp
    try (with_reducible rfl)
  try go_simp
  refine wpAnyH_take (i := 23) (v := ?_) rfl (by kernel_rfl) (by kernel_rfl) (by kernel_rfl) (fun _ _ _ h => h) (Or.inl ⟨by rfl, ?hyq⟩) hS ?_
  case hyq =>
    intro w hw
    go_simp
    try (with_reducible rfl)
  try go_simp
  refine wpAnyH_take (i := 24) (v := ?_) rfl (by kernel_rfl) (by kernel_rfl) (by kernel_rfl) (fun _ _ _ h => h) (Or.inl ⟨by rfl, ?hyq⟩) hS ?_
  case hyq =>
    intro w hw
    have hcv := conv (HF6.out.rd.below hw) c6
    go_simp
    try (with_reducible rfl)
  try go_simp
  refine wpAnyH_take (i := 25) (v := ?_) rfl (by kernel_rfl) (by kernel_rfl) (by kernel_rfl) (fun _ _ _ h => h) (Or.inl ⟨by rfl, ?hyq⟩) hS ?_
  case hyq =>
    intro w hw
    go_simp
    try (with_reducible rfl)
  try go_simp
  refine wpAnyH_take (i := 26) (v := ?_) rfl (by kernel_rfl) (by kernel_rfl) (by kernel_rfl) (fun _ _ _ h => h) (Or.inl ⟨by rfl, ?hyq⟩) hS ?_
  case hyq =>
    intro w hw
    go_simp
    try (with_reducible rfl)
  try go_simp
  refine wpAnyH_take (i := 27) (v := ?_) rfl (by kernel_rfl) (by kernel_rfl) (by kernel_rfl) (fun _ _ _ h => h) (Or.inl ⟨by rfl, ?hyq⟩) hS ?_
  case hyq =>
    intro w hw
    go_simp
    try (with_reducible rfl)
  try go_simp
  refine wpAnyH_take (i := 28) (v := ?_) rfl (by kernel_rfl) (by kernel_rfl) (by kernel_rfl) (fun _ _ _ h => h) (Or.inl ⟨by rfl, ?hyq⟩) hS ?_
  case hyq =>
    intro w hw
    go_simp
    try (with_reducible rfl)
  try go_simp
  refine wpAnyH_take (i := 29) (v := ?_) rfl (by kernel_rfl) (by kernel_rfl) (by kernel_rfl) (fun _ _ _ h => h) (Or.inl ⟨by rfl, ?hyq⟩) hS ?_
  case hyq =>
    intro w hw
    go_simp
    try (with_reducible rfl)
  try go_simp
  refine wpAnyH_take (i := 30) (v := ?_) rfl (by kernel_rfl) (by kernel_rfl) (by kernel_rfl) (fun _ _ _ h => h) (Or.inl ⟨by rfl, ?hyq⟩) hS ?_
  case hyq =>
    intro w hw
    go_simp
    try (with_reducible rfl)
  try go_simp
  refine wpAnyH_take (i := 31) (v := ?_) rfl (by kernel_rfl) (by kernel_rfl) (by kernel_rfl) (fun _ _ _ h => h) (Or.inl ⟨by rfl, ?hyq⟩) hS ?_
  case hyq =>
    intro w hw
    go_simp
    try (with_reducible rfl)
  try go_simp
  refine wpAnyH_take (i := 32) (v := ?_) rfl (by kernel_rfl) (by kernel_rfl) (by kernel_rfl) (fun _ _ _ h => h) (Or.inl ⟨by rfl, ?hyq⟩) hS ?_
  case hyq =>
    intro w hw
    go_simp
    try (with_reducible rfl)
  try go_simp
  refine wpAnyH_take (i := 33) (v := ?_) rfl (by kernel_rfl) (by kernel_rfl) (by kernel_rfl) (fun _ _ _ h => h) (Or.inl ⟨by rfl, ?hyq⟩) hS ?_
  case hyq =>
    intro w hw
    go_simp
    try (with_reducible rfl)
  try go_simp
  refine wpAnyH_take (i := 34) (v := ?_) rfl (by kernel_rfl) (by kernel_rfl) (by kernel_rfl) (fun _ _ _ h => h) (Or.inl ⟨by rfl, ?hyq⟩) hS ?_
  case hyq =>
    intro w hw
    go_simp
    try (with_reducible rfl)
  try go_simp
  try go_simp
  refine wpAnyH_ready (rs := [35]) (by kernel_rfl) (by simp) ?_
  refine all_consH rfl (fun K hK => ?_) ?_
  · skip
    refine Stp.mk ?_
    go_simp
    go_wp2_with fail
    refine (q_same A7 mn c7 ml A8 mn c8 ml _ HMN.out.symm (by have := HM16.out; omega) ((HF7.out.below hS (Nat.le_refl _)).rd) HMN.out.symm ((HF8.out.below hS (Nat.le_refl _)).rd) true (by simp)).mono ?_
    rintro e w10 ⟨rfl, b10⟩
    have hSn := below_to hS b10 hS.size
    clear b10
    go_wp2
    refine hK.out _ _ hSn (fun hS => ?_)
    clear hK K hSn
    refine wpAnyH_take (i := 36) (v := ?_) rfl (by kernel_rfl) (by kernel_rfl) (by kernel_rfl) (fun _ _ _ h => h) (Or.inl ⟨by rfl, ?hyq⟩) hS ?_
    case hyq =>
      intro w hw
      go_simp
      try (with_reducible rfl)
    try go_simp
    refine wpAnyH_take (i := 37) (v := ?_) rfl (by kernel_rfl) (by kernel_rfl) (by kernel_rfl) (fun _ _ _ h => h) (Or.inl ⟨by rfl, ?hyq⟩) hS ?_
    case hyq =>
      intro w hw
      go_simp
      try (with_reducible rfl)
    try go_simp
    refine wpAnyH_take (i := 38) (v := ?_) rfl (by kernel_rfl) (by kernel_rfl) (by kernel_rfl) (fun _ _ _ h => h) (Or.inl ⟨by rfl, ?hyq⟩) hS ?_
    case hyq =>
      intro w hw
      go_simp
      try (with_reducible rfl)
    try go_simp
    refine wpAnyH_take (i := 39) (v := ?_) rfl (by kernel_rfl) (by kernel_rfl) (by kernel_rfl) (fun _ _ _ h => h) (Or.inl ⟨by rfl, ?hyq⟩) hS ?_
    case hyq =>
      intro w hw
      go_simp
      try (with_reducible rfl)
    try go_simp
    refine wpAnyH_take (i := 40) (v := ?_) rfl (by kernel_rfl) (by kernel_rfl) (by kernel_rfl) (fun _ _ _ h => h) (Or.inl ⟨by rfl, ?hyq⟩) hS ?_
    case hyq =>
      intro w hw
      go_simp
      try (with_reducible rfl)
    try go_simp
    refine wpAnyH_take (i := 41) (v := ?_) rfl (by kernel_rfl) (by kernel_rfl) (by kernel_rfl) (fun _ _ _ h => h) (Or.inl ⟨by rfl, ?hyq⟩) hS ?_
    case hyq =>
      intro w hw
      go_simp
      try (with_reducible rfl)
    try go_simp
    refine wpAnyH_take (i := 42) (v := ?_) rfl (by kernel_rfl) (by kernel_rfl) (by kernel_rfl) (fun _ _ _ h => h) (Or.inl ⟨by rfl, ?hyq⟩) hS ?_
    case hyq =>
      intro w hw
      go_simp
      try (with_reducible rfl)
    try go_simp
    refine wpAnyH_take (i := 43) (v := ?_) rfl (by kernel_rfl) (by kernel_rfl) (by kernel_rfl) (fun _ _ _ h => h) (Or.inl ⟨by rfl, ?hyq⟩) hS ?_
    case hyq =>
      intro w hw
      go_simp
      try (with_reducible rfl)
    try go_simp
    refine wpAnyH_take (i := 44) (v := ?_) rfl (by kernel_rfl) (by kernel_rfl) (by kernel_rfl) (fun _ _ _ h => h) (Or.inl ⟨by rfl, ?hyq⟩) hS ?_
    case hyq =>
      intro w hw
      obtain ⟨k0, k1, k2, k3, k4⟩ := (HXV.out.below hw HXV.out.lt).cells
      go_simp
      try (with_reducible rfl)
    try go_simp
    refine wpAnyH_take (i := 46) (v := ?_) rfl (by kernel_rfl) (by kernel_rfl) (by kernel_rfl) (fun _ _ _ h => h) (Or.inl ⟨by rfl, ?hyq⟩) hS ?_
    case hyq =>
      intro w hw
      obtain ⟨k0, k1, k2, k3, k4⟩ := (HXV.out.below hw HXV.out.lt).cells
      go_simp
      try (with_reducible rfl)
    try go_simp
    try go_simp
    refine wpAnyH_ready (rs := [45]) (by kernel_rfl) (by simp) ?_
    refine all_consH rfl (fun K hK => ?_) ?_
    · skip
      refine Stp.mk ?_
      go_simp
      go_wp2_with fail
      refine (HCP.out _).mono ?_
      rintro e w11 ⟨rfl, b11⟩
      have hSn := below_to hS b11 hS.size
      clear b11
      go_wp2
      refine hK.out _ _ hSn (fun hS => ?_)
      clear hK K hSn
      try go_simp
      refine wpAnyH_ready (rs := [47]) (by kernel_rfl) (by simp) ?_
      refine all_consH rfl (fun K hK => ?_) ?_
      · skip
        refine Stp.mk ?_
        go_simp
        go_wp2_with fail
        refine (HCQ.out _).mono ?_
        rintro e w12 ⟨rfl, b12⟩
        have hSn := below_to hS b12 hS.size
        clear b12
        go_wp2
        refine hK.out _ _ hSn (fun hS => ?_)
        clear hK K hSn
        refine wpAnyH_take (i := 48) (v := ?_) rfl (by kernel_rfl) (by kernel_rfl) (by kernel_rfl) (fun _ _ _ h => h) (Or.inl ⟨by rfl, ?hyq⟩) hS ?_
        case hyq =>
          intro w hw
          go_simp
          try (with_reducible rfl)
        try go_simp
        try go_simp
        refine wpAnyH_ready (rs := [49]) (by kernel_rfl) (by simp) ?_
        refine all_consH rfl (fun K hK => ?_) ?_
        · skip
          refine Stp.mk ?_
          go_simp
          have hSn := hS
          refine hK.out _ _ hSn (fun hS => ?_)
          clear hK K hSn
          refine wpAnyH_done (by kernel_rfl) ?_ _
          have HF9 := Lib.hid (HF5.out.below hS (Nat.le_refl _))
          replace HBV := Lib.hid (below_to HBV.out hS HBV.out.size)
          clear HF1 HF2 HF5 HF6 HF7 HF8 HP3 HP4 hpq HCP HCQ HMN HM16 hS HXV
          have hx2 : (xn : Int) ≤ 256 := by have := HX256.out; omega
          have HBVs := Lib.hid HBV.out.size
          go_wp2
          go_loopw [25] (fun i wr => IncRelP w3.heap.size xn c5 A5 w12 i wr) (fun i _ => xn - (intOf i).toNat)
          case atStart => exact ⟨0, _, by omega, rfl, HXN.out.symm, HF9.out, Below.refl _ _⟩
          case round =>
            obtain ⟨k, l9, hk, rfl, hll, hf, hbr⟩ := hrel
            by_cases hlt : k < xn
            · obtain ⟨g, rfl, hg1, hg2⟩ := hf.form (by have := hf.nc; omega)
              obtain ⟨u, hu, hcell⟩ := hf.cell hlt
              have hfz := hf.frozen hlt
              obtain ⟨x, hu2⟩ : ∃ x, u = bv x := by
                rw [bvs_get, List.getElem?_eq_getElem (by omega)] at hu
                exact ⟨l9[k], by simpa using hu.symm⟩
              subst hu2
              have hF := hf.set (by have := hf.nc; omega) k (bv (x + 1))
              rw [bvs_setP] at hF
              have hB := hbr.setCell (p := ⟨g, k, none⟩) hg1 (bv (x + 1))
              have hw1 := wrap8_oneP x
              have HF := Lib.hid hF
              have HB := Lib.hid hB
              have HLL := Lib.hid hll
              unfold bv at hcell
              clear hu hf hbr hF hB hll
              go_wp2
              go_roundw
              case rel => exact ⟨k + 1, l9.set k (x + 1), by omega, by simp, by rw [List.length_set]; exact HLL.out, HF.out, HB.out⟩
              case measure => simp [intOf]; omega
            · obtain rfl : k = xn := by omega
              have hbz := HBV.out.trans hbr
              have HOZ := Lib.hid (HO3.out.below hbz (Nat.le_refl _))
              have HMZ := Lib.hid (HM3.out.below hbz (Nat.le_refl _))
              have HRZ := Lib.hid ((HR3.out.below hbz).more hbz.size)
              have HRBZ := Lib.hid ((HRB3.out.below hbz).more hbz.size)
              have HBZ := Lib.hid (below_to HB3.out hbz HB3.out.size)
              clear hf hbr hbz HF9
              go_wp2_with fail
              refine (q_same OA n oc l A n c l _ HL.out (by have := HN1.out; omega) HOZ.out.rd HL.out HRZ.out true (by simp)).mono ?_
              rintro e wz ⟨rfl, b9⟩
              have k1 := conv (HMZ.out.below b9 (Nat.le_refl _)).rd mc
              have k2 := conv (HRBZ.out.below b9) d
              have HBE := Lib.hid (below_to HBZ.out b9 HBZ.out.size)
              clear b9 HOZ HMZ HRZ HRBZ HBZ
              go_wp2
              go_ret
              exact ⟨rfl, HBE.out⟩
        exact AllReadyH.nil
      exact AllReadyH.nil
    exact AllReadyH.nil
  exact AllReadyH.nil
end Go.Proofs.Ytgcagenhfddpgaa
