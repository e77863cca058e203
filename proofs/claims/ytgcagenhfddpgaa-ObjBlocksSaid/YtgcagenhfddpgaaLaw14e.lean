/-
  The walk of ObjBlocks.
-/
import Derived.Test.YtgcagenhfddpgaaRef14c
import Derived.Test.YtgcagenhfddpgaaObjB
namespace Go.Proofs.Ytgcagenhfddpgaa
open Go.RowKit
set_option linter.unusedVariables false
set_option linter.unusedSimpArgs false
set_option maxRecDepth 100000
attribute [local go_sem] str_toList toList_mk

theorem Fr.setP {w : World} {base sz n c : Nat} {e : TypeId} {g : Nat} {xs : List Value} (h : Fr w base e sz (some ⟨g, 0, none⟩) n c xs) (hc : 0 < c) (i : Nat) (u : Value) : Fr (w.setCell ⟨g, i, none⟩ u) base e sz (some ⟨g, 0, none⟩) n c (xs.set i u) := by
  obtain ⟨h1, h2, h3, h4⟩ := h
  obtain ⟨g', cur, fz, hg', hb, hh, hf, hs, ht⟩ := h4.resolve_left (by omega)
  obtain rfl : g = g' := by injection hg' with h; injection h
  refine ⟨by simpa using h1, h2, h3, .inr ⟨g, cur.setIfInBounds i u, fz, rfl, hb, ?_, by simpa using hf, by simpa using hs, ?_⟩⟩
  · rw [setCell_eq_setRow w g i cur e fz u hh, setRow_heap w g cur _ e _ hh]
  · rw [Array.toList_setIfInBounds, List.take_set, ht]
theorem Fr.cellP {w : World} {base sz n c : Nat} {e : TypeId} {g : Nat} {xs : List Value} (h : Fr w base e sz (some ⟨g, 0, none⟩) n c xs) {i : Nat} {u : Value} (hu : xs[i]? = some u) : w.cell? ⟨g, i, none⟩ = some u ∧ w.frozen? ⟨g, i, none⟩ = false := by
  obtain ⟨h1, h2, h3, h4⟩ := h
  have hi := (List.getElem?_eq_some_iff.1 hu).1
  have hc0 : c ≠ 0 := by
    rintro rfl
    obtain rfl : n = 0 := by omega
    simp at h1
    rw [h1] at hi
    simp at hi
  obtain ⟨g', cur, fz, hg', hb, hh, hf, hs, ht⟩ := h4.resolve_left hc0
  obtain rfl : g = g' := by injection hg' with h; injection h
  rw [← ht, List.getElem?_take] at hu
  split at hu
  · have hu' : cur[i]? = some u := by simpa using hu
    have := hf i (Array.getElem?_eq_some_iff.1 hu').1
    obtain ⟨lo, hi'⟩ := fz
    refine ⟨by rw [cell_of_row w g i _ _ _ hh]; exact hu', ?_⟩
    simp only [World.frozen?, hh]
    exact this
  · cases hu
/-- What is read, both ways in one. -/
def RuP (Ku Lu Su Eu : Int) (ul : List Pt) (un : Nat) (w : World) (e : Ending) (w' : World) : Prop :=
  ∃ D k d, e = .returned (.tuple #[.agg #[.int .u8 Ku, .int .i64 Lu, .int .i64 Su, .slice D un k], .int .i64 Eu]) ∧ Fr w' w.heap.size 31 5 D un d (pcs ul) ∧ Below w.heap.size w w'
theorem ruP (l : List UInt8) : ∃ (Ku Lu Su Eu : Int) (ul : List Pt) (un : Nat), (0 ≤ Ku ∧ Ku ≤ 255) ∧ ul.length = un ∧ un ≤ 15 ∧ ∀ w e w', RdP l w e w' → RuP Ku Lu Su Eu ul un w e w' := by
  by_cases h : RdOk l
  · refine ⟨byteN l 0, byteN l 1, numS l, 0, rdData l, 15, ⟨by omega, by have := (l.getD 0 0).toNat_lt; unfold byteN; omega⟩, rdData_len l, Nat.le_refl _, ?_⟩
    rintro w e w' ⟨⟨-, D, k, d, he, hf⟩ | ⟨hn, -⟩, hb⟩
    · exact ⟨D, k, d, he, hf, hb⟩
    · exact absurd h hn
  · refine ⟨0, 0, 0, if l.length = 256 then 8 else 3, [], 0, ⟨by omega, by omega⟩, rfl, by omega, ?_⟩
    rintro w e w' ⟨⟨hn, -⟩ | ⟨-, he⟩, hb⟩
    · exact absurd hn h
    · exact ⟨none, 0, 0, he, Fr.none_, hb⟩
def ObiR (base un du : Nat) (Du : Option Addr) (W : World) (x : Value) (wr : World) : Prop :=
  ∃ (k : Nat) (xs : List Value), k ≤ un ∧ x = .int .i64 (k : Int) ∧ Fr wr base 31 5 Du un du xs ∧ Below base W wr ∧ ∀ g K L S X, ObBox W g K L S X → ObBox wr g K L S X
set_option maxHeartbeats 16000000 in
theorem objBlocks_walk (Kd Ld Sd : Int) (A : Option Addr) (n c : Nat) (l : List Pt) (K' L' S' : Int) (A' : Option Addr) (n' c' : Nat) (l' : List Pt) (D : Option Addr) (m d : Nat) (b : List UInt8) (w : World) (hl : l.length = n) (hU : AllU l) (hr : Rd w w.heap.size 5 A n (pcs l)) (hK8 : 0 ≤ Kd ∧ Kd ≤ 255) (hl' : l'.length = n') (hU' : AllU l') (hr' : Rd w w.heap.size 5 A' n' (pcs l')) (hK8' : 0 ≤ K' ∧ K' ≤ 255) (hb : b.length = m) (hd : m ≤ d) (hrb : Rd w w.heap.size 1 D m (bvs b)) :
    Calls Try.prog 17 #[.agg #[.int .u8 Kd, .int .i64 Ld, .int .i64 Sd, .slice A n c], (.agg #[.int .u8 K', .int .i64 L', .int .i64 S', .slice A' n' c']), .slice D m d] w fun e w' => e = .returned (.bool true) ∧ Below w.heap.size w w' := by
  have hx1 := (ObBox.new w Kd Ld Sd (.slice A n c)).alloc (.cells #[.int .u8 K', .int .i64 L', .int .i64 S', .slice A' n' c'] 50)
  have hy1 := ObBox.new (w.alloc (.cells #[.int .u8 Kd, .int .i64 Ld, .int .i64 Sd, .slice A n c] 50)) K' L' S' (.slice A' n' c')
  rw [World.size_alloc] at hy1
  have hb1 : Below w.heap.size w ((w.alloc (.cells #[.int .u8 Kd, .int .i64 Ld, .int .i64 Sd, .slice A n c] 50)).alloc (.cells #[.int .u8 K', .int .i64 L', .int .i64 S', .slice A' n' c'] 50)) := below_alloc (below_new w _) _ (Nat.le_refl _)
  obtain ⟨W1, hW1⟩ : ∃ V, V = (w.alloc (.cells #[.int .u8 Kd, .int .i64 Ld, .int .i64 Sd, .slice A n c] 50)).alloc (.cells #[.int .u8 K', .int .i64 L', .int .i64 S', .slice A' n' c'] 50) := ⟨_, rfl⟩
  have hbl := hb1
  by_cases hg0 : 1000 < (n : Int)
  · obtain ⟨x0, x1, x2, x3⟩ := hx1.cells
    obtain ⟨y0, y1, y2, y3⟩ := hy1.cells
    have HB := Lib.hid hb1
    clear hx1 hy1 hb1 hW1 hbl hl hU hr hK8 hl' hU' hr' hK8' hb hd hrb
    go_enter Try.func17, Try.ntmps17
    go_wp2
    go_ret
    exact ⟨rfl, HB.out⟩
  by_cases hg1 : 1000 < (n' : Int)
  · obtain ⟨x0, x1, x2, x3⟩ := hx1.cells
    obtain ⟨y0, y1, y2, y3⟩ := hy1.cells
    have HB := Lib.hid hb1
    clear hx1 hy1 hb1 hW1 hbl hl hU hr hK8 hl' hU' hr' hK8' hb hd hrb
    go_enter Try.func17, Try.ntmps17
    go_wp2
    go_ret
    exact ⟨rfl, HB.out⟩
  by_cases hg2 : 10000 < (m : Int)
  · obtain ⟨x0, x1, x2, x3⟩ := hx1.cells
    obtain ⟨y0, y1, y2, y3⟩ := hy1.cells
    have HB := Lib.hid hb1
    clear hx1 hy1 hb1 hW1 hbl hl hU hr hK8 hl' hU' hr' hK8' hb hd hrb
    go_enter Try.func17, Try.ntmps17
    go_wp2
    go_ret
    exact ⟨rfl, HB.out⟩
  obtain ⟨xl, hxl⟩ : ∃ x, x = obB Kd Ld Sd l := ⟨_, rfl⟩
  obtain ⟨xn, hxn⟩ : ∃ x, x = xl.length := ⟨_, rfl⟩
  obtain ⟨E1, hE1⟩ : ∃ x, x = obE Kd Ld Sd l := ⟨_, rfl⟩
  obtain ⟨v, hv⟩ : ∃ v, v = decide (Kd = K' ∧ Ld = L' ∧ Sd = S' ∧ l = l') := ⟨_, rfl⟩
  obtain ⟨Ku, Lu, Su, Eu, ul, un, hKu, hul, hu15, hru⟩ := ruP b
  have C1 := Lib.hid (fun V h => obj_write Kd Ld Sd A n c l V hl hU h hK8 xl E1 xn hxl.symm hE1.symm hxn.symm)
  have C2 := Lib.hid (fun V h => q_owrite Kd Ld Sd A n c l V hl hU h hK8 xl E1 xn hxl.symm hE1.symm hxn.symm)
  have C3 := Lib.hid (fun V B k hk h => (obj_readP B m k b V hb hk h).mono (fun e w' q => hru V e w' q))
  have C4 := Lib.hid (fun V B k hk h => (q_oread B m k b V hb hk h).mono (fun e w' q => hru V e w' q))
  have HCP := Lib.hid (fun V h => obj_check Kd Ld Sd A n c l V hl h hK8 E1 hE1.symm)
  have HCQ : Hid (∀ V, Rd V V.heap.size 5 A n (pcs l) → Calls Try.prog 45 #[.agg #[.int .u8 Kd, .int .i64 Ld, .int .i64 Sd, .slice A n c]] V fun e w' => e = .returned (.int .i64 E1) ∧ Below V.heap.size V w') := Lib.hid (fun V h => by rw [hE1]; exact q_ocheck Kd Ld Sd A n c l V hl h hK8)
  have hn1 : (n : Int) ≤ 1000 := by omega
  have hn2 : (n' : Int) ≤ 1000 := by omega
  have hm1 : (m : Int) ≤ 10000 := by omega
  have HN1 := Lib.hid hn1
  have HN2 := Lib.hid hn2
  have HM1 := Lib.hid hm1
  have HV := Lib.hid hv
  have HL := Lib.hid hl
  have HL' := Lib.hid hl'
  have HD := Lib.hid hd
  have HUL := Lib.hid hul
  have HU15 := Lib.hid hu15
  have HR1 := Lib.hid (hr.below hb1)
  have HR1' := Lib.hid (hr'.below hb1)
  have HRB1 := Lib.hid (hrb.below hb1)
  have HB1 := Lib.hid hb1
  rw [← hW1] at hx1 hy1 HR1 HR1' HRB1 HB1
  have HX1 := Lib.hid hx1
  have HY1 := Lib.hid hy1
  have HW1 := Lib.hid hW1.symm
  have hx0 := (ObBox.new w Kd Ld Sd (.slice A n c)).alloc (.cells #[.int .u8 K', .int .i64 L', .int .i64 S', .slice A' n' c'] 50)
  have hy0 := ObBox.new (w.alloc (.cells #[.int .u8 Kd, .int .i64 Ld, .int .i64 Sd, .slice A n c] 50)) K' L' S' (.slice A' n' c')
  rw [World.size_alloc] at hy0
  obtain ⟨x0, x1, x2, x3⟩ := hx0.cells
  obtain ⟨y0, y1, y2, y3⟩ := hy0.cells
  clear hbl hx0 hy0 hx1 hy1 hb1 hW1 hl hU hr hK8 hl' hU' hr' hK8' hb hd hrb hxl hxn hE1 hv hKu hul hu15 hru hn1 hn2 hm1
  go_enter Try.func17, Try.ntmps17
  go_wp2_with (first
    | (rw [HW1.out]; at_builtin; go_loud (refine wpList_append_to rfl (.const (.slice none 0 0)) (.tmp 34) rfl okP rfl (Fr.none_ (base := W1.heap.size)) rfl HR1.out (pcs_oneCell _) n (Nat.zero_add n) (pcs l) (List.nil_append _) (by have := HN1.out; unfold maxLen; omega) (by have := HN1.out; omega) (Nat.le_refl _) ?_); intro OA oc wo fo g1 _; clear x0 x1 x2 x3 y0 y1 y2 y3)
    | (at_builtin; go_loud (refine wpList_append_to rfl (.const (.slice none 0 0)) (.tmp 36) rfl okB rfl (Fr.none_ (base := W1.heap.size)) rfl (HRB1.out.below (grownBy_below g1 HB1.out.size (by simp [rowOf_zero]))) (bvs_one _) m (Nat.zero_add m) (bvs b) (List.nil_append _) (by have := HM1.out; unfold maxLen; omega) (by have := HM1.out; omega) g1.size ?_); intro MA mc w3 fm g2 _; have b1 : Below W1.heap.size W1 wo := grownBy_below g1 (Nat.le_refl _) (by simp [rowOf_zero]); have b2 : Below wo.heap.size wo w3 := grownBy_below g2 (Nat.le_refl _) (by simp [rowOf_zero]); have b3 := below_to b1 b2 b1.size; have fo2 := fo.below b2 (Nat.le_refl _); have hx3 := HX1.out.below b3 HX1.out.lt; obtain ⟨x0, x1, x2, x3⟩ := hx3.cells))
  have HX3 := Lib.hid hx3
  have HY3 := Lib.hid (HY1.out.below b3 HY1.out.lt)
  have HO3 := Lib.hid fo2
  have HM3 := Lib.hid fm
  have HB3 := Lib.hid (below_to HB1.out b3 HB1.out.size)
  have HR3 := Lib.hid ((HR1.out.below (b3.mono HB1.out.size)).more HB3.out.size)
  have HR3' := Lib.hid ((HR1'.out.below (b3.mono HB1.out.size)).more HB3.out.size)
  have HRB3 := Lib.hid ((HRB1.out.below (b3.mono HB1.out.size)).more HB3.out.size)
  have HBV := Lib.hid (Below.refl w3.heap.size w3)
  clear fo2 fm fo g1 g2 b1 b2 b3 hx3 hg0 hg1 hg2 HW1 HR1 HR1' HRB1 HB1 HX1 HY1
  refine (C1.out _ HR3.out).mono ?_
  clear C1 x0 x1 x2 x3
  rintro e v1 ⟨A1, c1, rfl, hf, hbx⟩
  have HF1 := Lib.hid hf
  replace HBV := Lib.hid (below_to HBV.out hbx HBV.out.size)
  clear hf hbx
  have hxn := HX3.out.below HBV.out HX3.out.lt
  obtain ⟨x0, x1, x2, x3⟩ := hxn.cells
  clear hxn
  go_wp2_with fail
  refine (C2.out _ ((HR3.out.below HBV.out).more HBV.out.size)).mono ?_
  clear C2 x0 x1 x2 x3
  rintro e v2 ⟨A2, c2, rfl, hf, hbx⟩
  have HF2 := Lib.hid (hf.mono HBV.out.size)
  replace HF1 := Lib.hid (HF1.out.below hbx (Nat.le_refl _))
  replace HBV := Lib.hid (below_to HBV.out hbx HBV.out.size)
  clear hf hbx
  go_wp2_with fail
  refine (C3.out _ MA mc HM3.out.nc (HM3.out.below HBV.out (Nat.le_refl _)).rd).mono ?_
  clear C3
  rintro e v3 ⟨Du, ku, du, rfl, hf, hb0⟩
  obtain ⟨u3, hu3⟩ : ∃ V, V = v3.alloc (.cells #[.int .u8 Ku, .int .i64 Lu, .int .i64 Su, .slice Du un ku] 50) := ⟨_, rfl⟩
  have hb2 : Below v3.heap.size v3 u3 := by rw [hu3]; exact below_new _ _
  have hbx := below_to hb0 hb2 hb0.size
  have HP3 := Lib.hid (show ObBox u3 v3.heap.size Ku Lu Su (.slice Du un ku) from by rw [hu3]; exact ObBox.new _ _ _ _ _)
  have HFU := Lib.hid ((hf.mono HBV.out.size).below hb2 (Nat.le_refl _))
  replace HF1 := Lib.hid (HF1.out.below hbx (Nat.le_refl _))
  replace HF2 := Lib.hid (HF2.out.below hbx (Nat.le_refl _))
  replace HBV := Lib.hid (below_to HBV.out hbx HBV.out.size)
  have HU3 := Lib.hid hu3.symm
  clear hb0 hb2 hbx hu3 hf
  go_wp2_with fail
  rw [HU3.out]
  clear HU3
  refine (C4.out _ D d HD.out ((HRB3.out.below HBV.out).more HBV.out.size)).mono ?_
  clear C4
  rintro e v4 ⟨Dv, kv, dv, rfl, hf, hb0⟩
  obtain ⟨u4, hu4⟩ : ∃ V, V = v4.alloc (.cells #[.int .u8 Ku, .int .i64 Lu, .int .i64 Su, .slice Dv un kv] 50) := ⟨_, rfl⟩
  have hb2 : Below v4.heap.size v4 u4 := by rw [hu4]; exact below_new _ _
  have hbx := below_to hb0 hb2 hb0.size
  have HP4 := Lib.hid (show ObBox u4 v4.heap.size Ku Lu Su (.slice Dv un kv) from by rw [hu4]; exact ObBox.new _ _ _ _ _)
  have HFV := Lib.hid ((hf.mono HBV.out.size).below hb2 (Nat.le_refl _))
  replace HP3 := Lib.hid (HP3.out.below hbx HP3.out.lt)
  replace HFU := Lib.hid (HFU.out.below hbx (Nat.le_refl _))
  replace HF1 := Lib.hid (HF1.out.below hbx (Nat.le_refl _))
  replace HF2 := Lib.hid (HF2.out.below hbx (Nat.le_refl _))
  replace HBV := Lib.hid (below_to HBV.out hbx HBV.out.size)
  have HU4 := Lib.hid hu4.symm
  have HXV := Lib.hid (HX3.out.below HBV.out HX3.out.lt)
  have HYV := Lib.hid (HY3.out.below HBV.out HY3.out.lt)
  have HRV := Lib.hid ((HR3.out.below HBV.out).more HBV.out.size)
  have HRV' := Lib.hid ((HR3'.out.below HBV.out).more HBV.out.size)
  clear hb0 hb2 hbx hu4 hf
  go_wp2
  rw [HU4.out]
  clear HU4
  refine wp_region_held_drew (S := fun V => Below u4.heap.size u4 V) (by kernel_rfl) (show Below u4.heap.size u4 u4.drew from (Below.refl _ _).drew) (fun hS => ?_)
  refine wpAnyH_take (i := 0) (v := ?_) rfl (by kernel_rfl) (by kernel_rfl) (by kernel_rfl) (fun _ _ _ h => h) (Or.inl ⟨by rfl, ?hyq⟩) hS ?_
  case hyq =>
    intro w hw
    go_simp
    try (with_reducible rfl)
  try go_simp
  refine wpAnyH_take (i := 1) (v := ?_) rfl (by kernel_rfl) (by kernel_rfl) (by kernel_rfl) (fun _ _ _ h => h) (Or.inl ⟨by rfl, ?hyq⟩) hS ?_
  case hyq =>
    intro w hw
    have hcv := convR (HF1.out.rd.below hw) c1
    go_simp
    try (with_reducible rfl)
  try go_simp
  refine wpAnyH_take (i := 2) (v := ?_) rfl (by kernel_rfl) (by kernel_rfl) (by kernel_rfl) (fun _ _ _ h => h) (Or.inl ⟨by rfl, ?hyq⟩) hS ?_
  case hyq =>
    intro w hw
    go_simp
    try (with_reducible rfl)
  try go_simp
  refine wpAnyH_take (i := 3) (v := ?_) rfl (by kernel_rfl) (by kernel_rfl) (by kernel_rfl) (fun _ _ _ h => h) (Or.inl ⟨by rfl, ?hyq⟩) hS ?_
  case hyq =>
    intro w hw
    have hcv := convR (HF2.out.rd.below hw) c2
    go_simp
    try (with_reducible rfl)
  try go_simp
  refine wpAnyH_take (i := 4) (v := ?_) rfl (by kernel_rfl) (by kernel_rfl) (by kernel_rfl) (fun _ _ _ h => h) (Or.inl ⟨by rfl, ?hyq⟩) hS ?_
  case hyq =>
    intro w hw
    go_simp
    try (with_reducible rfl)
  try go_simp
  refine wpAnyH_take (i := 5) (v := ?_) rfl (by kernel_rfl) (by kernel_rfl) (by kernel_rfl) (fun _ _ _ h => h) (Or.inl ⟨by rfl, ?hyq⟩) hS ?_
  case hyq =>
    intro w hw
    go_simp
    try (with_reducible rfl)
  try go_simp
  refine wpAnyH_take (i := 6) (v := ?_) rfl (by kernel_rfl) (by kernel_rfl) (by kernel_rfl) (fun _ _ _ h => h) (Or.inl ⟨by rfl, ?hyq⟩) hS ?_
  case hyq =>
    intro w hw
    go_simp
    try (with_reducible rfl)
  try go_simp
  refine wpAnyH_take (i := 7) (v := ?_) rfl (by kernel_rfl) (by kernel_rfl) (by kernel_rfl) (fun _ _ _ h => h) (Or.inl ⟨by rfl, ?hyq⟩) hS ?_
  case hyq =>
    intro w hw
    go_simp
    try (with_reducible rfl)
  try go_simp
  refine wpAnyH_take (i := 8) (v := ?_) rfl (by kernel_rfl) (by kernel_rfl) (by kernel_rfl) (fun _ _ _ h => h) (Or.inl ⟨by rfl, ?hyq⟩) hS ?_
  case hyq =>
    intro w hw
    go_simp
    try (with_reducible rfl)
  try go_simp
  refine wpAnyH_take (i := 9) (v := ?_) rfl (by kernel_rfl) (by kernel_rfl) (by kernel_rfl) (fun _ _ _ h => h) (Or.inl ⟨by rfl, ?hyq⟩) hS ?_
  case hyq =>
    intro w hw
    go_simp
    try (with_reducible rfl)
  try go_simp
  refine wpAnyH_take (i := 10) (v := ?_) rfl (by kernel_rfl) (by kernel_rfl) (by kernel_rfl) (fun _ _ _ h => h) (Or.inl ⟨by rfl, ?hyq⟩) hS ?_
  case hyq =>
    intro w hw
    go_simp
    try (with_reducible rfl)
  try go_simp
  refine wpAnyH_take (i := 11) (v := ?_) rfl (by kernel_rfl) (by kernel_rfl) (by kernel_rfl) (fun _ _ _ h => h) (Or.inl ⟨by rfl, ?hyq⟩) hS ?_
  case hyq =>
    intro w hw
    obtain ⟨k0, k1, k2, k3⟩ := (HP3.out.below hw HP3.out.lt).cells
    go_simp
    try (with_reducible rfl)
  try go_simp
  refine wpAnyH_take (i := 12) (v := ?_) rfl (by kernel_rfl) (by kernel_rfl) (by kernel_rfl) (fun _ _ _ h => h) (Or.inl ⟨by rfl, ?hyq⟩) hS ?_
  case hyq =>
    intro w hw
    obtain ⟨k0, k1, k2, k3⟩ := (HP4.out.below hw HP4.out.lt).cells
    go_simp
    try (with_reducible rfl)
  try go_simp
  try go_simp
  refine wpAnyH_ready (rs := [13]) (by kernel_rfl) (by simp) ?_
  refine all_consH rfl (fun K hK => ?_) ?_
  · skip
    refine Stp.mk ?_
    go_simp
    go_wp2_with fail
    refine (q_osame Ku Lu Su Du un ku ul Ku Lu Su Dv un kv ul _ HUL.out (by have := HU15.out; omega) ((HFU.out.below hS (Nat.le_refl _)).rd) HUL.out ((HFV.out.below hS (Nat.le_refl _)).rd) true (by simp)).mono ?_
    rintro e w10 ⟨rfl, b10⟩
    have hSn := below_to hS b10 hS.size
    clear b10
    go_wp2
    refine hK.out _ _ hSn (fun hS => ?_)
    clear hK K hSn
    refine wpAnyH_take (i := 14) (v := ?_) rfl (by kernel_rfl) (by kernel_rfl) (by kernel_rfl) (fun _ _ _ h => h) (Or.inl ⟨by rfl, ?hyq⟩) hS ?_
    case hyq =>
      intro w hw
      go_simp
      try (with_reducible rfl)
    try go_simp
    refine wpAnyH_take (i := 15) (v := ?_) rfl (by kernel_rfl) (by kernel_rfl) (by kernel_rfl) (fun _ _ _ h => h) (Or.inl ⟨by rfl, ?hyq⟩) hS ?_
    case hyq =>
      intro w hw
      go_simp
      try (with_reducible rfl)
    try go_simp
    refine wpAnyH_take (i := 16) (v := ?_) rfl (by kernel_rfl) (by kernel_rfl) (by kernel_rfl) (fun _ _ _ h => h) (Or.inl ⟨by rfl, ?hyq⟩) hS ?_
    case hyq =>
      intro w hw
      go_simp
      try (with_reducible rfl)
    try go_simp
    refine wpAnyH_take (i := 17) (v := ?_) rfl (by kernel_rfl) (by kernel_rfl) (by kernel_rfl) (fun _ _ _ h => h) (Or.inl ⟨by rfl, ?hyq⟩) hS ?_
    case hyq =>
      intro w hw
      go_simp
      try (with_reducible rfl)
    try go_simp
    refine wpAnyH_take (i := 18) (v := ?_) rfl (by kernel_rfl) (by kernel_rfl) (by kernel_rfl) (fun _ _ _ h => h) (Or.inl ⟨by rfl, ?hyq⟩) hS ?_
    case hyq =>
      intro w hw
      go_simp
      try (with_reducible rfl)
    try go_simp
    refine wpAnyH_take (i := 19) (v := ?_) rfl (by kernel_rfl) (by kernel_rfl) (by kernel_rfl) (fun _ _ _ h => h) (Or.inl ⟨by rfl, ?hyq⟩) hS ?_
    case hyq =>
      intro w hw
      go_simp
      try (with_reducible rfl)
    try go_simp
    refine wpAnyH_take (i := 20) (v := ?_) rfl (by kernel_rfl) (by kernel_rfl) (by kernel_rfl) (fun _ _ _ h => h) (Or.inl ⟨by rfl, ?hyq⟩) hS ?_
    case hyq =>
      intro w hw
      go_simp
      try (with_reducible rfl)
    try go_simp
    refine wpAnyH_take (i := 21) (v := ?_) rfl (by kernel_rfl) (by kernel_rfl) (by kernel_rfl) (fun _ _ _ h => h) (Or.inl ⟨by rfl, ?hyq⟩) hS ?_
    case hyq =>
      intro w hw
      go_simp
      try (with_reducible rfl)
    try go_simp
    refine wpAnyH_take (i := 22) (v := ?_) rfl (by kernel_rfl) (by kernel_rfl) (by kernel_rfl) (fun _ _ _ h => h) (Or.inl ⟨by rfl, ?hyq⟩) hS ?_
    case hyq =>
      intro w hw
      obtain ⟨k0, k1, k2, k3⟩ := (HXV.out.below hw HXV.out.lt).cells
      go_simp
      try (with_reducible rfl)
    try go_simp
    refine wpAnyH_take (i := 24) (v := ?_) rfl (by kernel_rfl) (by kernel_rfl) (by kernel_rfl) (fun _ _ _ h => h) (Or.inl ⟨by rfl, ?hyq⟩) hS ?_
    case hyq =>
      intro w hw
      obtain ⟨k0, k1, k2, k3⟩ := (HXV.out.below hw HXV.out.lt).cells
      go_simp
      try (with_reducible rfl)
    try go_simp
    try go_simp
    refine wpAnyH_ready (rs := [23]) (by kernel_rfl) (by simp) ?_
    refine all_consH rfl (fun K hK => ?_) ?_
    · skip
      refine Stp.mk ?_
      go_simp
      go_wp2_with fail
      refine (HCP.out _ ((HRV.out.below hS).more hS.size)).mono ?_
      rintro e w11 ⟨rfl, b11⟩
      have hSn := below_to hS b11 hS.size
      clear b11
      go_wp2
      refine hK.out _ _ hSn (fun hS => ?_)
      clear hK K hSn
      try go_simp
      refine wpAnyH_ready (rs := [25]) (by kernel_rfl) (by simp) ?_
      refine all_consH rfl (fun K hK => ?_) ?_
      · skip
        refine Stp.mk ?_
        go_simp
        go_wp2_with fail
        refine (HCQ.out _ ((HRV.out.below hS).more hS.size)).mono ?_
        rintro e w12 ⟨rfl, b12⟩
        have hSn := below_to hS b12 hS.size
        clear b12
        go_wp2
        refine hK.out _ _ hSn (fun hS => ?_)
        clear hK K hSn
        refine wpAnyH_take (i := 26) (v := ?_) rfl (by kernel_rfl) (by kernel_rfl) (by kernel_rfl) (fun _ _ _ h => h) (Or.inl ⟨by rfl, ?hyq⟩) hS ?_
        case hyq =>
          intro w hw
          go_simp
          try (with_reducible rfl)
        try go_simp
        refine wpAnyH_take (i := 27) (v := ?_) rfl (by kernel_rfl) (by kernel_rfl) (by kernel_rfl) (fun _ _ _ h => h) (Or.inl ⟨by rfl, ?hyq⟩) hS ?_
        case hyq =>
          intro w hw
          go_simp
          try (with_reducible rfl)
        try go_simp
        refine wpAnyH_take (i := 28) (v := ?_) rfl (by kernel_rfl) (by kernel_rfl) (by kernel_rfl) (fun _ _ _ h => h) (Or.inl ⟨by rfl, ?hyq⟩) hS ?_
        case hyq =>
          intro w hw
          go_simp
          try (with_reducible rfl)
        try go_simp
        refine wpAnyH_take (i := 29) (v := ?_) rfl (by kernel_rfl) (by kernel_rfl) (by kernel_rfl) (fun _ _ _ h => h) (Or.inl ⟨by rfl, ?hyq⟩) hS ?_
        case hyq =>
          intro w hw
          obtain ⟨k0, k1, k2, k3⟩ := (HXV.out.below hw HXV.out.lt).cells
          go_simp
          try (with_reducible rfl)
        try go_simp
        refine wpAnyH_take (i := 30) (v := ?_) rfl (by kernel_rfl) (by kernel_rfl) (by kernel_rfl) (fun _ _ _ h => h) (Or.inl ⟨by rfl, ?hyq⟩) hS ?_
        case hyq =>
          intro w hw
          obtain ⟨k0, k1, k2, k3⟩ := (HYV.out.below hw HYV.out.lt).cells
          go_simp
          try (with_reducible rfl)
        try go_simp
        refine wpAnyH_take (i := 32) (v := ?_) rfl (by kernel_rfl) (by kernel_rfl) (by kernel_rfl) (fun _ _ _ h => h) (Or.inl ⟨by rfl, ?hyq⟩) hS ?_
        case hyq =>
          intro w hw
          obtain ⟨k0, k1, k2, k3⟩ := (HXV.out.below hw HXV.out.lt).cells
          go_simp
          try (with_reducible rfl)
        try go_simp
        refine wpAnyH_take (i := 33) (v := ?_) rfl (by kernel_rfl) (by kernel_rfl) (by kernel_rfl) (fun _ _ _ h => h) (Or.inl ⟨by rfl, ?hyq⟩) hS ?_
        case hyq =>
          intro w hw
          obtain ⟨k0, k1, k2, k3⟩ := (HYV.out.below hw HYV.out.lt).cells
          go_simp
          try (with_reducible rfl)
        try go_simp
        try go_simp
        refine wpAnyH_ready (rs := [31]) (by kernel_rfl) (by simp) ?_
        refine all_consH rfl (fun K hK => ?_) ?_
        · skip
          refine Stp.mk ?_
          go_simp
          go_wp2_with fail
          refine (obj_same Kd Ld Sd A n c l K' L' S' A' n' c' l' _ HL.out (by have := HN1.out; omega) ((HRV.out.below hS).more hS.size) HL'.out ((HRV'.out.below hS).more hS.size) v HV.out).mono ?_
          rintro e w13 ⟨rfl, b13⟩
          have hSn := below_to hS b13 hS.size
          clear b13
          go_wp2
          refine hK.out _ _ hSn (fun hS => ?_)
          clear hK K hSn
          try go_simp
          refine wpAnyH_ready (rs := [34]) (by kernel_rfl) (by simp) ?_
          refine all_consH rfl (fun K hK => ?_) ?_
          · skip
            refine Stp.mk ?_
            go_simp
            go_wp2_with fail
            refine (q_osame Kd Ld Sd A n c l K' L' S' A' n' c' l' _ HL.out (by have := HN1.out; omega) ((HRV.out.below hS).more hS.size) HL'.out ((HRV'.out.below hS).more hS.size) v HV.out).mono ?_
            rintro e w14 ⟨rfl, b14⟩
            have hSn := below_to hS b14 hS.size
            clear b14
            go_wp2
            refine hK.out _ _ hSn (fun hS => ?_)
            clear hK K hSn
            refine wpAnyH_take (i := 35) (v := ?_) rfl (by kernel_rfl) (by kernel_rfl) (by kernel_rfl) (fun _ _ _ h => h) (Or.inl ⟨by rfl, ?hyq⟩) hS ?_
            case hyq =>
              intro w hw
              go_simp
              try (with_reducible rfl)
            try go_simp
            try go_simp
            refine wpAnyH_ready (rs := [36]) (by kernel_rfl) (by simp) ?_
            refine all_consH rfl (fun K hK => ?_) ?_
            · skip
              refine Stp.mk ?_
              go_simp
              have hSn := hS
              refine hK.out _ _ hSn (fun hS => ?_)
              clear hK K hSn
              refine wpAnyH_done (by kernel_rfl) ?_ _
              have HFW := Lib.hid (HFU.out.below hS (Nat.le_refl _))
              have HPW := Lib.hid (HP3.out.below hS HP3.out.lt)
              replace HBV := Lib.hid (below_to HBV.out hS HBV.out.size)
              clear HF1 HF2 HFU HFV HP3 HP4 HCP HCQ HV hS HXV HYV HRV HRV' HY3
              have hu2 : (un : Int) ≤ 15 := by have := HU15.out; omega
              go_wp2
              go_loopw [17] (fun i wr => ObiR w3.heap.size un du Du w14 i wr) (fun i _ => un - (intOf i).toNat)
              case atStart => exact ⟨0, _, by omega, rfl, HFW.out, Below.refl _ _, fun _ _ _ _ _ h => h⟩
              case round =>
                obtain ⟨k, xs, hk, rfl, hf, hbr, hbo⟩ := hrel
                have hbx := hbo _ _ _ _ _ HPW.out
                obtain ⟨z0, z1, z2, z3⟩ := hbx.cells
                by_cases hlt : k < un
                · obtain ⟨g, rfl, hg1, hg2⟩ := hf.form (by have := hf.nc; omega)
                  have hki : k * 5 < xs.length := by rw [hf.len]; omega
                  obtain ⟨hcell, hfz⟩ := hf.cellP (List.getElem?_eq_getElem hki)
                  have h0 : ¬ ((k : Int) < 0) := by omega
                  have h1 : (k : Int) < (un : Int) := by omega
                  have hF := hf.setP (by have := hf.nc; omega) (k * 5) (.int .i64 99)
                  have hB := hbr.setCell (p := ⟨g, k * 5, none⟩) hg1 (.int .i64 99)
                  have hO : ∀ g' K L S X, ObBox w14 g' K L S X → ObBox (wr.setCell ⟨g, k * 5, none⟩ (.int .i64 99)) g' K L S X := fun g' K L S X h => by
                    have h2 := hbo g' K L S X h
                    refine h2.far ⟨g, k * 5, none⟩ (fun e => ?_) _
                    have e' : g' = g := e
                    subst e'
                    exact ob_row_ne hf h2 (rowOf_some _ _ _ (by have := hf.nc; omega))
                  have HF := Lib.hid hF
                  have HB := Lib.hid hB
                  have HO := Lib.hid hO
                  generalize xs[k * 5] = old at *
                  clear hf hbr hbo hF hB hO hbx hki
                  go_wp2
                  go_roundw
                  case rel => exact ⟨k + 1, _, by omega, by simp, HF.out, HB.out, HO.out⟩
                  case measure => simp [intOf]; omega
                · obtain rfl : k = un := by omega
                  have hbz := HBV.out.trans hbr
                  have HOZ := Lib.hid (HO3.out.below hbz (Nat.le_refl _))
                  have HMZ := Lib.hid (HM3.out.below hbz (Nat.le_refl _))
                  have HRZ := Lib.hid ((HR3.out.below hbz).more hbz.size)
                  have HRBZ := Lib.hid ((HRB3.out.below hbz).more hbz.size)
                  have HBZ := Lib.hid (below_to HB3.out hbz HB3.out.size)
                  have hxz := HX3.out.below hbz HX3.out.lt
                  obtain ⟨x0, x1, x2, x3⟩ := hxz.cells
                  clear hf hbr hbo hbx hbz HFW hxz
                  go_wp2_with fail
                  refine (q_same OA n oc l A n c l _ HL.out (by have := HN1.out; omega) HOZ.out.rd HL.out HRZ.out true (by simp)).mono ?_
                  rintro e wz ⟨rfl, b9⟩
                  have k1 := convR (HMZ.out.below b9 (Nat.le_refl _)).rd mc
                  have k2 := convR (HRBZ.out.below b9) d
                  have HBE := Lib.hid (below_to HBZ.out b9 HBZ.out.size)
                  clear b9 HOZ HMZ HRZ HRBZ HBZ
                  go_wp2
                  go_ret
                  exact ⟨rfl, HBE.out⟩
            exact AllReadyH.nil
          exact AllReadyH.nil
        exact AllReadyH.nil
      exact AllReadyH.nil
    exact AllReadyH.nil
  exact AllReadyH.nil
end Go.Proofs.Ytgcagenhfddpgaa
