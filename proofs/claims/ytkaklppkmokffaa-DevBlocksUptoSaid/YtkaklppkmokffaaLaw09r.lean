/-
  The walk of DevBlocks, at disks that are not too large.
-/
import Derived.Test.YtkaklppkmokffaaLaw09q
import Derived.Test.YtkaklppkmokffaaRf9n
namespace Go.Proofs.Ytkaklppkmokffaa
open Go.RowKit
set_option linter.unusedVariables false
set_option linter.unusedSimpArgs false
set_option maxRecDepth 100000
attribute [local go_sem] str_toList toList_mk

theorem conv9 {w : World} {B n : Nat} {A : Option Addr} {l : List UInt8} (h : Rd w B 1 A n (bvs l)) (c : Nat) : (convert 41 9 (.slice A n c)).run Try.prog w = .ok (.string (str l)) w :=
  run_conv Try.underlying41 Try.underlying5 Try.underlying9 h c
theorem errW_zero {c : Ct} {a : Int} {m : Nat} (h : errW c a m = 0) : c.May ∧ (0 ≤ a ∧ a < 256) ∧ m = 256 ∧ ¬ c.w.length = 4096 := by
  unfold errW at h
  by_cases hg : errG c (decide (0 ≤ a ∧ a < 256)) = 0
  · rw [if_pos hg] at h
    have hm := errG_zeroQ hg
    have ha : 0 ≤ a ∧ a < 256 := by
      by_cases ha : 0 ≤ a ∧ a < 256
      · exact ha
      · rw [decide_eq_false ha, errG_arg hm] at hg
        cases hg
    by_cases hn : m = 256
    · rw [if_pos hn] at h
      by_cases hw : c.w.length = 4096
      · rw [if_pos hw] at h
        cases h
      · exact ⟨hm, ha, hn, hw⟩
    · rw [if_neg hn] at h
      cases h
  · rw [if_neg hg] at h
    exact absurd h hg
theorem errW_may {c : Ct} {a : Int} {l : List UInt8} (h : errW c a l.length = 0) : (c.write a l).May := by
  obtain ⟨h1, h2, h3, h4⟩ := errW_zero h
  have := h1.2.2.1
  exact Ct.write_may h1 h2 h3 (by omega)
theorem read_small {c : Ct} {E : Int} {a : Nat} (so : Nat → Bool) (hm : E = 0 → c.May) : (if E = 0 then (c.left so).b.getD a [] else []).length ≤ 256 := by
  by_cases he : E = 0
  · rw [if_pos he]
    have h := (Ct.left_may (hm he) so).2.1
    by_cases ha : a < (c.left so).b.length
    · rw [List.getD_eq_getElem?_getD, List.getElem?_eq_getElem ha, Option.getD_some, h _ (List.getElem_mem ha)]
      exact Nat.le_refl _
    · rw [List.getD_eq_getElem?_getD, List.getElem?_eq_none (by omega)]
      exact Nat.zero_le _
  · rw [if_neg he]
    exact Nat.zero_le _
/-- The round of the loop that turns the bytes read. -/
def BlR (base : Nat) (s : Sl) (W : World) (x : Value) (wr : World) : Prop := ∃ k : Nat, k ≤ s.n ∧ x = .int .i64 (k : Int) ∧ BKp base W wr
theorem BKp.refl (base : Nat) (w : World) : BKp base w w := ⟨Below.refl _ _, fun _ _ k => k, fun _ _ k => k, fun _ _ _ k => k⟩
theorem BKp.putn {base : Nat} {w wr : World} (h : BKp base w wr) {g i : Nat} {cur : Array Value} {fz : Nat × Nat} (hb : base ≤ g) (hg : wr.heap[g]? = some (.cells cur 5 fz)) (y : UInt8) : BKp base w (wr.setCell ⟨g, i, none⟩ (bv y)) :=
  ⟨h.b.setCell hb _, fun b d k => Wp.put (h.k b d k) hg y, fun b s k => WpS.put (h.s b s k) hg y, fun G X Y k => DkBox.set (h.x G X Y k) ⟨g, i, none⟩ (box_ne (h.x G X Y k) hg) _⟩
set_option maxHeartbeats 16000000 in
theorem devBlocks_walk (d : Dk) (at_ : Int) (s : Sl) (w : World) (hd : d.ok w) (hs : Small d) (hat : I64 at_) (hsc : s.came w) :
    Calls Try.prog 4 #[d.v, .int .i64 at_, .slice s.A s.n s.c] w fun e w' => e = .returned (.bool true) ∧ Below w.heap.size w w' := by
  obtain ⟨w1, hw1⟩ : ∃ V, V = w.alloc (.cells #[.slice d.A d.nB d.cB, .slice d.W d.nW d.cW] 25) := ⟨_, rfl⟩
  have hb : Below w.heap.size w w1 := by rw [hw1]; exact below_new' w _
  have hx : DkBox w1 w.heap.size (.slice d.A d.nB d.cB) (.slice d.W d.nW d.cW) := by rw [hw1]; exact DkBox.new w _ _
  have hgr := g_great d w1 (hd.below hb)
  rw [hw1] at hgr
  have HGR := Lib.hid hgr
  have HX := Lib.hid hx
  have HB := Lib.hid hb
  have HD := Lib.hid hd
  have HS := Lib.hid hs
  have HSC := Lib.hid hsc
  have HAT := Lib.hid hat
  clear hx hb hgr hd hs hsc hat
  simp only [Dk.v] at *
  go_enter Try.func4, Try.ntmps4
  go_wp2_with fail
  refine HGR.out.mono ?_
  rw [← hw1]
  clear hw1 HGR
  rintro e w2 ⟨v0, rfl, hv, b2⟩
  have HX2 := Lib.hid (HX.out.below b2 HX.out.lt)
  have HB2 := Lib.hid (below_to HB.out b2 HB.out.size)
  have HV := Lib.hid hv
  clear b2 HX HB hv
  cases v0 with
  | true =>
    go_wp2
    go_ret
    exact ⟨rfl, HB2.out⟩
  | false =>
    by_cases hk5 : 10000 < (s.n : Int)
    · go_wp2
      go_ret
      exact ⟨rfl, HB2.out⟩
    · have hsz : ((d.nB : Int) ≤ 500 ∧ (d.nW : Int) ≤ 4106) := HV.out (by trivial)
      have HZ := Lib.hid hsz
      have HK5 := Lib.hid (show (s.n : Int) ≤ 1000000000 by omega)
      clear hsz HV
      obtain ⟨x0, x1⟩ := HX2.out.cells
      have htw := r_twin d w2 (HD.out.below HB2.out) (by have := HZ.out; omega) (by have := HZ.out; omega) HS.out.bs HS.out.ws
      simp only [Dk.v] at htw
      have HTW := Lib.hid htw
      clear htw
      go_wp2_with fail
      refine HTW.out.mono ?_
      rintro e w4 ⟨d1, rfl, hn1, b4⟩
      obtain ⟨V5, hV⟩ : ∃ V, V = w4.alloc (.cells #[.slice d1.A d1.nB d1.cB, .slice d1.W d1.nW d1.cW] 25) := ⟨_, rfl⟩
      have hb5 : Below w4.heap.size w4 V5 := by rw [hV]; exact below_new' w4 _
      have h5 : DkBox V5 w4.heap.size (.slice d1.A d1.nB d1.cB) (.slice d1.W d1.nW d1.cW) := by rw [hV]; exact DkBox.new w4 _ _
      have hx4 := HX2.out.below b4 HX2.out.lt
      have HX5 := Lib.hid (hx4.below hb5 hx4.lt)
      have HO5 := Lib.hid h5
      have HN5 := Lib.hid (hn1.below hb5)
      have HB5 := Lib.hid (below_to (below_to HB2.out b4 HB2.out.size) hb5 (below_to HB2.out b4 HB2.out.size).size)
      have HBV := Lib.hid (Below.refl V5.heap.size V5)
      have HD5 := Lib.hid (HD.out.below HB5.out)
      have HQ := Lib.hid (c_sizes HD5.out HN5.out.ok HN5.out.cc)
      have HK := Lib.hid (HSC.out.below HB5.out)
      obtain ⟨E1, hE1⟩ : ∃ E, E = errG d.c (decide (0 ≤ at_ ∧ at_ < 256)) := ⟨_, rfl⟩
      obtain ⟨E2, hE2⟩ : ∃ E, E = errW d.c at_ s.l.length := ⟨_, rfl⟩
      obtain ⟨E3, hE3⟩ : ∃ E : Int, E = if d.c.May then 0 else 8 := ⟨_, rfl⟩
      have HE1 := Lib.hid hE1
      have HE2 := Lib.hid hE2
      have HE3 := Lib.hid hE3
      clear hE1 hE2 hE3 hn1 b4 hb5 h5 hx4 x0 x1 HX2 HB2 HTW hk5
      have hc := d_read d1 V5 (HN5.out.below HBV.out).ok (by have := HZ.out; have := HQ.out.1; omega) (by have := HZ.out; have := HQ.out.2; omega) at_ HAT.out E1 (by rw [HN5.out.cc]; exact HE1.out)
      rw [HN5.out.cc] at hc
      simp only [Dk.v] at hc
      rw [hV] at hc
      have HC := Lib.hid hc
      have HVV := Lib.hid hV
      clear hc hV
      go_wp2_with fail
      refine HC.out.mono ?_
      rw [← HVV.out]
      clear HVV HC
      rintro e V6 ⟨s2, rfl, hs2, ho2, hl2, hb1⟩
      have HS2 := Lib.hid hs2
      have HO2 := Lib.hid (ho2.mono HBV.out.size)
      have HL2 := Lib.hid hl2
      have hxn := HX5.out.below (below_to HBV.out hb1 HBV.out.size) HX5.out.lt
      obtain ⟨x0, x1⟩ := hxn.cells
      replace HBV := Lib.hid (below_to HBV.out hb1 HBV.out.size)
      clear hxn hs2 ho2 hl2 hb1
      have hc := r_read d V6 (HD5.out.below HBV.out) (by have := HZ.out; omega) (by have := HZ.out; omega) at_ HAT.out E1 HE1.out
      simp only [Dk.v] at hc
      have HC := Lib.hid hc
      clear hc
      go_wp2_with fail
      refine HC.out.mono ?_
      clear HC x0 x1
      rintro e V7 ⟨s3, rfl, hs3, ho3, hl3, hb1⟩
      have HS3 := Lib.hid hs3
      have HL3 := Lib.hid hl3
      replace HS2 := Lib.hid (HS2.out.below hb1)
      replace HO2 := Lib.hid (HO2.out.below hb1)
      have hxn := HO5.out.below (below_to HBV.out hb1 HBV.out.size) HO5.out.lt
      obtain ⟨x0, x1⟩ := hxn.cells
      replace HBV := Lib.hid (below_to HBV.out hb1 HBV.out.size)
      clear hxn hs3 ho3 hl3 hb1
      have hc := d_write d1 V7 (HN5.out.below HBV.out).ok (by have := HZ.out; have := HQ.out.1; omega) (by have := HZ.out; have := HQ.out.2; omega) at_ HAT.out s (HK.out.below HBV.out) HK5.out E2 (by rw [HN5.out.cc]; exact HE2.out)
      rw [HN5.out.cc] at hc
      simp only [Dk.v] at hc
      have HC := Lib.hid hc
      clear hc
      go_wp2_with fail
      refine HC.out.mono ?_
      clear HC x0 x1
      rintro e w8 ⟨d6, rfl, hn, hb1⟩
      obtain ⟨V8, hV⟩ : ∃ V, V = w8.alloc (.cells #[.slice d6.A d6.nB d6.cB, .slice d6.W d6.nW d6.cW] 25) := ⟨_, rfl⟩
      have hb2 : Below w8.heap.size w8 V8 := by rw [hV]; exact below_new' _ _
      have hbx := below_to hb1 hb2 hb1.size
      have HX6 := Lib.hid (show DkBox V8 w8.heap.size (.slice d6.A d6.nB d6.cB) (.slice d6.W d6.nW d6.cW) from by rw [hV]; exact DkBox.new _ _ _)
      have HN6 := Lib.hid ((hn.below hb2).mono HBV.out.size)
      have hxn := HX5.out.below (below_to HBV.out hb1 HBV.out.size) HX5.out.lt
      obtain ⟨x0, x1⟩ := hxn.cells
      have xl := hxn.lt
      replace HS2 := Lib.hid (HS2.out.below hbx)
      replace HO2 := Lib.hid (HO2.out.below hbx)
      replace HS3 := Lib.hid (HS3.out.below hbx)
      replace HBV := Lib.hid (below_to HBV.out hbx HBV.out.size)
      clear hxn hn hb1 hb2 hbx
      have hc := r_write d V8 (HD5.out.below HBV.out) (by have := HZ.out; omega) (by have := HZ.out; omega) at_ HAT.out s (HK.out.below HBV.out) HK5.out E2 HE2.out
      simp only [Dk.v] at hc
      rw [hV] at hc
      have HC := Lib.hid hc
      have HVV := Lib.hid hV
      clear hc hV
      go_wp2_with fail
      refine HC.out.mono ?_
      rw [← HVV.out]
      clear HVV HC x0 x1 xl
      rintro e w9 ⟨d7, rfl, hn, hb1⟩
      obtain ⟨V9, hV⟩ : ∃ V, V = w9.alloc (.cells #[.slice d7.A d7.nB d7.cB, .slice d7.W d7.nW d7.cW] 25) := ⟨_, rfl⟩
      have hb2 : Below w9.heap.size w9 V9 := by rw [hV]; exact below_new' _ _
      have hbx := below_to hb1 hb2 hb1.size
      have HX7 := Lib.hid (show DkBox V9 w9.heap.size (.slice d7.A d7.nB d7.cB) (.slice d7.W d7.nW d7.cW) from by rw [hV]; exact DkBox.new _ _ _)
      have HN7 := Lib.hid ((hn.below hb2).mono HBV.out.size)
      replace HX6 := Lib.hid (HX6.out.below hbx HX6.out.lt)
      replace HN6 := Lib.hid (HN6.out.below hbx)
      replace HS2 := Lib.hid (HS2.out.below hbx)
      replace HO2 := Lib.hid (HO2.out.below hbx)
      replace HS3 := Lib.hid (HS3.out.below hbx)
      replace HBV := Lib.hid (below_to HBV.out hbx HBV.out.size)
      have HLL := Lib.hid (HL2.out.trans HL3.out.symm)
      have hn2 := read_small (a := at_.toNat) (fun _ => true) (fun h => errG_zeroQ (HE1.out.symm.trans h))
      rw [← HL2.out, HS2.out.1] at hn2
      have HN2 := Lib.hid hn2
      clear hn2
      have HVV := Lib.hid hV
      have HF6 := Lib.hid (HN6.out.fit (E := E2) (fun h => errW_may (HE2.out.symm.trans h)))
      have HF7 := Lib.hid (HN7.out.fit (E := E2) (fun h => errW_may (HE2.out.symm.trans h)))
      have HXV := Lib.hid (HX5.out.below HBV.out HX5.out.lt)
      have HDV := Lib.hid (HD5.out.below HBV.out)
      clear hn hb1 hb2 hbx hV HL2 HL3
      go_wp2
      rw [← HVV.out]
      clear HVV
      refine wp_region_held_drew (S := fun V => Below V9.heap.size V9 V) (by kernel_rfl) (show Below V9.heap.size V9 V9.drew from (Below.refl _ _).drew) (fun hS => ?_)
      refine wpAnyH_take (i := 0) (v := ?_) rfl (by kernel_rfl) (by kernel_rfl) (by kernel_rfl) (fun _ _ _ h => h) (Or.inl ⟨by rfl, ?hyq⟩) hS ?_
      case hyq =>
        intro w hw
        go_simp
        try (with_reducible rfl)
      try go_simp
      refine wpAnyH_take (i := 1) (v := ?_) rfl (by kernel_rfl) (by kernel_rfl) (by kernel_rfl) (fun _ _ _ h => h) (Or.inl ⟨by rfl, ?hyq⟩) hS ?_
      case hyq =>
        intro w hw
        go_simp
        try (with_reducible rfl)
      try go_simp
      refine wpAnyH_take (i := 2) (v := ?_) rfl (by kernel_rfl) (by kernel_rfl) (by kernel_rfl) (fun _ _ _ h => h) (Or.inl ⟨by rfl, ?hyq⟩) hS ?_
      case hyq =>
        intro w hw
        go_simp
        try (with_reducible rfl)
      try go_simp
      refine wpAnyH_take (i := 3) (v := ?_) rfl (by kernel_rfl) (by kernel_rfl) (by kernel_rfl) (fun _ _ _ h => h) (Or.inl ⟨by rfl, ?hyq⟩) hS ?_
      case hyq =>
        intro w hw
        go_simp
        try (with_reducible rfl)
      try go_simp
      refine wpAnyH_take (i := 4) (v := ?_) rfl (by kernel_rfl) (by kernel_rfl) (by kernel_rfl) (fun _ _ _ h => h) (Or.inl ⟨by rfl, ?hyq⟩) hS ?_
      case hyq =>
        intro w hw
        go_simp
        try (with_reducible rfl)
      try go_simp
      refine wpAnyH_take (i := 5) (v := ?_) rfl (by kernel_rfl) (by kernel_rfl) (by kernel_rfl) (fun _ _ _ h => h) (Or.inl ⟨by rfl, ?hyq⟩) hS ?_
      case hyq =>
        intro w hw
        have hcv := conv9 (HS2.out.2.1.below hw) s2.c
        go_simp
        try (with_reducible rfl)
      try go_simp
      refine wpAnyH_take (i := 6) (v := ?_) rfl (by kernel_rfl) (by kernel_rfl) (by kernel_rfl) (fun _ _ _ h => h) (Or.inl ⟨by rfl, ?hyq⟩) hS ?_
      case hyq =>
        intro w hw
        go_simp
        try (with_reducible rfl)
      try go_simp
      refine wpAnyH_take (i := 7) (v := ?_) rfl (by kernel_rfl) (by kernel_rfl) (by kernel_rfl) (fun _ _ _ h => h) (Or.inl ⟨by rfl, ?hyq⟩) hS ?_
      case hyq =>
        intro w hw
        have hcv := conv9 (HS3.out.2.1.below hw) s3.c
        rw [← HLL.out] at hcv
        go_simp
        try (with_reducible rfl)
      try go_simp
      refine wpAnyH_take (i := 8) (v := ?_) rfl (by kernel_rfl) (by kernel_rfl) (by kernel_rfl) (fun _ _ _ h => h) (Or.inl ⟨by rfl, ?hyq⟩) hS ?_
      case hyq =>
        intro w hw
        go_simp
        try (with_reducible rfl)
      try go_simp
      refine wpAnyH_take (i := 9) (v := ?_) rfl (by kernel_rfl) (by kernel_rfl) (by kernel_rfl) (fun _ _ _ h => h) (Or.inl ⟨by rfl, ?hyq⟩) hS ?_
      case hyq =>
        intro w hw
        go_simp
        try (with_reducible rfl)
      try go_simp
      refine wpAnyH_take (i := 10) (v := ?_) rfl (by kernel_rfl) (by kernel_rfl) (by kernel_rfl) (fun _ _ _ h => h) (Or.inl ⟨by rfl, ?hyq⟩) hS ?_
      case hyq =>
        intro w hw
        go_simp
        try (with_reducible rfl)
      try go_simp
      refine wpAnyH_take (i := 11) (v := ?_) rfl (by kernel_rfl) (by kernel_rfl) (by kernel_rfl) (fun _ _ _ h => h) (Or.inl ⟨by rfl, ?hyq⟩) hS ?_
      case hyq =>
        intro w hw
        go_simp
        try (with_reducible rfl)
      try go_simp
      refine wpAnyH_take (i := 12) (v := ?_) rfl (by kernel_rfl) (by kernel_rfl) (by kernel_rfl) (fun _ _ _ h => h) (Or.inl ⟨by rfl, ?hyq⟩) hS ?_
      case hyq =>
        intro w hw
        go_simp
        try (with_reducible rfl)
      try go_simp
      refine wpAnyH_take (i := 13) (v := ?_) rfl (by kernel_rfl) (by kernel_rfl) (by kernel_rfl) (fun _ _ _ h => h) (Or.inl ⟨by rfl, ?hyq⟩) hS ?_
      case hyq =>
        intro w hw
        go_simp
        try (with_reducible rfl)
      try go_simp
      refine wpAnyH_take (i := 14) (v := ?_) rfl (by kernel_rfl) (by kernel_rfl) (by kernel_rfl) (fun _ _ _ h => h) (Or.inl ⟨by rfl, ?hyq⟩) hS ?_
      case hyq =>
        intro w hw
        go_simp
        try (with_reducible rfl)
      try go_simp
      refine wpAnyH_take (i := 15) (v := ?_) rfl (by kernel_rfl) (by kernel_rfl) (by kernel_rfl) (fun _ _ _ h => h) (Or.inl ⟨by rfl, ?hyq⟩) hS ?_
      case hyq =>
        intro w hw
        go_simp
        try (with_reducible rfl)
      try go_simp
      refine wpAnyH_take (i := 16) (v := ?_) rfl (by kernel_rfl) (by kernel_rfl) (by kernel_rfl) (fun _ _ _ h => h) (Or.inl ⟨by rfl, ?hyq⟩) hS ?_
      case hyq =>
        intro w hw
        obtain ⟨k0, k1⟩ := (HX6.out.below hw HX6.out.lt).cells
        go_simp
        try (with_reducible rfl)
      try go_simp
      refine wpAnyH_take (i := 17) (v := ?_) rfl (by kernel_rfl) (by kernel_rfl) (by kernel_rfl) (fun _ _ _ h => h) (Or.inl ⟨by rfl, ?hyq⟩) hS ?_
      case hyq =>
        intro w hw
        obtain ⟨k0, k1⟩ := (HX7.out.below hw HX7.out.lt).cells
        go_simp
        try (with_reducible rfl)
      try go_simp
      try go_simp
      refine wpAnyH_ready (rs := [18]) (by kernel_rfl) (by simp) ?_
      refine all_consH rfl (fun K hK => ?_) ?_
      · skip
        refine Stp.mk ?_
        go_simp
        go_wp2_with fail
        have hsm := r_same d6 d7 _ (HN6.out.below hS).ok (HN7.out.below hS).ok HF6.out.b HF6.out.w HF7.out.b HF7.out.w true (by rw [HN6.out.cc, HN7.out.cc]; simp)
        simp only [Dk.v] at hsm
        refine hsm.mono ?_
        clear hsm
        rintro e w10 ⟨rfl, b10⟩
        have hSn := below_to hS b10 hS.size
        clear b10
        go_wp2
        refine hK.out _ _ hSn (fun hS => ?_)
        clear hK K hSn
        refine wpAnyH_take (i := 19) (v := ?_) rfl (by kernel_rfl) (by kernel_rfl) (by kernel_rfl) (fun _ _ _ h => h) (Or.inl ⟨by rfl, ?hyq⟩) hS ?_
        case hyq =>
          intro w hw
          go_simp
          try (with_reducible rfl)
        try go_simp
        refine wpAnyH_take (i := 20) (v := ?_) rfl (by kernel_rfl) (by kernel_rfl) (by kernel_rfl) (fun _ _ _ h => h) (Or.inl ⟨by rfl, ?hyq⟩) hS ?_
        case hyq =>
          intro w hw
          go_simp
          try (with_reducible rfl)
        try go_simp
        refine wpAnyH_take (i := 21) (v := ?_) rfl (by kernel_rfl) (by kernel_rfl) (by kernel_rfl) (fun _ _ _ h => h) (Or.inl ⟨by rfl, ?hyq⟩) hS ?_
        case hyq =>
          intro w hw
          go_simp
          try (with_reducible rfl)
        try go_simp
        refine wpAnyH_take (i := 22) (v := ?_) rfl (by kernel_rfl) (by kernel_rfl) (by kernel_rfl) (fun _ _ _ h => h) (Or.inl ⟨by rfl, ?hyq⟩) hS ?_
        case hyq =>
          intro w hw
          obtain ⟨k0, k1⟩ := (HXV.out.below hw HXV.out.lt).cells
          go_simp
          try (with_reducible rfl)
        try go_simp
        refine wpAnyH_take (i := 24) (v := ?_) rfl (by kernel_rfl) (by kernel_rfl) (by kernel_rfl) (fun _ _ _ h => h) (Or.inl ⟨by rfl, ?hyq⟩) hS ?_
        case hyq =>
          intro w hw
          obtain ⟨k0, k1⟩ := (HXV.out.below hw HXV.out.lt).cells
          go_simp
          try (with_reducible rfl)
        try go_simp
        try go_simp
        refine wpAnyH_ready (rs := [23]) (by kernel_rfl) (by simp) ?_
        refine all_consH rfl (fun K hK => ?_) ?_
        · skip
          refine Stp.mk ?_
          go_simp
          go_wp2_with fail
          have hsm := d_check d _ (HDV.out.below hS) E3 HE3.out (by have := HZ.out; omega) (by have := HZ.out; omega)
          simp only [Dk.v] at hsm
          refine hsm.mono ?_
          clear hsm
          rintro e w11 ⟨rfl, b11⟩
          have hSn := below_to hS b11 hS.size
          clear b11
          go_wp2
          refine hK.out _ _ hSn (fun hS => ?_)
          clear hK K hSn
          try go_simp
          refine wpAnyH_ready (rs := [25]) (by kernel_rfl) (by simp) ?_
          refine all_consH rfl (fun K hK => ?_) ?_
          · skip
            refine Stp.mk ?_
            go_simp
            go_wp2_with fail
            have hsm := r_check d _ (HDV.out.below hS) (by have := HZ.out; omega) (by have := HZ.out; omega) E3 HE3.out
            simp only [Dk.v] at hsm
            refine hsm.mono ?_
            clear hsm
            rintro e w12 ⟨rfl, b12⟩
            have hSn := below_to hS b12 hS.size
            clear b12
            go_wp2
            refine hK.out _ _ hSn (fun hS => ?_)
            clear hK K hSn
            refine wpAnyH_take (i := 26) (v := ?_) rfl (by kernel_rfl) (by kernel_rfl) (by kernel_rfl) (fun _ _ _ h => h) (Or.inl ⟨by rfl, ?hyq⟩) hS ?_
            case hyq =>
              intro w hw
              go_simp
              try (with_reducible rfl)
            try go_simp
            try go_simp
            refine wpAnyH_ready (rs := [27]) (by kernel_rfl) (by simp) ?_
            refine all_consH rfl (fun K hK => ?_) ?_
            · skip
              refine Stp.mk ?_
              go_simp
              have hSn := hS
              refine hK.out _ _ hSn (fun hS => ?_)
              clear hK K hSn
              refine wpAnyH_done (by kernel_rfl) ?_ _
              obtain ⟨WB, hWB⟩ : ∃ V, V = w12 := ⟨_, rfl⟩
              have HW2 := Lib.hid (WpS.of (HS2.out.below hS) (HO2.out.below hS))
              have HW6 := Lib.hid (HN6.out.below hS).wp
              have HXB := Lib.hid (HX6.out.below hS HX6.out.lt)
              replace HBV := Lib.hid (below_to HBV.out hS HBV.out.size)
              clear HN6 HN7 HS2 HS3 HO2 HLL HX6 HX7 HXV HDV HF7 HE1 HE2 HE3 hS
              go_wp2
              go_loopw [16] (fun q wr => BlR V5.heap.size s2 w12 q wr) (fun q _ => s2.n - (intOf q).toNat)
              case atStart => exact ⟨0, Nat.zero_le _, rfl, BKp.refl _ _⟩
              case round =>
                obtain ⟨k, hk, rfl, hbk⟩ := hrel
                have hn2 : (s2.n : Int) ≤ 256 := by have := HN2.out; omega
                by_cases hlk : k < s2.n
                · obtain ⟨g, off, x, cur, fz, hsA, hgb, hgh, hgc, hgf⟩ := (hbk.s _ _ HW2.out).at_ hlk
                  have hgl := (Array.getElem?_eq_some_iff.1 hgh).1
                  have k0 : ¬ ((k : Int) < 0) := by omega
                  have k1 : (k : Int) < (s2.n : Int) := by omega
                  have hnx := hbk.putn hgb hgh (i := off + k) (x ^^^ 255)
                  unfold bv at hnx
                  rw [← show bits .xor .u8 (x.toNat : Int) 255 = ((x ^^^ 255).toNat : Int) from xor_u8 x 255] at hnx
                  have HNX := Lib.hid hnx
                  clear hnx hbk hgb hgh
                  rw [hsA]
                  go_wp2
                  go_roundw
                  case rel => exact ⟨k + 1, by omega, by simp, HNX.out⟩
                  case measure => simp [intOf]; omega
                · obtain rfl : k = s2.n := by omega
                  have HBK := Lib.hid hbk
                  have hx6 := hbk.x _ _ _ HXB.out
                  obtain ⟨x0, x1⟩ := hx6.cells
                  have hc := l_wipeK d6 V5.heap.size wr (hbk.k _ _ HW6.out) (Nat.le_trans HBV.out.size hbk.b.size) HF6.out.b HF6.out.w HF6.out.bs HF6.out.ws
                  simp only [Dk.v] at hc
                  have HC := Lib.hid hc
                  clear hc hbk hx6
                  go_wp2_with fail
                  refine HC.out.mono ?_
                  clear HC x0 x1
                  rintro e wy ⟨⟨v, rfl⟩, hbx⟩
                  have HBZ := Lib.hid ((HBV.out.trans HBK.out.b).trans hbx.b)
                  have hnf := HN5.out.below HBZ.out
                  have hdf := HD5.out.below HBZ.out
                  have hc := r_same d1 d wy hnf.ok hdf (by have := HZ.out; have := HQ.out.1; omega) (by have := HZ.out; have := HQ.out.2; omega) (by have := HZ.out; omega) (by have := HZ.out; omega) true (by rw [hnf.cc]; simp)
                  simp only [Dk.v] at hc
                  have HC := Lib.hid hc
                  have hxo := HO5.out.below HBZ.out HO5.out.lt
                  have hxd := HX5.out.below HBZ.out HX5.out.lt
                  obtain ⟨x0, x1⟩ := hxo.cells
                  obtain ⟨y0, y1⟩ := hxd.cells
                  clear hc hnf hdf hxo hxd hbx
                  go_wp2_with fail
                  refine HC.out.mono ?_
                  rintro e wz ⟨rfl, hbx⟩
                  have hbz := HBZ.out.trans (hbx.mono HBZ.out.size)
                  go_wp2
                  go_ret
                  exact ⟨rfl, below_to HB5.out hbz HB5.out.size⟩
            exact AllReadyH.nil
          exact AllReadyH.nil
        exact AllReadyH.nil
      exact AllReadyH.nil
end Go.Proofs.Ytkaklppkmokffaa
