/-
  The walk of DevLeaves, at disks that are not too large.
-/
import Derived.Test.YtkaklppkmokffaaLaw09p
import Derived.Test.YtkaklppkmokffaaRf9l
import Derived.Test.YtkaklppkmokffaaDevQ
namespace Go.Proofs.Ytkaklppkmokffaa
open Go.RowKit
set_option linter.unusedVariables false
set_option linter.unusedSimpArgs false
set_option maxRecDepth 100000

theorem tamper_mayQ {c : Ct} (h : c.May) (a b : Nat) (v : UInt8) : (c.tamper a b v).May := by
  obtain ⟨h1, h2, h3, h4⟩ := h
  refine ⟨by simp [Ct.tamper, h1], fun x hx => ?_, h3, h4⟩
  obtain ⟨k, hk, rfl⟩ := List.mem_iff_getElem.1 hx
  simp only [Ct.tamper, List.length_set] at hk
  simp only [Ct.tamper, List.getElem_set]
  split
  · rename_i e
    subst e
    rw [turnB_len, List.getD_eq_getElem?_getD, List.getElem?_eq_getElem hk, Option.getD_some]
    exact h2 _ (List.getElem_mem hk)
  · exact h2 _ (List.getElem_mem hk)
/-- What an answer's disk takes. -/
structure Fit (d : Dk) : Prop where
  b : (d.nB : Int) ≤ 1000000
  w : (d.nW : Int) ≤ 1000000
  bs : ∀ s ∈ d.bs, (s.n : Int) ≤ 1000000000
  ws : ∀ x ∈ d.ws, (x.s.n : Int) ≤ 1000000000
theorem errG_zeroQ {c : Ct} {is : Bool} (h : errG c is = 0) : c.May := by
  by_cases hm : c.May
  · exact hm
  · rw [errG_bad hm] at h
    cases h
theorem Nw.fit {c : Ct} {E : Int} {base : Nat} {d : Dk} {V : World} (h : Nw (if E = 0 then c else ⟨[], []⟩) base d V) (hm : E = 0 → c.May) : Fit d := by
  by_cases he : E = 0
  · rw [if_pos he] at h
    have hcm := hm he
    have hdm : d.c.May := by rw [h.cc]; exact hcm
    obtain ⟨s1, s2⟩ := hdm.small h.ok
    have h1 := hdm.1
    have h2 := hdm.2.2.1
    rw [Dk.c_b, List.length_map, h.ok.lb] at h1
    rw [Dk.c_w, List.length_map, h.ok.lw] at h2
    exact ⟨by omega, by omega, s1, s2⟩
  · rw [if_neg he] at h
    have h1 : d.bs.map Sl.l = [] := congrArg Ct.b h.cc
    have h2 : d.ws.map Wt.c = [] := congrArg Ct.w h.cc
    have h3 := List.map_eq_nil_iff.1 h1
    have h4 := List.map_eq_nil_iff.1 h2
    have h5 := h.ok.lb
    have h6 := h.ok.lw
    rw [h3] at h5
    rw [h4] at h6
    simp only [List.length_nil] at h5 h6
    exact ⟨by omega, by omega, (by rw [h3]; intro s hs; cases hs), (by rw [h4]; intro s hs; cases hs)⟩
set_option maxHeartbeats 16000000 in
theorem devLeaves_walk (d : Dk) (KA : Option Addr) (kn kc : Nat) (keep : List Bool) (at_ byt : Int) (v : UInt8) (w : World) (hd : d.ok w) (hs : Small d) (hl : keep.length = kn) (hkr : Rd w w.heap.size 1 KA kn (bos keep)) (hat : I64 at_) (hbt : I64 byt) :
    Calls Try.prog 3 #[d.v, .slice KA kn kc, .int .i64 at_, .int .i64 byt, .int .u8 (v.toNat : Int)] w fun e w' => e = .returned (.bool true) ∧ Below w.heap.size w w' := by
  obtain ⟨w1, hw1⟩ : ∃ V, V = w.alloc (.cells #[.slice d.A d.nB d.cB, .slice d.W d.nW d.cW] 25) := ⟨_, rfl⟩
  have hb : Below w.heap.size w w1 := by rw [hw1]; exact below_new' w _
  have hx : DkBox w1 w.heap.size (.slice d.A d.nB d.cB) (.slice d.W d.nW d.cW) := by rw [hw1]; exact DkBox.new w _ _
  have hgr := g_great d w1 (hd.below hb)
  rw [hw1] at hgr
  have HGR := Lib.hid hgr
  have HX := Lib.hid hx
  have HB := Lib.hid hb
  have HD := Lib.hid hd
  have HS := Lib.hid hs
  have HKL := Lib.hid hl
  have HKR := Lib.hid hkr
  have HAT := Lib.hid hat
  have HBT := Lib.hid hbt
  clear hx hb hgr hd hs hl hkr hat hbt
  simp only [Dk.v] at *
  go_enter Try.func3, Try.ntmps3
  go_wp2_with fail
  refine HGR.out.mono ?_
  rw [← hw1]
  clear hw1 HGR
  rintro e w2 ⟨v0, rfl, hv, b2⟩
  have HX2 := Lib.hid (HX.out.below b2 HX.out.lt)
  have HB2 := Lib.hid (below_to HB.out b2 HB.out.size)
  have HV := Lib.hid hv
  clear b2 HX HB hv
  cases v0 with
  | true =>
    go_wp2
    go_ret
    exact ⟨rfl, HB2.out⟩
  | false =>
    by_cases hk5 : 5000 < (kn : Int)
    · go_wp2
      go_ret
      exact ⟨rfl, HB2.out⟩
    · have hsz : ((d.nB : Int) ≤ 500 ∧ (d.nW : Int) ≤ 4106) := HV.out (by trivial)
      have HZ := Lib.hid hsz
      have HK5 := Lib.hid (show (kn : Int) ≤ 1000000 by omega)
      clear hsz HV
      obtain ⟨x0, x1⟩ := HX2.out.cells
      have htw := r_twin d w2 (HD.out.below HB2.out) (by have := HZ.out; omega) (by have := HZ.out; omega) HS.out.bs HS.out.ws
      simp only [Dk.v] at htw
      have HTW := Lib.hid htw
      clear htw
      go_wp2_with fail
      refine HTW.out.mono ?_
      rintro e w4 ⟨d1, rfl, hn1, b4⟩
      obtain ⟨V5, hV⟩ : ∃ V, V = w4.alloc (.cells #[.slice d1.A d1.nB d1.cB, .slice d1.W d1.nW d1.cW] 25) := ⟨_, rfl⟩
      have hb5 : Below w4.heap.size w4 V5 := by rw [hV]; exact below_new' w4 _
      have h5 : DkBox V5 w4.heap.size (.slice d1.A d1.nB d1.cB) (.slice d1.W d1.nW d1.cW) := by rw [hV]; exact DkBox.new w4 _ _
      have hx4 := HX2.out.below b4 HX2.out.lt
      have HX5 := Lib.hid (hx4.below hb5 hx4.lt)
      have HO5 := Lib.hid h5
      have HN5 := Lib.hid (hn1.below hb5)
      have HB5 := Lib.hid (below_to (below_to HB2.out b4 HB2.out.size) hb5 (below_to HB2.out b4 HB2.out.size).size)
      have HBV := Lib.hid (Below.refl V5.heap.size V5)
      have HD5 := Lib.hid (HD.out.below HB5.out)
      have HQ := Lib.hid (c_sizes HD5.out HN5.out.ok HN5.out.cc)
      have HK := Lib.hid ((HKR.out.below HB5.out).more HB5.out.size)
      have HSM := Lib.hid (HS.out.of_c HD5.out HN5.out.ok HN5.out.cc)
      obtain ⟨E1, hE1⟩ : ∃ E, E = errG d.c true := ⟨_, rfl⟩
      obtain ⟨E2, hE2⟩ : ∃ E, E = errG d.c (decide (kn = d.nW)) := ⟨_, rfl⟩
      obtain ⟨E3, hE3⟩ : ∃ E, E = errG d.c (decide ((0 ≤ at_ ∧ at_ < 256) ∧ 0 ≤ byt ∧ byt < 256)) := ⟨_, rfl⟩
      have HE1 := Lib.hid hE1
      have HE2 := Lib.hid hE2
      have HE3 := Lib.hid hE3
      clear hE1 hE2 hE3 hn1 b4 hb5 h5 hx4 x0 x1 HX2 HB2 HTW hk5 HKR
      have hc := d_flush d1 V5 (HN5.out.below HBV.out).ok (by have := HZ.out; have := HQ.out.1; omega) (by have := HZ.out; have := HQ.out.2; omega)  E1 (by rw [HN5.out.cc]; exact HE1.out)
      rw [HN5.out.cc] at hc
      simp only [Dk.v] at hc
      rw [hV] at hc
      have HC := Lib.hid hc
      have HVV := Lib.hid hV
      clear hc hV
      go_wp2_with fail
      refine HC.out.mono ?_
      rw [← HVV.out]
      clear HVV HC
      rintro e w20 ⟨d2, rfl, hn, hb1⟩
      obtain ⟨V20, hV⟩ : ∃ V, V = w20.alloc (.cells #[.slice d2.A d2.nB d2.cB, .slice d2.W d2.nW d2.cW] 25) := ⟨_, rfl⟩
      have hb2 : Below w20.heap.size w20 V20 := by rw [hV]; exact below_new' _ _
      have hbx := below_to hb1 hb2 hb1.size
      have HXr2 := Lib.hid (show DkBox V20 w20.heap.size (.slice d2.A d2.nB d2.cB) (.slice d2.W d2.nW d2.cW) from by rw [hV]; exact DkBox.new _ _ _)
      have HNr2 := Lib.hid ((hn.below hb2).mono HBV.out.size)
      have hxn := HX5.out.below (below_to HBV.out hb1 HBV.out.size) HX5.out.lt
      obtain ⟨x0, x1⟩ := hxn.cells
      have xl := hxn.lt
      clear hxn
      replace HBV := Lib.hid (below_to HBV.out hbx HBV.out.size)
      clear hn hb1 hb2 hbx
      have hc := r_flush d V20 (HD5.out.below HBV.out) (by have := HZ.out; omega) (by have := HZ.out; omega)  E1 HE1.out
      simp only [Dk.v] at hc
      rw [hV] at hc
      have HC := Lib.hid hc
      have HVV := Lib.hid hV
      clear hc hV
      go_wp2_with fail
      refine HC.out.mono ?_
      rw [← HVV.out]
      clear HVV HC
      rintro e w30 ⟨d3, rfl, hn, hb1⟩
      clear x0 x1 xl
      obtain ⟨V30, hV⟩ : ∃ V, V = w30.alloc (.cells #[.slice d3.A d3.nB d3.cB, .slice d3.W d3.nW d3.cW] 25) := ⟨_, rfl⟩
      have hb2 : Below w30.heap.size w30 V30 := by rw [hV]; exact below_new' _ _
      have hbx := below_to hb1 hb2 hb1.size
      have HXr3 := Lib.hid (show DkBox V30 w30.heap.size (.slice d3.A d3.nB d3.cB) (.slice d3.W d3.nW d3.cW) from by rw [hV]; exact DkBox.new _ _ _)
      have HNr3 := Lib.hid ((hn.below hb2).mono HBV.out.size)
      have hxn := HO5.out.below (below_to HBV.out hb1 HBV.out.size) HO5.out.lt
      obtain ⟨x0, x1⟩ := hxn.cells
      have xl := hxn.lt
      clear hxn
      replace HXr2 := Lib.hid (HXr2.out.below hbx HXr2.out.lt)
      replace HNr2 := Lib.hid (HNr2.out.below hbx)
      replace HBV := Lib.hid (below_to HBV.out hbx HBV.out.size)
      clear hn hb1 hb2 hbx
      have hc := d_crash d1 V30 (HN5.out.below HBV.out).ok (by have := HZ.out; have := HQ.out.1; omega) (by have := HZ.out; have := HQ.out.2; omega) KA kn kc keep HKL.out ((HK.out.below HBV.out).more HBV.out.size) HK5.out E2 (by rw [HN5.out.cc, HQ.out.2]; exact HE2.out)
      rw [HN5.out.cc] at hc
      simp only [Dk.v] at hc
      rw [hV] at hc
      have HC := Lib.hid hc
      have HVV := Lib.hid hV
      clear hc hV
      go_wp2_with fail
      refine HC.out.mono ?_
      rw [← HVV.out]
      clear HVV HC
      rintro e w40 ⟨d4, rfl, hn, hb1⟩
      clear x0 x1 xl
      obtain ⟨V40, hV⟩ : ∃ V, V = w40.alloc (.cells #[.slice d4.A d4.nB d4.cB, .slice d4.W d4.nW d4.cW] 25) := ⟨_, rfl⟩
      have hb2 : Below w40.heap.size w40 V40 := by rw [hV]; exact below_new' _ _
      have hbx := below_to hb1 hb2 hb1.size
      have HXr4 := Lib.hid (show DkBox V40 w40.heap.size (.slice d4.A d4.nB d4.cB) (.slice d4.W d4.nW d4.cW) from by rw [hV]; exact DkBox.new _ _ _)
      have HNr4 := Lib.hid ((hn.below hb2).mono HBV.out.size)
      have hxn := HX5.out.below (below_to HBV.out hb1 HBV.out.size) HX5.out.lt
      obtain ⟨x0, x1⟩ := hxn.cells
      have xl := hxn.lt
      clear hxn
      replace HXr2 := Lib.hid (HXr2.out.below hbx HXr2.out.lt)
      replace HNr2 := Lib.hid (HNr2.out.below hbx)
      replace HXr3 := Lib.hid (HXr3.out.below hbx HXr3.out.lt)
      replace HNr3 := Lib.hid (HNr3.out.below hbx)
      replace HBV := Lib.hid (below_to HBV.out hbx HBV.out.size)
      clear hn hb1 hb2 hbx
      have hc := r_crash d V40 (HD5.out.below HBV.out) (by have := HZ.out; omega) (by have := HZ.out; omega) KA kn kc keep HKL.out ((HK.out.below HBV.out).more HBV.out.size) HK5.out E2 HE2.out
      simp only [Dk.v] at hc
      rw [hV] at hc
      have HC := Lib.hid hc
      have HVV := Lib.hid hV
      clear hc hV
      go_wp2_with fail
      refine HC.out.mono ?_
      rw [← HVV.out]
      clear HVV HC
      rintro e w50 ⟨d5, rfl, hn, hb1⟩
      clear x0 x1 xl
      obtain ⟨V50, hV⟩ : ∃ V, V = w50.alloc (.cells #[.slice d5.A d5.nB d5.cB, .slice d5.W d5.nW d5.cW] 25) := ⟨_, rfl⟩
      have hb2 : Below w50.heap.size w50 V50 := by rw [hV]; exact below_new' _ _
      have hbx := below_to hb1 hb2 hb1.size
      have HXr5 := Lib.hid (show DkBox V50 w50.heap.size (.slice d5.A d5.nB d5.cB) (.slice d5.W d5.nW d5.cW) from by rw [hV]; exact DkBox.new _ _ _)
      have HNr5 := Lib.hid ((hn.below hb2).mono HBV.out.size)
      have hxn := HO5.out.below (below_to HBV.out hb1 HBV.out.size) HO5.out.lt
      obtain ⟨x0, x1⟩ := hxn.cells
      have xl := hxn.lt
      clear hxn
      replace HXr2 := Lib.hid (HXr2.out.below hbx HXr2.out.lt)
      replace HNr2 := Lib.hid (HNr2.out.below hbx)
      replace HXr3 := Lib.hid (HXr3.out.below hbx HXr3.out.lt)
      replace HNr3 := Lib.hid (HNr3.out.below hbx)
      replace HXr4 := Lib.hid (HXr4.out.below hbx HXr4.out.lt)
      replace HNr4 := Lib.hid (HNr4.out.below hbx)
      replace HBV := Lib.hid (below_to HBV.out hbx HBV.out.size)
      clear hn hb1 hb2 hbx
      have hc := d_tamper d1 V50 (HN5.out.below HBV.out).ok (by have := HZ.out; have := HQ.out.1; omega) (by have := HZ.out; have := HQ.out.2; omega) at_ byt v HAT.out HBT.out E3 (by rw [HN5.out.cc]; exact HE3.out)
      rw [HN5.out.cc] at hc
      simp only [Dk.v] at hc
      rw [hV] at hc
      have HC := Lib.hid hc
      have HVV := Lib.hid hV
      clear hc hV
      go_wp2_with fail
      refine HC.out.mono ?_
      rw [← HVV.out]
      clear HVV HC
      rintro e w60 ⟨d6, rfl, hn, hb1⟩
      clear x0 x1 xl
      obtain ⟨V60, hV⟩ : ∃ V, V = w60.alloc (.cells #[.slice d6.A d6.nB d6.cB, .slice d6.W d6.nW d6.cW] 25) := ⟨_, rfl⟩
      have hb2 : Below w60.heap.size w60 V60 := by rw [hV]; exact below_new' _ _
      have hbx := below_to hb1 hb2 hb1.size
      have HXr6 := Lib.hid (show DkBox V60 w60.heap.size (.slice d6.A d6.nB d6.cB) (.slice d6.W d6.nW d6.cW) from by rw [hV]; exact DkBox.new _ _ _)
      have HNr6 := Lib.hid ((hn.below hb2).mono HBV.out.size)
      have hxn := HX5.out.below (below_to HBV.out hb1 HBV.out.size) HX5.out.lt
      obtain ⟨x0, x1⟩ := hxn.cells
      have xl := hxn.lt
      clear hxn
      replace HXr2 := Lib.hid (HXr2.out.below hbx HXr2.out.lt)
      replace HNr2 := Lib.hid (HNr2.out.below hbx)
      replace HXr3 := Lib.hid (HXr3.out.below hbx HXr3.out.lt)
      replace HNr3 := Lib.hid (HNr3.out.below hbx)
      replace HXr4 := Lib.hid (HXr4.out.below hbx HXr4.out.lt)
      replace HNr4 := Lib.hid (HNr4.out.below hbx)
      replace HXr5 := Lib.hid (HXr5.out.below hbx HXr5.out.lt)
      replace HNr5 := Lib.hid (HNr5.out.below hbx)
      replace HBV := Lib.hid (below_to HBV.out hbx HBV.out.size)
      clear hn hb1 hb2 hbx
      have hc := r_tamper d V60 (HD5.out.below HBV.out) (by have := HZ.out; omega) (by have := HZ.out; omega) at_ byt v E3 HE3.out
      simp only [Dk.v] at hc
      rw [hV] at hc
      have HC := Lib.hid hc
      have HVV := Lib.hid hV
      clear hc hV
      go_wp2_with fail
      refine HC.out.mono ?_
      rw [← HVV.out]
      clear HVV HC
      rintro e w70 ⟨d7, rfl, hn, hb1⟩
      clear x0 x1 xl
      obtain ⟨V70, hV⟩ : ∃ V, V = w70.alloc (.cells #[.slice d7.A d7.nB d7.cB, .slice d7.W d7.nW d7.cW] 25) := ⟨_, rfl⟩
      have hb2 : Below w70.heap.size w70 V70 := by rw [hV]; exact below_new' _ _
      have hbx := below_to hb1 hb2 hb1.size
      have HXr7 := Lib.hid (show DkBox V70 w70.heap.size (.slice d7.A d7.nB d7.cB) (.slice d7.W d7.nW d7.cW) from by rw [hV]; exact DkBox.new _ _ _)
      have HNr7 := Lib.hid ((hn.below hb2).mono HBV.out.size)
      have hxn := HXr2.out.below hb1 HXr2.out.lt
      obtain ⟨x0, x1⟩ := hxn.cells
      have xl := hxn.lt
      have hyn := HXr3.out.below hb1 HXr3.out.lt
      obtain ⟨y0, y1⟩ := hyn.cells
      have yl := hyn.lt
      clear hxn hyn
      replace HXr2 := Lib.hid (HXr2.out.below hbx HXr2.out.lt)
      replace HNr2 := Lib.hid (HNr2.out.below hbx)
      replace HXr3 := Lib.hid (HXr3.out.below hbx HXr3.out.lt)
      replace HNr3 := Lib.hid (HNr3.out.below hbx)
      replace HXr4 := Lib.hid (HXr4.out.below hbx HXr4.out.lt)
      replace HNr4 := Lib.hid (HNr4.out.below hbx)
      replace HXr5 := Lib.hid (HXr5.out.below hbx HXr5.out.lt)
      replace HNr5 := Lib.hid (HNr5.out.below hbx)
      replace HXr6 := Lib.hid (HXr6.out.below hbx HXr6.out.lt)
      replace HNr6 := Lib.hid (HNr6.out.below hbx)
      replace HBV := Lib.hid (below_to HBV.out hbx HBV.out.size)
      clear hn hb1 hb2 hbx
      have f1 := HNr2.out.fit (E := E1) (fun h => Ct.left_may (errG_zeroQ (HE1.out.symm.trans h)) _)
      have f2 := HNr3.out.fit (E := E1) (fun h => Ct.left_may (errG_zeroQ (HE1.out.symm.trans h)) _)
      have hc := r_same d2 d3 V70 HNr2.out.ok HNr3.out.ok f1.b f1.w f2.b f2.w true (by rw [HNr2.out.cc, HNr3.out.cc]; simp)
      simp only [Dk.v] at hc
      rw [hV] at hc
      have HVV := Lib.hid hV
      clear hV
      have HC := Lib.hid hc
      clear hc f1 f2
      go_wp2_with fail
      refine HC.out.mono ?_
      rw [← HVV.out]
      clear HVV
      clear HC x0 x1 xl y0 y1 yl
      rintro e V80 ⟨rfl, hbx⟩
      replace HXr2 := Lib.hid (HXr2.out.below hbx HXr2.out.lt)
      replace HNr2 := Lib.hid (HNr2.out.below hbx)
      replace HXr3 := Lib.hid (HXr3.out.below hbx HXr3.out.lt)
      replace HNr3 := Lib.hid (HNr3.out.below hbx)
      replace HXr4 := Lib.hid (HXr4.out.below hbx HXr4.out.lt)
      replace HNr4 := Lib.hid (HNr4.out.below hbx)
      replace HXr5 := Lib.hid (HXr5.out.below hbx HXr5.out.lt)
      replace HNr5 := Lib.hid (HNr5.out.below hbx)
      replace HXr6 := Lib.hid (HXr6.out.below hbx HXr6.out.lt)
      replace HNr6 := Lib.hid (HNr6.out.below hbx)
      replace HXr7 := Lib.hid (HXr7.out.below hbx HXr7.out.lt)
      replace HNr7 := Lib.hid (HNr7.out.below hbx)
      replace HBV := Lib.hid (below_to HBV.out hbx HBV.out.size)
      clear hbx
      obtain ⟨x0, x1⟩ := HXr4.out.cells
      have xl := HXr4.out.lt
      obtain ⟨y0, y1⟩ := HXr5.out.cells
      have yl := HXr5.out.lt
      have f1 := HNr4.out.fit (E := E2) (fun h => Ct.left_may (errG_zeroQ (HE2.out.symm.trans h)) _)
      have f2 := HNr5.out.fit (E := E2) (fun h => Ct.left_may (errG_zeroQ (HE2.out.symm.trans h)) _)
      have hc := r_same d4 d5 V80 HNr4.out.ok HNr5.out.ok f1.b f1.w f2.b f2.w true (by rw [HNr4.out.cc, HNr5.out.cc]; simp)
      simp only [Dk.v] at hc
      have HC := Lib.hid hc
      clear hc f1 f2
      go_wp2_with fail
      refine HC.out.mono ?_
      clear HC x0 x1 xl y0 y1 yl
      rintro e V81 ⟨rfl, hbx⟩
      replace HXr2 := Lib.hid (HXr2.out.below hbx HXr2.out.lt)
      replace HNr2 := Lib.hid (HNr2.out.below hbx)
      replace HXr3 := Lib.hid (HXr3.out.below hbx HXr3.out.lt)
      replace HNr3 := Lib.hid (HNr3.out.below hbx)
      replace HXr4 := Lib.hid (HXr4.out.below hbx HXr4.out.lt)
      replace HNr4 := Lib.hid (HNr4.out.below hbx)
      replace HXr5 := Lib.hid (HXr5.out.below hbx HXr5.out.lt)
      replace HNr5 := Lib.hid (HNr5.out.below hbx)
      replace HXr6 := Lib.hid (HXr6.out.below hbx HXr6.out.lt)
      replace HNr6 := Lib.hid (HNr6.out.below hbx)
      replace HXr7 := Lib.hid (HXr7.out.below hbx HXr7.out.lt)
      replace HNr7 := Lib.hid (HNr7.out.below hbx)
      replace HBV := Lib.hid (below_to HBV.out hbx HBV.out.size)
      clear hbx
      obtain ⟨x0, x1⟩ := HXr6.out.cells
      have xl := HXr6.out.lt
      obtain ⟨y0, y1⟩ := HXr7.out.cells
      have yl := HXr7.out.lt
      have f1 := HNr6.out.fit (E := E3) (fun h => tamper_mayQ (errG_zeroQ (HE3.out.symm.trans h)) _ _ _)
      have f2 := HNr7.out.fit (E := E3) (fun h => tamper_mayQ (errG_zeroQ (HE3.out.symm.trans h)) _ _ _)
      have hc := r_same d6 d7 V81 HNr6.out.ok HNr7.out.ok f1.b f1.w f2.b f2.w true (by rw [HNr6.out.cc, HNr7.out.cc]; simp)
      simp only [Dk.v] at hc
      have HC := Lib.hid hc
      clear hc f1 f2
      go_wp2_with fail
      refine HC.out.mono ?_
      clear HC x0 x1 xl y0 y1 yl
      rintro e V82 ⟨rfl, hbx⟩
      replace HXr2 := Lib.hid (HXr2.out.below hbx HXr2.out.lt)
      replace HNr2 := Lib.hid (HNr2.out.below hbx)
      replace HXr3 := Lib.hid (HXr3.out.below hbx HXr3.out.lt)
      replace HNr3 := Lib.hid (HNr3.out.below hbx)
      replace HXr4 := Lib.hid (HXr4.out.below hbx HXr4.out.lt)
      replace HNr4 := Lib.hid (HNr4.out.below hbx)
      replace HXr5 := Lib.hid (HXr5.out.below hbx HXr5.out.lt)
      replace HNr5 := Lib.hid (HNr5.out.below hbx)
      replace HXr6 := Lib.hid (HXr6.out.below hbx HXr6.out.lt)
      replace HNr6 := Lib.hid (HNr6.out.below hbx)
      replace HXr7 := Lib.hid (HXr7.out.below hbx HXr7.out.lt)
      replace HNr7 := Lib.hid (HNr7.out.below hbx)
      replace HBV := Lib.hid (below_to HBV.out hbx HBV.out.size)
      clear hbx
      have HF2 := Lib.hid (HNr2.out.fit (E := E1) (fun h => Ct.left_may (errG_zeroQ (HE1.out.symm.trans h)) _))
      have HW2 := Lib.hid HNr2.out.wp
      have HF4 := Lib.hid (HNr4.out.fit (E := E2) (fun h => Ct.left_may (errG_zeroQ (HE2.out.symm.trans h)) _))
      have HW4 := Lib.hid HNr4.out.wp
      have HF6 := Lib.hid (HNr6.out.fit (E := E3) (fun h => tamper_mayQ (errG_zeroQ (HE3.out.symm.trans h)) _ _ _))
      have HW6 := Lib.hid HNr6.out.wp
      clear HNr2 HNr3 HNr4 HNr5 HNr6 HNr7 HXr3 HXr5 HXr7 HE1 HE2 HE3
      have hc := l_wipeK d2 V5.heap.size V82 HW2.out HBV.out.size HF2.out.b HF2.out.w HF2.out.bs HF2.out.ws
      simp only [Dk.v] at hc
      have HC := Lib.hid hc
      obtain ⟨x0, x1⟩ := HXr2.out.cells
      clear hc
      go_wp2_with fail
      refine HC.out.mono ?_
      clear HC x0 x1
      rintro e V90 ⟨⟨v, rfl⟩, hbx⟩
      replace HBV := Lib.hid (HBV.out.trans hbx.b)
      replace HXr4 := Lib.hid (hbx.x _ _ _ HXr4.out)
      replace HW4 := Lib.hid (hbx.k _ _ HW4.out)
      replace HXr6 := Lib.hid (hbx.x _ _ _ HXr6.out)
      replace HW6 := Lib.hid (hbx.k _ _ HW6.out)
      clear hbx
      have hc := l_wipeK d4 V5.heap.size V90 HW4.out HBV.out.size HF4.out.b HF4.out.w HF4.out.bs HF4.out.ws
      simp only [Dk.v] at hc
      have HC := Lib.hid hc
      obtain ⟨x0, x1⟩ := HXr4.out.cells
      clear hc
      go_wp2_with fail
      refine HC.out.mono ?_
      clear HC x0 x1
      rintro e V91 ⟨⟨v, rfl⟩, hbx⟩
      replace HBV := Lib.hid (HBV.out.trans hbx.b)
      replace HXr6 := Lib.hid (hbx.x _ _ _ HXr6.out)
      replace HW6 := Lib.hid (hbx.k _ _ HW6.out)
      clear hbx
      have hc := l_wipeK d6 V5.heap.size V91 HW6.out HBV.out.size HF6.out.b HF6.out.w HF6.out.bs HF6.out.ws
      simp only [Dk.v] at hc
      have HC := Lib.hid hc
      obtain ⟨x0, x1⟩ := HXr6.out.cells
      clear hc
      go_wp2_with fail
      refine HC.out.mono ?_
      clear HC x0 x1
      rintro e V92 ⟨⟨v, rfl⟩, hbx⟩
      replace HBV := Lib.hid (HBV.out.trans hbx.b)
      clear hbx
      have hnf := HN5.out.below HBV.out
      have hdf := HD5.out.below HBV.out
      have hc := r_same d1 d V92 hnf.ok hdf (by have := HZ.out; have := HQ.out.1; omega) (by have := HZ.out; have := HQ.out.2; omega) (by have := HZ.out; omega) (by have := HZ.out; omega) true (by rw [hnf.cc]; simp)
      simp only [Dk.v] at hc
      have HC := Lib.hid hc
      have hxo := HO5.out.below HBV.out HO5.out.lt
      have hxd := HX5.out.below HBV.out HX5.out.lt
      obtain ⟨x0, x1⟩ := hxo.cells
      obtain ⟨y0, y1⟩ := hxd.cells
      clear hc hnf hdf hxo hxd
      go_wp2_with fail
      refine HC.out.mono ?_
      rintro e wz ⟨rfl, hbx⟩
      have hbz := HBV.out.trans (hbx.mono HBV.out.size)
      go_wp2
      go_ret
      exact ⟨rfl, below_to HB5.out hbz HB5.out.size⟩
end Go.Proofs.Ytkaklppkmokffaa
