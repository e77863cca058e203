/-
  The walk of DevPairs, at disks that are not too large.
-/
import Derived.Test.YtkaklppkmokffaaRf9a
import Derived.Test.YtkaklppkmokffaaRf9b
import Derived.Test.YtkaklppkmokffaaRf9d
namespace Go.Proofs.Ytkaklppkmokffaa
open Go.RowKit
set_option linter.unusedVariables false
set_option linter.unusedSimpArgs false
set_option maxRecDepth 100000

/-- A disk that is not too large. -/
structure Small (d : Dk) : Prop where
  bs : ∀ s ∈ d.bs, (s.n : Int) ≤ 1000000000
  tot : (d.c.b.flatten.length : Int) ≤ 1000000000
  ws : ∀ x ∈ d.ws, (x.s.n : Int) ≤ 1000000000
theorem Small.of_c {d d' : Dk} {w w' : World} (h : Small d) (hd : d.ok w) (hd' : d'.ok w') (hc : d'.c = d.c) : Small d' := by
  have hb : d'.bs.map Sl.l = d.bs.map Sl.l := congrArg Ct.b hc
  have hw : d'.ws.map Wt.c = d.ws.map Wt.c := congrArg Ct.w hc
  refine ⟨fun s hs => ?_, by rw [hc]; exact h.tot, fun x hx => ?_⟩
  · have h1 : s.l ∈ d.bs.map Sl.l := by rw [← hb]; exact List.mem_map_of_mem hs
    obtain ⟨t, ht, e⟩ := List.mem_map.1 h1
    have h2 := h.bs t ht
    have h3 := (hd.sb t ht).1
    have h4 := (hd'.sb s hs).1
    rw [e] at h3
    omega
  · have h1 : x.c ∈ d.ws.map Wt.c := by rw [← hw]; exact List.mem_map_of_mem hx
    obtain ⟨t, ht, e⟩ := List.mem_map.1 h1
    have h2 := h.ws t ht
    have h3 := (hd.sw t ht).1.1
    have h4 := (hd'.sw x hx).1.1
    have h5 : t.s.l = x.s.l := congrArg Prod.snd e
    rw [h5] at h3
    omega
theorem c_sizes {d d' : Dk} {w w' : World} (hd : d.ok w) (hd' : d'.ok w') (hc : d'.c = d.c) : d'.nB = d.nB ∧ d'.nW = d.nW := by
  have h1 := congrArg (fun c => c.b.length) hc
  have h2 := congrArg (fun c => c.w.length) hc
  simp only [Dk.c, List.length_map, hd.lb, hd'.lb, hd.lw, hd'.lw] at h1 h2
  exact ⟨h1, h2⟩
structure PaS (a b c : Nat) (d o x : Dk) (V : World) : Prop where
  a : DkBox V a (.slice d.A d.nB d.cB) (.slice d.W d.nW d.cW)
  b : DkBox V b (.slice o.A o.nB o.cB) (.slice o.W o.nW o.cW)
  c : DkBox V c (.slice x.A x.nB x.cB) (.slice x.W x.nW x.cW)
theorem PaS.below {a b c : Nat} {d o x : Dk} {V V' : World} (h : PaS a b c d o x V) (hb : Below V.heap.size V V') : PaS a b c d o x V' := ⟨h.a.below hb h.a.lt, h.b.below hb h.b.lt, h.c.below hb h.c.lt⟩
set_option maxHeartbeats 4000000 in
theorem devPairs_walk (d o : Dk) (w : World) (hd : d.ok w) (ho : o.ok w) (hs : Small d) :
    Calls Try.prog 5 #[d.v, o.v] w fun e w' => e = .returned (.bool true) ∧ Below w.heap.size w w' := by
  obtain ⟨w1, hw1⟩ : ∃ V, V = (w.alloc (.cells #[.slice d.A d.nB d.cB, .slice d.W d.nW d.cW] 25)).alloc (.cells #[.slice o.A o.nB o.cB, .slice o.W o.nW o.cW] 25) := ⟨_, rfl⟩
  have hb : Below w.heap.size w w1 := by rw [hw1]; exact (below_new' w _).alloc (by simp) _
  have hx : DkBox w1 w.heap.size (.slice d.A d.nB d.cB) (.slice d.W d.nW d.cW) := by rw [hw1]; exact (DkBox.new w _ _).alloc _
  have hy : DkBox w1 (w.heap.size + 1) (.slice o.A o.nB o.cB) (.slice o.W o.nW o.cW) := by
    rw [hw1]
    have := DkBox.new (w.alloc (.cells #[.slice d.A d.nB d.cB, .slice d.W d.nW d.cW] 25)) (.slice o.A o.nB o.cB) (.slice o.W o.nW o.cW)
    rw [World.size_alloc] at this
    exact this
  have hgr := g_great d w1 (hd.below hb)
  rw [hw1] at hgr
  have HGR := Lib.hid hgr
  have HX := Lib.hid hx
  have HY := Lib.hid hy
  have HB := Lib.hid hb
  have HD := Lib.hid hd
  have HO := Lib.hid ho
  have HS := Lib.hid hs
  clear hx hy hb hgr hd ho hs
  simp only [Dk.v] at *
  go_enter Try.func5, Try.ntmps5
  go_wp2_with fail
  refine HGR.out.mono ?_
  rw [← hw1]
  clear hw1 HGR
  rintro e w2 ⟨v, rfl, hv, b2⟩
  have HX2 := Lib.hid (HX.out.below b2 HX.out.lt)
  have HY2 := Lib.hid (HY.out.below b2 HY.out.lt)
  have HB2 := Lib.hid (below_to HB.out b2 HB.out.size)
  have HV := Lib.hid hv
  clear b2 HX HY HB hv
  obtain ⟨x0, x1⟩ := HX2.out.cells
  obtain ⟨y0, y1⟩ := HY2.out.cells
  cases v with
  | true =>
    go_wp2
    go_ret
    exact ⟨rfl, HB2.out⟩
  | false =>
    go_wp2_with fail
    refine (g_great o w2 (HO.out.below HB2.out)).mono ?_
    rintro e w3 ⟨v, rfl, hv, b3⟩
    have HX3 := Lib.hid (HX2.out.below b3 HX2.out.lt)
    have HY3 := Lib.hid (HY2.out.below b3 HY2.out.lt)
    have HB3 := Lib.hid (below_to HB2.out b3 HB2.out.size)
    have HV' := Lib.hid hv
    clear b3 HX2 HY2 HB2 hv x0 x1 y0 y1
    obtain ⟨x0, x1⟩ := HX3.out.cells
    cases v with
    | true =>
      go_wp2
      go_ret
      exact ⟨rfl, HB3.out⟩
    | false =>
      have hsz : ((d.nB : Int) ≤ 500 ∧ (d.nW : Int) ≤ 4106) ∧ (o.nB : Int) ≤ 500 ∧ (o.nW : Int) ≤ 4106 := ⟨HV.out (by trivial), HV'.out (by trivial)⟩
      have HZ := Lib.hid hsz
      clear hsz HV HV'
      have htw := r_twin d w3 (HD.out.below HB3.out) (by have := HZ.out; omega) (by have := HZ.out; omega) HS.out.bs HS.out.ws
      simp only [Dk.v] at htw
      have HTW := Lib.hid htw
      clear htw
      go_wp2_with fail
      refine HTW.out.mono ?_
      rintro e w4 ⟨d1, rfl, hn1, b4⟩
      obtain ⟨V5, hV5⟩ : ∃ V, V = w4.alloc (.cells #[.slice d1.A d1.nB d1.cB, .slice d1.W d1.nW d1.cW] 25) := ⟨_, rfl⟩
      have hb5 : Below w4.heap.size w4 V5 := by rw [hV5]; exact below_new' w4 _
      have h5 : DkBox V5 w4.heap.size (.slice d1.A d1.nB d1.cB) (.slice d1.W d1.nW d1.cW) := by rw [hV5]; exact DkBox.new w4 _ _
      have hx4 := HX3.out.below b4 HX3.out.lt
      have HX5 := Lib.hid (hx4.below hb5 hx4.lt)
      have hy4 := HY3.out.below b4 HY3.out.lt
      have HY5 := Lib.hid (hy4.below hb5 hy4.lt)
      have HT5 := Lib.hid h5
      have HN5 := Lib.hid (hn1.below hb5)
      have HB5 := Lib.hid (below_to (below_to HB3.out b4 HB3.out.size) hb5 (below_to HB3.out b4 HB3.out.size).size)
      have HD5 := Lib.hid (HD.out.below HB5.out)
      have HO5 := Lib.hid (HO.out.below HB5.out)
      have hsm1 := HS.out.of_c HD5.out HN5.out.ok HN5.out.cc
      obtain ⟨q1, q2⟩ := c_sizes HD5.out HN5.out.ok HN5.out.cc
      have htw := d_twin d1 V5 HN5.out.ok (by have := HZ.out; omega) (by have := HZ.out; omega) hsm1.tot hsm1.ws
      rw [hV5] at htw
      simp only [Dk.v] at htw
      have HTW5 := Lib.hid htw
      clear htw hsm1 q1 q2 hb5 h5 hx4 hy4 hn1 b4 x0 x1 HX3 HY3 HB3 HTW
      go_wp2_with fail
      refine HTW5.out.mono ?_
      rw [← hV5]
      clear hV5 HTW5
      rintro e w6 ⟨d2, he, htw2, b6⟩
      unfold Dk.v at he
      subst he
      obtain ⟨V7, hV7⟩ : ∃ V, V = w6.alloc (.cells #[.slice d2.A d2.nB d2.cB, .slice d2.W d2.nW d2.cW] 25) := ⟨_, rfl⟩
      have hb7 : Below w6.heap.size w6 V7 := by rw [hV7]; exact below_new' w6 _
      have h7 : DkBox V7 w6.heap.size (.slice d2.A d2.nB d2.cB) (.slice d2.W d2.nW d2.cW) := by rw [hV7]; exact DkBox.new w6 _ _
      have hb57 := below_to b6 hb7 b6.size
      have hn7 := htw2.nw.below hb7
      rw [HN5.out.cc] at hn7
      have HN7 := Lib.hid hn7
      have HB57 := Lib.hid hb57
      have hS0 : PaS w.heap.size (w.heap.size + 1) w6.heap.size d o d2 V7.drew := ⟨HX5.out.below hb57.drew HX5.out.lt, HY5.out.below hb57.drew HY5.out.lt, h7⟩
      have HS0 := Lib.hid hS0
      have HW7 := Lib.hid hV7
      clear hV7 hb7 h7 hb57 hn7 hS0 htw2 b6
      go_wp2
      rw [← HW7.out]
      clear HW7
      have hbd := HB57.out.drew
      have HBD := Lib.hid hbd
      have hnd := HN7.out.below ((Below.refl _ _).drew)
      have HND := Lib.hid hnd
      clear hbd hnd HN7 HB57
      refine wp_region_held_drew (S := PaS w.heap.size (w.heap.size + 1) w6.heap.size d o d2) (by kernel_rfl) HS0.out (fun hS => ?_)
      refine wpAnyH_take (i := 0) (v := ?_) rfl (by kernel_rfl) (by kernel_rfl) (by kernel_rfl) (fun _ _ _ h => h) (Or.inl ⟨by rfl, ?hyq⟩) hS ?_
      case hyq =>
        intro w hw
        obtain ⟨k0, k1⟩ := hw.a.cells
        go_simp
        try (with_reducible rfl)
      try go_simp
      refine wpAnyH_take (i := 1) (v := ?_) rfl (by kernel_rfl) (by kernel_rfl) (by kernel_rfl) (fun _ _ _ h => h) (Or.inl ⟨by rfl, ?hyq⟩) hS ?_
      case hyq =>
        intro w hw
        obtain ⟨k0, k1⟩ := hw.b.cells
        go_simp
        try (with_reducible rfl)
      try go_simp
      refine wpAnyH_take (i := 3) (v := ?_) rfl (by kernel_rfl) (by kernel_rfl) (by kernel_rfl) (fun _ _ _ h => h) (Or.inl ⟨by rfl, ?hyq⟩) hS ?_
      case hyq =>
        intro w hw
        obtain ⟨k0, k1⟩ := hw.a.cells
        go_simp
        try (with_reducible rfl)
      try go_simp
      refine wpAnyH_take (i := 4) (v := ?_) rfl (by kernel_rfl) (by kernel_rfl) (by kernel_rfl) (fun _ _ _ h => h) (Or.inl ⟨by rfl, ?hyq⟩) hS ?_
      case hyq =>
        intro w hw
        obtain ⟨k0, k1⟩ := hw.b.cells
        go_simp
        try (with_reducible rfl)
      try go_simp
      try go_simp
      refine wpAnyH_ready (rs := [2]) (by kernel_rfl) (by simp) ?_
      refine all_consH rfl (fun K hK => ?_) ?_
      · skip
        refine Stp.mk ?_
        go_simp
        go_wp2_with fail
        have hsm := d_same d o _ (HD5.out.below HBD.out) (HO5.out.below HBD.out) (by have := HZ.out; omega) (by have := HZ.out; omega) (by have := HZ.out; omega) (by have := HZ.out; omega) _ rfl
        simp only [Dk.v] at hsm
        refine hsm.mono ?_
        clear hsm
        rintro e w8 ⟨rfl, b8⟩
        have hSn := hS.below b8
        replace HBD := Lib.hid (below_to HBD.out b8 HBD.out.size)
        replace HND := Lib.hid (HND.out.below b8)
        clear b8
        go_wp2
        refine hK.out _ _ hSn (fun hS => ?_)
        clear hK K hSn
        try go_simp
        refine wpAnyH_ready (rs := [5]) (by kernel_rfl) (by simp) ?_
        refine all_consH rfl (fun K hK => ?_) ?_
        · skip
          refine Stp.mk ?_
          go_simp
          go_wp2_with fail
          have hsm := r_same d o _ (HD5.out.below HBD.out) (HO5.out.below HBD.out) (by have := HZ.out; omega) (by have := HZ.out; omega) (by have := HZ.out; omega) (by have := HZ.out; omega) _ rfl
          simp only [Dk.v] at hsm
          refine hsm.mono ?_
          clear hsm
          rintro e w9 ⟨rfl, b9⟩
          have hSn := hS.below b9
          replace HBD := Lib.hid (below_to HBD.out b9 HBD.out.size)
          replace HND := Lib.hid (HND.out.below b9)
          clear b9
          go_wp2
          refine hK.out _ _ hSn (fun hS => ?_)
          clear hK K hSn
          refine wpAnyH_take (i := 6) (v := ?_) rfl (by kernel_rfl) (by kernel_rfl) (by kernel_rfl) (fun _ _ _ h => h) (Or.inl ⟨by rfl, ?hyq⟩) hS ?_
          case hyq =>
            intro w hw
            go_simp
            try (with_reducible rfl)
          try go_simp
          refine wpAnyH_take (i := 7) (v := ?_) rfl (by kernel_rfl) (by kernel_rfl) (by kernel_rfl) (fun _ _ _ h => h) (Or.inl ⟨by rfl, ?hyq⟩) hS ?_
          case hyq =>
            intro w hw
            go_simp
            try (with_reducible rfl)
          try go_simp
          refine wpAnyH_take (i := 8) (v := ?_) rfl (by kernel_rfl) (by kernel_rfl) (by kernel_rfl) (fun _ _ _ h => h) (Or.inl ⟨by rfl, ?hyq⟩) hS ?_
          case hyq =>
            intro w hw
            obtain ⟨k0, k1⟩ := hw.c.cells
            go_simp
            try (with_reducible rfl)
          try go_simp
          refine wpAnyH_take (i := 9) (v := ?_) rfl (by kernel_rfl) (by kernel_rfl) (by kernel_rfl) (fun _ _ _ h => h) (Or.inl ⟨by rfl, ?hyq⟩) hS ?_
          case hyq =>
            intro w hw
            obtain ⟨k0, k1⟩ := hw.a.cells
            go_simp
            try (with_reducible rfl)
          try go_simp
          try go_simp
          refine wpAnyH_ready (rs := [10]) (by kernel_rfl) (by simp) ?_
          refine all_consH rfl (fun K hK => ?_) ?_
          · skip
            refine Stp.mk ?_
            go_simp
            go_wp2_with fail
            obtain ⟨q1, q2⟩ := c_sizes HD5.out HND.out.ok HND.out.cc
            have hsm := r_same d2 d _ HND.out.ok (HD5.out.below HBD.out) (by have := HZ.out; omega) (by have := HZ.out; omega) (by have := HZ.out; omega) (by have := HZ.out; omega) true (by rw [HND.out.cc]; simp)
            simp only [Dk.v] at hsm
            refine hsm.mono ?_
            clear hsm q1 q2
            rintro e w10 ⟨rfl, b10⟩
            have hSn := hS.below b10
            replace HBD := Lib.hid (below_to HBD.out b10 HBD.out.size)
            replace HND := Lib.hid (HND.out.below b10)
            clear b10
            go_wp2
            refine hK.out _ _ hSn (fun hS => ?_)
            clear hK K hSn
            refine wpAnyH_take (i := 11) (v := ?_) rfl (by kernel_rfl) (by kernel_rfl) (by kernel_rfl) (fun _ _ _ h => h) (Or.inl ⟨by rfl, ?hyq⟩) hS ?_
            case hyq =>
              intro w hw
              go_simp
              try (with_reducible rfl)
            try go_simp
            refine wpAnyH_take (i := 12) (v := ?_) rfl (by kernel_rfl) (by kernel_rfl) (by kernel_rfl) (fun _ _ _ h => h) (Or.inl ⟨by rfl, ?hyq⟩) hS ?_
            case hyq =>
              intro w hw
              go_simp
              try (with_reducible rfl)
            try go_simp
            refine wpAnyH_take (i := 13) (v := ?_) rfl (by kernel_rfl) (by kernel_rfl) (by kernel_rfl) (fun _ _ _ h => h) (Or.inl ⟨by rfl, ?hyq⟩) hS ?_
            case hyq =>
              intro w hw
              go_simp
              try (with_reducible rfl)
            try go_simp
            try go_simp
            refine wpAnyH_ready (rs := [14]) (by kernel_rfl) (by simp) ?_
            refine all_consH rfl (fun K hK => ?_) ?_
            · skip
              refine Stp.mk ?_
              go_simp
              go_wp2_with fail
              refine (d_new _).mono ?_
              rintro e w11 ⟨n1, rfl, hn1, b11⟩
              have hSn := hS.below b11
              have HN1 := Lib.hid hn1
              replace HBD := Lib.hid (below_to HBD.out b11 HBD.out.size)
              replace HND := Lib.hid (HND.out.below b11)
              clear b11 hn1
              go_wp2
              refine hK.out _ _ hSn (fun hS => ?_)
              clear hK K hSn
              try go_simp
              refine wpAnyH_ready (rs := [15]) (by kernel_rfl) (by simp) ?_
              refine all_consH rfl (fun K hK => ?_) ?_
              · skip
                refine Stp.mk ?_
                go_simp
                go_wp2_with fail
                refine (r_new _).mono ?_
                rintro e w12 ⟨n2, rfl, hn2, b12⟩
                have hSn := hS.below b12
                replace HN1 := Lib.hid (HN1.out.below b12)
                have HN2 := Lib.hid hn2
                replace HBD := Lib.hid (below_to HBD.out b12 HBD.out.size)
                replace HND := Lib.hid (HND.out.below b12)
                clear b12 hn2
                go_wp2
                refine hK.out _ _ hSn (fun hS => ?_)
                clear hK K hSn
                try go_simp
                refine wpAnyH_ready (rs := [16]) (by kernel_rfl) (by simp) ?_
                refine all_consH rfl (fun K hK => ?_) ?_
                · skip
                  refine Stp.mk ?_
                  go_simp
                  go_wp2_with fail
                  obtain ⟨q1, q2⟩ := HN1.out.ok.sizes HN1.out.cc new_may
                  obtain ⟨q3, q4⟩ := HN2.out.ok.sizes HN2.out.cc new_may
                  have q5 : Ct.new.w.length = 0 := rfl
                  have hsm := r_same n1 n2 _ HN1.out.ok HN2.out.ok (by omega) (by omega) (by omega) (by omega) true (by rw [HN1.out.cc, HN2.out.cc]; simp)
                  simp only [Dk.v] at hsm
                  refine hsm.mono ?_
                  clear hsm q1 q2 q3 q4 q5
                  rintro e w13 ⟨rfl, b13⟩
                  have hSn := hS.below b13
                  replace HBD := Lib.hid (below_to HBD.out b13 HBD.out.size)
                  replace HND := Lib.hid (HND.out.below b13)
                  clear b13 HN1 HN2
                  go_wp2
                  refine hK.out _ _ hSn (fun hS => ?_)
                  clear hK K hSn
                  refine wpAnyH_take (i := 17) (v := ?_) rfl (by kernel_rfl) (by kernel_rfl) (by kernel_rfl) (fun _ _ _ h => h) (Or.inl ⟨by rfl, ?hyq⟩) hS ?_
                  case hyq =>
                    intro w hw
                    go_simp
                    try (with_reducible rfl)
                  try go_simp
                  refine wpAnyH_take (i := 18) (v := ?_) rfl (by kernel_rfl) (by kernel_rfl) (by kernel_rfl) (fun _ _ _ h => h) (Or.inl ⟨by rfl, ?hyq⟩) hS ?_
                  case hyq =>
                    intro w hw
                    go_simp
                    try (with_reducible rfl)
                  try go_simp
                  refine wpAnyH_done (by kernel_rfl) ?_ _
                  obtain ⟨k0, k1⟩ := hS.c.cells
                  obtain ⟨q1, q2⟩ := c_sizes HD5.out HND.out.ok HND.out.cc
                  have hsm2 := HS.out.of_c HD5.out HND.out.ok HND.out.cc
                  have hwp := l_wipe d2 V5.heap.size _ HND.out.wp HBD.out.size (by have := HZ.out; omega) (by have := HZ.out; omega) hsm2.bs hsm2.ws
                  simp only [Dk.v] at hwp
                  have HWP := Lib.hid hwp
                  clear q1 q2 hsm2 hwp hS
                  go_wp2_with fail
                  refine HWP.out.mono ?_
                  rintro e w14 ⟨⟨v, rfl⟩, b14⟩
                  have hb14 := HBD.out.trans b14
                  have HX14 := Lib.hid (HX5.out.below hb14 HX5.out.lt)
                  have HT14 := Lib.hid (HT5.out.below hb14 HT5.out.lt)
                  have HN14 := Lib.hid (HN5.out.below hb14)
                  have HD14 := Lib.hid (HD5.out.below hb14)
                  have HB14 := Lib.hid (below_to HB5.out hb14 HB5.out.size)
                  clear k0 k1 b14 hb14 HWP
                  obtain ⟨x0, x1⟩ := HX14.out.cells
                  obtain ⟨t0, t1⟩ := HT14.out.cells
                  obtain ⟨q1, q2⟩ := c_sizes HD14.out HN14.out.ok HN14.out.cc
                  have hsm := r_same d1 d w14 HN14.out.ok HD14.out (by have := HZ.out; omega) (by have := HZ.out; omega) (by have := HZ.out; omega) (by have := HZ.out; omega) true (by rw [HN14.out.cc]; simp)
                  simp only [Dk.v] at hsm
                  have HSM := Lib.hid hsm
                  clear hsm q1 q2
                  go_wp2_with fail
                  refine HSM.out.mono ?_
                  rintro e w15 ⟨rfl, b15⟩
                  go_wp2
                  go_ret
                  exact ⟨rfl, below_to HB14.out b15 HB14.out.size⟩
                exact AllReadyH.nil
              exact AllReadyH.nil
            exact AllReadyH.nil
          exact AllReadyH.nil
        exact AllReadyH.nil
      exact AllReadyH.nil
end Go.Proofs.Ytkaklppkmokffaa
