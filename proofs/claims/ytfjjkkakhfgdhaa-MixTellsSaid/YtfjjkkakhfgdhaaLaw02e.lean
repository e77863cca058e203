/-
  charterhouseref02: contract of Back; the walk of layer 2's statement MixTells.
-/
import Derived.Test.YtfjjkkakhfgdhaaRef02K
import Derived.Test.YtfjjkkakhfgdhaaLaw02
import Derived.Test.YtfjjkkakhfgdhaaStp
namespace Go.Proofs.Ytfjjkkakhfgdhaa
open Go.RowKit
set_option linter.unusedVariables false
set_option linter.unusedSimpArgs false
set_option maxRecDepth 100000
attribute [local go_sem] str_toList toList_mk

theorem r_back (x : W4) (w : World) : Calls Try.prog 31 #[.agg #[.int .u32 (wi x.a), .int .u32 (wi x.b), .int .u32 (wi x.c), .int .u32 (wi x.d)]] w fun e w' =>
    e = .returned (.agg #[.int .u32 (wi (unturn x).a), .int .u32 (wi (unturn x).b), .int .u32 (wi (unturn x).c), .int .u32 (wi (unturn x).d)]) ∧ Below w.heap.size w w' := by
  have hxor := xor_w
  have hb0 := below_alloc (below_new w (.cells #[.int .u32 (wi x.a), .int .u32 (wi x.b), .int .u32 (wi x.c), .int .u32 (wi x.d)] 23)) (.cells #[.int .u32 0, .int .u32 0, .int .u32 0, .int .u32 0] 23) (Nat.le_refl _)
  have hrs := Box4.new (w.alloc (.cells #[.int .u32 (wi x.a), .int .u32 (wi x.b), .int .u32 (wi x.c), .int .u32 (wi x.d)] 23)) 23 ⟨0, 0, 0, 0⟩
  change Box4 ((w.alloc (.cells #[.int .u32 (wi x.a), .int .u32 (wi x.b), .int .u32 (wi x.c), .int .u32 (wi x.d)] 23)).alloc (.cells #[.int .u32 0, .int .u32 0, .int .u32 0, .int .u32 0] 23)) _ 23 ⟨0, 0, 0, 0⟩ at hrs
  rw [World.size_alloc] at hrs
  have HX := Lib.hid hrs
  have HB := Lib.hid hb0
  clear hrs hb0
  go_enter Try.func31, Try.ntmps31
  go_wp2_with fail
  refine (r_left x.b 26 (by omega) _).mono ?_
  rintro e w1 ⟨rfl, hw1⟩
  rw [hw1] at HX HB
  clear hw1
  go_wp2_with fail
  generalize hb1 : rl 26 x.b ^^^ x.c = b1
  refine (r_minus x.c x.d w1).mono ?_
  rintro e w2 ⟨rfl, rfl⟩
  generalize hc1 : x.c - x.d = c1
  go_wp2_with fail
  refine (r_left x.d 23 (by omega) w1).mono ?_
  rintro e w2 ⟨rfl, rfl⟩
  go_wp2_with fail
  generalize hd1 : rl 23 x.d ^^^ x.a = d1
  refine (r_minus x.a b1 w1).mono ?_
  rintro e w2 ⟨rfl, rfl⟩
  generalize ha1 : x.a - b1 = a1
  go_wp2_with fail
  refine (r_left b1 21 (by omega) w1).mono ?_
  rintro e w2 ⟨rfl, rfl⟩
  go_wp2_with fail
  generalize hb2 : rl 21 b1 ^^^ c1 = b2
  refine (r_minus c1 d1 w1).mono ?_
  rintro e w2 ⟨rfl, rfl⟩
  generalize hc2 : c1 - d1 = c2
  go_wp2_with fail
  refine (r_left d1 17 (by omega) w1).mono ?_
  rintro e w2 ⟨rfl, rfl⟩
  go_wp2_with fail
  generalize hd2 : rl 17 d1 ^^^ a1 = d2
  refine (r_minus a1 b2 w1).mono ?_
  rintro e w2 ⟨rfl, rfl⟩
  generalize ha2 : a1 - b2 = a2
  have htt : unturn x = ⟨a2, b2, c2, d2⟩ := by
    subst ha2 hd2 hc2 hb2 ha1 hd1 hc1 hb1
    rfl
  have HTT := Lib.hid htt
  clear htt ha2 hd2 hc2 hb2 ha1 hd1 hc1 hb1 hxor
  have hs1 := HX.out
  obtain ⟨q0, q1, q2, q3⟩ := hs1.cells
  have fz := hs1.frozen
  obtain ⟨e0, e1, e2, e3⟩ := hs1.four (.int .u32 (wi a2)) (.int .u32 (wi b2)) (.int .u32 (wi c2)) (.int .u32 (wi d2))
  clear hs1
  go_wp2
  refine bodyPost_ret (v := .agg #[.int .u32 (wi a2), .int .u32 (wi b2), .int .u32 (wi c2), .int .u32 (wi d2)]) (by simp [results, Try.results31, go_sem, e0, e1, e2, e3]) rfl ⟨by rw [HTT.out], ?_⟩
  exact below_four HB.out (by omega) _ _ _ _
theorem mconv {w : World} {B n : Nat} {A : Option Addr} {l : List UInt8} (h : Rd w B 1 A n (bvs l)) (c : Nat) : (convert 28 9 (.slice A n c)).run Try.prog w = .ok (.string (str l)) w :=
  run_conv Try.underlying28 Try.underlying5 Try.underlying9 h c
theorem mixt_big (A : Option Addr) (n c : Nat) (x : W4) (w : World) (h : 10000 < (n : Int)) :
    Calls Try.prog 8 #[.slice A n c, .agg #[.int .u32 (wi x.a), .int .u32 (wi x.b), .int .u32 (wi x.c), .int .u32 (wi x.d)]] w fun e w' => e = .returned (.bool true) ∧ Below w.heap.size w w' := by
  have hb0 := below_new w (.cells #[.int .u32 (wi x.a), .int .u32 (wi x.b), .int .u32 (wi x.c), .int .u32 (wi x.d)] 23)
  go_enter Try.func8, Try.ntmps8
  go_wp2
  go_ret
  exact ⟨rfl, hb0⟩
set_option maxHeartbeats 8000000 in
theorem mixt_ok (A : Option Addr) (n c : Nat) (l : List UInt8) (x : W4) (w : World) (hn : decide (10000 < (n : Int)) = false) (hl : l.length = n) (hc : n ≤ c) (hr : Rd w w.heap.size 1 A n (bvs l)) :
    Calls Try.prog 8 #[.slice A n c, .agg #[.int .u32 (wi x.a), .int .u32 (wi x.b), .int .u32 (wi x.c), .int .u32 (wi x.d)]] w fun e w' => e = .returned (.bool true) ∧ Below w.heap.size w w' := by
  have hn2 : (n : Int) ≤ 10000 := by simp at hn; omega
  have c1 := fun W (h : Below w.heap.size w W) => x_four A n c l W hl (by omega) hc ((hr.below h).more h.size)
  have c2 := fun W (h : Below w.heap.size w W) => r_four A n c l W hl (by omega) ((hr.below h).more h.size)
  have c3 := fun W (h : Below w.heap.size w W) => x_sum A n c l W hl (by omega) hc ((hr.below h).more h.size)
  have c4 := fun W (h : Below w.heap.size w W) => r_sum A n c l W hl (by omega) ((hr.below h).more h.size)
  have c5 := fun W (h : Below w.heap.size w W) => x_key A n c l W hl (by omega) hc ((hr.below h).more h.size)
  have c6 := fun W (h : Below w.heap.size w W) => r_key A n c l W hl (by omega) ((hr.below h).more h.size)
  have hb0 := below_new w (.cells #[.int .u32 (wi x.a), .int .u32 (wi x.b), .int .u32 (wi x.c), .int .u32 (wi x.d)] 23)
  have hbx := Box4.new w 23 x
  have k0 := mconv ((hr.below hb0).more hb0.size) c
  have c7 := fun W => x_turn x W
  have c8 := fun W => r_turn x W
  have c9 := fun W => x_unturn x W
  have c10 := fun W => r_back x W
  have e1 := fun W => run_four_in W (wi (fourOf l).a) (wi (fourOf l).b) (wi (fourOf l).c) (wi (fourOf l).d) (wi (fourOf l).a) (wi (fourOf l).b) (wi (fourOf l).c) (wi (fourOf l).d)
  have e2 := fun W => run_four_in W (wi (turn x).a) (wi (turn x).b) (wi (turn x).c) (wi (turn x).d) (wi (turn x).a) (wi (turn x).b) (wi (turn x).c) (wi (turn x).d)
  have e3 := fun W => run_four_in W (wi (unturn x).a) (wi (unturn x).b) (wi (unturn x).c) (wi (unturn x).d) (wi (unturn x).a) (wi (unturn x).b) (wi (unturn x).c) (wi (unturn x).d)
  simp only [beq_self_eq_true, Bool.and_self] at e1 e2 e3
  have hky := keyOf_len (fourOf l)
  generalize keyOf (fourOf l) = KY at *
  generalize wi (fourOf l).a = fa at *
  generalize wi (fourOf l).b = fb at *
  generalize wi (fourOf l).c = fc at *
  generalize wi (fourOf l).d = fd at *
  generalize wi (turn x).a = ta at *
  generalize wi (turn x).b = tb at *
  generalize wi (turn x).c = tc at *
  generalize wi (turn x).d = td at *
  generalize wi (unturn x).a = ua at *
  generalize wi (unturn x).b = ub at *
  generalize wi (unturn x).c = uc at *
  generalize wi (unturn x).d = ud at *
  obtain ⟨wb, hwb⟩ : ∃ W, W = w.alloc (.cells #[.int .u32 (wi x.a), .int .u32 (wi x.b), .int .u32 (wi x.c), .int .u32 (wi x.d)] 23) := ⟨_, rfl⟩
  rw [← hwb] at hb0 hbx k0
  have C1 := Lib.hid (fun W (h : Below wb.heap.size wb W) => c1 W (below_to hb0 h hb0.size))
  have C2 := Lib.hid (fun W (h : Below wb.heap.size wb W) => c2 W (below_to hb0 h hb0.size))
  have C3 := Lib.hid (fun W (h : Below wb.heap.size wb W) => c3 W (below_to hb0 h hb0.size))
  have C4 := Lib.hid (fun W (h : Below wb.heap.size wb W) => c4 W (below_to hb0 h hb0.size))
  have C5 := Lib.hid (fun W (h : Below wb.heap.size wb W) => c5 W (below_to hb0 h hb0.size))
  have C6 := Lib.hid (fun W (h : Below wb.heap.size wb W) => c6 W (below_to hb0 h hb0.size))
  have C7 := Lib.hid (fun W (h : Below wb.heap.size wb W) => c7 W)
  have C8 := Lib.hid (fun W (h : Below wb.heap.size wb W) => c8 W)
  have C9 := Lib.hid (fun W (h : Below wb.heap.size wb W) => c9 W)
  have C10 := Lib.hid (fun W (h : Below wb.heap.size wb W) => c10 W)
  have HE1 := Lib.hid e1
  have HE2 := Lib.hid e2
  have HE3 := Lib.hid e3
  have HR := Lib.hid ((hr.below hb0).more hb0.size)
  have HBW := Lib.hid hb0
  have HBX := Lib.hid hbx
  have HBXL := Lib.hid hbx.lt
  have HWB := Lib.hid hwb
  rw [hwb] at k0
  clear hr hb0 hbx hn2 c1 c2 c3 c4 c5 c6 c7 c8 c9 c10 e1 e2 e3 hky hwb
  go_enter Try.func8, Try.ntmps8
  go_wp2
  simp only [← HWB.out]
  clear k0
  refine wp_region_held_drew (S := fun V => Below wb.heap.size wb V) (by kernel_rfl) (Below.refl wb.heap.size wb).drew (fun hS => ?_)
  refine wpAnyH_take (i := 0) (v := ?_) rfl (by kernel_rfl) (by kernel_rfl) (by kernel_rfl) (fun _ _ _ h => h) (Or.inl ⟨by rfl, ?hyq⟩) hS ?_
  case hyq =>
    intro w hw
    go_simp
    try (with_reducible rfl)
  refine wpAnyH_take (i := 2) (v := ?_) rfl (by kernel_rfl) (by kernel_rfl) (by kernel_rfl) (fun _ _ _ h => h) (Or.inl ⟨by rfl, ?hyq⟩) hS ?_
  case hyq =>
    intro w hw
    go_simp
    try (with_reducible rfl)
  refine wpAnyH_ready (rs := [1]) (by kernel_rfl) (by simp) ?_
  refine all_consH rfl (fun K hK => ?_) ?_
  · skip
    refine Stp.mk ?_
    go_simp
    go_wp2_with fail
    refine (C1.out _ hS).mono ?_
    rintro e w2 ⟨rfl, b1⟩
    have hSn := below_to hS b1 hS.size
    clear b1
    go_wp2
    refine hK.out _ _ hSn (fun hS => ?_)
    clear hK K hSn
    refine wpAnyH_ready (rs := [3]) (by kernel_rfl) (by simp) ?_
    refine all_consH rfl (fun K hK => ?_) ?_
    · skip
      refine Stp.mk ?_
      go_simp
      go_wp2_with fail
      refine (C2.out _ hS).mono ?_
      rintro e w2 ⟨rfl, b1⟩
      have hSn := below_to hS b1 hS.size
      clear b1
      go_wp2
      refine hK.out _ _ hSn (fun hS => ?_)
      clear hK K hSn
      refine wpAnyH_take (i := 4) (v := ?_) rfl (by kernel_rfl) (by kernel_rfl) (by kernel_rfl) (fun _ _ _ h => h) (Or.inl ⟨by rfl, ?hyq⟩) hS ?_
      case hyq =>
        intro w hw
        have ke := HE1.out w
        go_simp
        try (with_reducible rfl)
      refine wpAnyH_take (i := 5) (v := ?_) rfl (by kernel_rfl) (by kernel_rfl) (by kernel_rfl) (fun _ _ _ h => h) (Or.inl ⟨by rfl, ?hyq⟩) hS ?_
      case hyq =>
        intro w hw
        go_simp
        try (with_reducible rfl)
      refine wpAnyH_take (i := 6) (v := ?_) rfl (by kernel_rfl) (by kernel_rfl) (by kernel_rfl) (fun _ _ _ h => h) (Or.inl ⟨by rfl, ?hyq⟩) hS ?_
      case hyq =>
        intro w hw
        go_simp
        try (with_reducible rfl)
      refine wpAnyH_take (i := 8) (v := ?_) rfl (by kernel_rfl) (by kernel_rfl) (by kernel_rfl) (fun _ _ _ h => h) (Or.inl ⟨by rfl, ?hyq⟩) hS ?_
      case hyq =>
        intro w hw
        go_simp
        try (with_reducible rfl)
      refine wpAnyH_ready (rs := [7]) (by kernel_rfl) (by simp) ?_
      refine all_consH rfl (fun K hK => ?_) ?_
      · skip
        refine Stp.mk ?_
        go_simp
        go_wp2_with fail
        refine (C3.out _ hS).mono ?_
        rintro e w2 ⟨rfl, b1⟩
        have hSn := below_to hS b1 hS.size
        clear b1
        go_wp2
        refine hK.out _ _ hSn (fun hS => ?_)
        clear hK K hSn
        refine wpAnyH_ready (rs := [9]) (by kernel_rfl) (by simp) ?_
        refine all_consH rfl (fun K hK => ?_) ?_
        · skip
          refine Stp.mk ?_
          go_simp
          go_wp2_with fail
          refine (C4.out _ hS).mono ?_
          rintro e w2 ⟨rfl, b1⟩
          have hSn := below_to hS b1 hS.size
          clear b1
          go_wp2
          refine hK.out _ _ hSn (fun hS => ?_)
          clear hK K hSn
          refine wpAnyH_take (i := 10) (v := ?_) rfl (by kernel_rfl) (by kernel_rfl) (by kernel_rfl) (fun _ _ _ h => h) (Or.inl ⟨by rfl, ?hyq⟩) hS ?_
          case hyq =>
            intro w hw
            go_simp
            try (with_reducible rfl)
          refine wpAnyH_take (i := 11) (v := ?_) rfl (by kernel_rfl) (by kernel_rfl) (by kernel_rfl) (fun _ _ _ h => h) (Or.inl ⟨by rfl, ?hyq⟩) hS ?_
          case hyq =>
            intro w hw
            go_simp
            try (with_reducible rfl)
          refine wpAnyH_take (i := 12) (v := ?_) rfl (by kernel_rfl) (by kernel_rfl) (by kernel_rfl) (fun _ _ _ h => h) (Or.inl ⟨by rfl, ?hyq⟩) hS ?_
          case hyq =>
            intro w hw
            go_simp
            try (with_reducible rfl)
          refine wpAnyH_take (i := 13) (v := ?_) rfl (by kernel_rfl) (by kernel_rfl) (by kernel_rfl) (fun _ _ _ h => h) (Or.inl ⟨by rfl, ?hyq⟩) hS ?_
          case hyq =>
            intro w hw
            go_simp
            try (with_reducible rfl)
          refine wpAnyH_take (i := 16) (v := ?_) rfl (by kernel_rfl) (by kernel_rfl) (by kernel_rfl) (fun _ _ _ h => h) (Or.inl ⟨by rfl, ?hyq⟩) hS ?_
          case hyq =>
            intro w hw
            go_simp
            try (with_reducible rfl)
          refine wpAnyH_ready (rs := [14]) (by kernel_rfl) (by simp) ?_
          refine all_consH rfl (fun K hK => ?_) ?_
          · skip
            refine Stp.mk ?_
            go_simp
            go_wp2_with fail
            refine (C5.out _ hS).mono ?_
            rintro e w2 ⟨A1, c1, rfl, f1, b1⟩
            have hSn := below_to hS b1 hS.size
            have HF1 := Lib.hid f1
            clear f1 b1
            go_wp2
            refine hK.out _ _ hSn (fun hS => ?_)
            clear hK K hSn
            refine wpAnyH_ready (rs := [15, 17]) (by kernel_rfl) (by simp) ?_
            refine all_consH rfl (fun K hK => ?_) ?_
            · skip
              refine Stp.mk ?_
              have k1 := mconv HF1.out.rd c1
              go_simp
              clear k1
              have hSn := hS
              refine hK.out _ _ hSn (fun hS => ?_)
              clear hK K hSn
              refine wpAnyH_ready (rs := [17]) (by kernel_rfl) (by simp) ?_
              refine all_consH rfl (fun K hK => ?_) ?_
              · skip
                refine Stp.mk ?_
                go_simp
                go_wp2_with fail
                refine (C6.out _ hS).mono ?_
                rintro e w3 ⟨A2, c2, rfl, f2, b2⟩
                have hSn := below_to hS b2 hS.size
                have HF2 := Lib.hid f2
                replace HF1 := Lib.hid (HF1.out.below b2 (Nat.le_refl _))
                clear f2 b2
                go_wp2
                refine hK.out _ _ hSn (fun hS => ?_)
                clear hK K hSn
                refine wpAnyH_ready (rs := [18]) (by kernel_rfl) (by simp) ?_
                refine all_consH rfl (fun K hK => ?_) ?_
                · skip
                  refine Stp.mk ?_
                  have k2 := mconv HF2.out.rd c2
                  go_simp
                  clear k2
                  have hSn := hS
                  refine hK.out _ _ hSn (fun hS => ?_)
                  clear hK K hSn
                  refine wpAnyH_take (i := 19) (v := ?_) rfl (by kernel_rfl) (by kernel_rfl) (by kernel_rfl) (fun _ _ _ h => h) (Or.inl ⟨by rfl, ?hyq⟩) hS ?_
                  case hyq =>
                    intro w hw
                    go_simp
                    try (with_reducible rfl)
                  refine wpAnyH_take (i := 20) (v := ?_) rfl (by kernel_rfl) (by kernel_rfl) (by kernel_rfl) (fun _ _ _ h => h) (Or.inl ⟨by rfl, ?hyq⟩) hS ?_
                  case hyq =>
                    intro w hw
                    go_simp
                    try (with_reducible rfl)
                  refine wpAnyH_take (i := 21) (v := ?_) rfl (by kernel_rfl) (by kernel_rfl) (by kernel_rfl) (fun _ _ _ h => h) (Or.inl ⟨by rfl, ?hyq⟩) hS ?_
                  case hyq =>
                    intro w hw
                    go_simp
                    try (with_reducible rfl)
                  refine wpAnyH_take (i := 22) (v := ?_) rfl (by kernel_rfl) (by kernel_rfl) (by kernel_rfl) (fun _ _ _ h => h) (Or.inl ⟨by rfl, ?hyq⟩) hS ?_
                  case hyq =>
                    intro w hw
                    obtain ⟨kx0, kx1, kx2, kx3⟩ := (HBX.out.below hw HBXL.out).cells
                    go_simp
                    try (with_reducible rfl)
                  refine wpAnyH_take (i := 24) (v := ?_) rfl (by kernel_rfl) (by kernel_rfl) (by kernel_rfl) (fun _ _ _ h => h) (Or.inl ⟨by rfl, ?hyq⟩) hS ?_
                  case hyq =>
                    intro w hw
                    obtain ⟨kx0, kx1, kx2, kx3⟩ := (HBX.out.below hw HBXL.out).cells
                    go_simp
                    try (with_reducible rfl)
                  refine wpAnyH_ready (rs := [23]) (by kernel_rfl) (by simp) ?_
                  refine all_consH rfl (fun K hK => ?_) ?_
                  · skip
                    refine Stp.mk ?_
                    go_simp
                    go_wp2_with fail
                    refine (C7.out _ hS).mono ?_
                    rintro e w2 ⟨rfl, b1⟩
                    have hSn := below_to hS b1 hS.size
                    clear b1
                    go_wp2
                    refine hK.out _ _ hSn (fun hS => ?_)
                    clear hK K hSn
                    refine wpAnyH_ready (rs := [25]) (by kernel_rfl) (by simp) ?_
                    refine all_consH rfl (fun K hK => ?_) ?_
                    · skip
                      refine Stp.mk ?_
                      go_simp
                      go_wp2_with fail
                      refine (C8.out _ hS).mono ?_
                      rintro e w2 ⟨rfl, b1⟩
                      have hSn := below_to hS b1 hS.size
                      clear b1
                      go_wp2
                      refine hK.out _ _ hSn (fun hS => ?_)
                      clear hK K hSn
                      refine wpAnyH_take (i := 26) (v := ?_) rfl (by kernel_rfl) (by kernel_rfl) (by kernel_rfl) (fun _ _ _ h => h) (Or.inl ⟨by rfl, ?hyq⟩) hS ?_
                      case hyq =>
                        intro w hw
                        have ke := HE2.out w
                        go_simp
                        try (with_reducible rfl)
                      refine wpAnyH_take (i := 27) (v := ?_) rfl (by kernel_rfl) (by kernel_rfl) (by kernel_rfl) (fun _ _ _ h => h) (Or.inl ⟨by rfl, ?hyq⟩) hS ?_
                      case hyq =>
                        intro w hw
                        go_simp
                        try (with_reducible rfl)
                      refine wpAnyH_take (i := 28) (v := ?_) rfl (by kernel_rfl) (by kernel_rfl) (by kernel_rfl) (fun _ _ _ h => h) (Or.inl ⟨by rfl, ?hyq⟩) hS ?_
                      case hyq =>
                        intro w hw
                        go_simp
                        try (with_reducible rfl)
                      refine wpAnyH_take (i := 29) (v := ?_) rfl (by kernel_rfl) (by kernel_rfl) (by kernel_rfl) (fun _ _ _ h => h) (Or.inl ⟨by rfl, ?hyq⟩) hS ?_
                      case hyq =>
                        intro w hw
                        obtain ⟨kx0, kx1, kx2, kx3⟩ := (HBX.out.below hw HBXL.out).cells
                        go_simp
                        try (with_reducible rfl)
                      refine wpAnyH_take (i := 31) (v := ?_) rfl (by kernel_rfl) (by kernel_rfl) (by kernel_rfl) (fun _ _ _ h => h) (Or.inl ⟨by rfl, ?hyq⟩) hS ?_
                      case hyq =>
                        intro w hw
                        obtain ⟨kx0, kx1, kx2, kx3⟩ := (HBX.out.below hw HBXL.out).cells
                        go_simp
                        try (with_reducible rfl)
                      refine wpAnyH_ready (rs := [30]) (by kernel_rfl) (by simp) ?_
                      refine all_consH rfl (fun K hK => ?_) ?_
                      · skip
                        refine Stp.mk ?_
                        go_simp
                        go_wp2_with fail
                        refine (C9.out _ hS).mono ?_
                        rintro e w2 ⟨rfl, b1⟩
                        have hSn := below_to hS b1 hS.size
                        clear b1
                        go_wp2
                        refine hK.out _ _ hSn (fun hS => ?_)
                        clear hK K hSn
                        refine wpAnyH_ready (rs := [32]) (by kernel_rfl) (by simp) ?_
                        refine all_consH rfl (fun K hK => ?_) ?_
                        · skip
                          refine Stp.mk ?_
                          go_simp
                          go_wp2_with fail
                          refine (C10.out _ hS).mono ?_
                          rintro e w2 ⟨rfl, b1⟩
                          have hSn := below_to hS b1 hS.size
                          clear b1
                          go_wp2
                          refine hK.out _ _ hSn (fun hS => ?_)
                          clear hK K hSn
                          refine wpAnyH_take (i := 33) (v := ?_) rfl (by kernel_rfl) (by kernel_rfl) (by kernel_rfl) (fun _ _ _ h => h) (Or.inl ⟨by rfl, ?hyq⟩) hS ?_
                          case hyq =>
                            intro w hw
                            have ke := HE3.out w
                            go_simp
                            try (with_reducible rfl)
                          refine wpAnyH_take (i := 34) (v := ?_) rfl (by kernel_rfl) (by kernel_rfl) (by kernel_rfl) (fun _ _ _ h => h) (Or.inl ⟨by rfl, ?hyq⟩) hS ?_
                          case hyq =>
                            intro w hw
                            go_simp
                            try (with_reducible rfl)
                          refine wpAnyH_take (i := 35) (v := ?_) rfl (by kernel_rfl) (by kernel_rfl) (by kernel_rfl) (fun _ _ _ h => h) (Or.inl ⟨by rfl, ?hyq⟩) hS ?_
                          case hyq =>
                            intro w hw
                            go_simp
                            try (with_reducible rfl)
                          refine wpAnyH_take (i := 36) (v := ?_) rfl (by kernel_rfl) (by kernel_rfl) (by kernel_rfl) (fun _ _ _ h => h) (Or.inl ⟨by rfl, ?hyq⟩) hS ?_
                          case hyq =>
                            intro w hw
                            go_simp
                            try (with_reducible rfl)
                          refine wpAnyH_take (i := 37) (v := ?_) rfl (by kernel_rfl) (by kernel_rfl) (by kernel_rfl) (fun _ _ _ h => h) (Or.inl ⟨by rfl, ?hyq⟩) hS ?_
                          case hyq =>
                            intro w hw
                            have kx := mconv (HR.out.below hw) c
                            go_simp
                            try (with_reducible rfl)
                          refine wpAnyH_take (i := 38) (v := ?_) rfl (by kernel_rfl) (by kernel_rfl) (by kernel_rfl) (fun _ _ _ h => h) (Or.inl ⟨by rfl, ?hyq⟩) hS ?_
                          case hyq =>
                            intro w hw
                            go_simp
                            try (with_reducible rfl)
                          refine wpAnyH_take (i := 39) (v := ?_) rfl (by kernel_rfl) (by kernel_rfl) (by kernel_rfl) (fun _ _ _ h => h) (Or.inl ⟨by rfl, ?hyq⟩) hS ?_
                          case hyq =>
                            intro w hw
                            go_simp
                            try (with_reducible rfl)
                          refine wpAnyH_take (i := 40) (v := ?_) rfl (by kernel_rfl) (by kernel_rfl) (by kernel_rfl) (fun _ _ _ h => h) (Or.inl ⟨by rfl, ?hyq⟩) hS ?_
                          case hyq =>
                            intro w hw
                            go_simp
                            try (with_reducible rfl)
                          refine wpAnyH_ready (rs := [41]) (by kernel_rfl) (by simp) ?_
                          refine all_consH rfl (fun K hK => ?_) ?_
                          · skip
                            refine Stp.mk ?_
                            go_simp
                            have hSn := hS
                            refine hK.out _ _ hSn (fun hS => ?_)
                            clear hK K hSn
                            refine wpAnyH_done (by kernel_rfl) ?_ _
                            have hbw := below_to HBW.out hS HBW.out.size
                            clear HF1 HF2
                            go_wp2
                            go_ret
                            exact ⟨rfl, hbw⟩
                          exact AllReadyH.nil
                        exact AllReadyH.nil
                      exact AllReadyH.nil
                    exact AllReadyH.nil
                  exact AllReadyH.nil
                exact AllReadyH.nil
              exact AllReadyH.nil
            refine all_consH rfl (fun K hK => ?_) ?_
            · skip
              refine Stp.mk ?_
              go_simp
              go_wp2_with fail
              refine (C6.out _ hS).mono ?_
              rintro e w3 ⟨A2, c2, rfl, f2, b2⟩
              have hSn := below_to hS b2 hS.size
              have HF2 := Lib.hid f2
              replace HF1 := Lib.hid (HF1.out.below b2 (Nat.le_refl _))
              clear f2 b2
              go_wp2
              refine hK.out _ _ hSn (fun hS => ?_)
              clear hK K hSn
              refine wpAnyH_ready (rs := [15, 18]) (by kernel_rfl) (by simp) ?_
              refine all_consH rfl (fun K hK => ?_) ?_
              · skip
                refine Stp.mk ?_
                have k1 := mconv HF1.out.rd c1
                go_simp
                clear k1
                have hSn := hS
                refine hK.out _ _ hSn (fun hS => ?_)
                clear hK K hSn
                refine wpAnyH_ready (rs := [18]) (by kernel_rfl) (by simp) ?_
                refine all_consH rfl (fun K hK => ?_) ?_
                · skip
                  refine Stp.mk ?_
                  have k2 := mconv HF2.out.rd c2
                  go_simp
                  clear k2
                  have hSn := hS
                  refine hK.out _ _ hSn (fun hS => ?_)
                  clear hK K hSn
                  refine wpAnyH_take (i := 19) (v := ?_) rfl (by kernel_rfl) (by kernel_rfl) (by kernel_rfl) (fun _ _ _ h => h) (Or.inl ⟨by rfl, ?hyq⟩) hS ?_
                  case hyq =>
                    intro w hw
                    go_simp
                    try (with_reducible rfl)
                  refine wpAnyH_take (i := 20) (v := ?_) rfl (by kernel_rfl) (by kernel_rfl) (by kernel_rfl) (fun _ _ _ h => h) (Or.inl ⟨by rfl, ?hyq⟩) hS ?_
                  case hyq =>
                    intro w hw
                    go_simp
                    try (with_reducible rfl)
                  refine wpAnyH_take (i := 21) (v := ?_) rfl (by kernel_rfl) (by kernel_rfl) (by kernel_rfl) (fun _ _ _ h => h) (Or.inl ⟨by rfl, ?hyq⟩) hS ?_
                  case hyq =>
                    intro w hw
                    go_simp
                    try (with_reducible rfl)
                  refine wpAnyH_take (i := 22) (v := ?_) rfl (by kernel_rfl) (by kernel_rfl) (by kernel_rfl) (fun _ _ _ h => h) (Or.inl ⟨by rfl, ?hyq⟩) hS ?_
                  case hyq =>
                    intro w hw
                    obtain ⟨kx0, kx1, kx2, kx3⟩ := (HBX.out.below hw HBXL.out).cells
                    go_simp
                    try (with_reducible rfl)
                  refine wpAnyH_take (i := 24) (v := ?_) rfl (by kernel_rfl) (by kernel_rfl) (by kernel_rfl) (fun _ _ _ h => h) (Or.inl ⟨by rfl, ?hyq⟩) hS ?_
                  case hyq =>
                    intro w hw
                    obtain ⟨kx0, kx1, kx2, kx3⟩ := (HBX.out.below hw HBXL.out).cells
                    go_simp
                    try (with_reducible rfl)
                  refine wpAnyH_ready (rs := [23]) (by kernel_rfl) (by simp) ?_
                  refine all_consH rfl (fun K hK => ?_) ?_
                  · skip
                    refine Stp.mk ?_
                    go_simp
                    go_wp2_with fail
                    refine (C7.out _ hS).mono ?_
                    rintro e w2 ⟨rfl, b1⟩
                    have hSn := below_to hS b1 hS.size
                    clear b1
                    go_wp2
                    refine hK.out _ _ hSn (fun hS => ?_)
                    clear hK K hSn
                    refine wpAnyH_ready (rs := [25]) (by kernel_rfl) (by simp) ?_
                    refine all_consH rfl (fun K hK => ?_) ?_
                    · skip
                      refine Stp.mk ?_
                      go_simp
                      go_wp2_with fail
                      refine (C8.out _ hS).mono ?_
                      rintro e w2 ⟨rfl, b1⟩
                      have hSn := below_to hS b1 hS.size
                      clear b1
                      go_wp2
                      refine hK.out _ _ hSn (fun hS => ?_)
                      clear hK K hSn
                      refine wpAnyH_take (i := 26) (v := ?_) rfl (by kernel_rfl) (by kernel_rfl) (by kernel_rfl) (fun _ _ _ h => h) (Or.inl ⟨by rfl, ?hyq⟩) hS ?_
                      case hyq =>
                        intro w hw
                        have ke := HE2.out w
                        go_simp
                        try (with_reducible rfl)
                      refine wpAnyH_take (i := 27) (v := ?_) rfl (by kernel_rfl) (by kernel_rfl) (by kernel_rfl) (fun _ _ _ h => h) (Or.inl ⟨by rfl, ?hyq⟩) hS ?_
                      case hyq =>
                        intro w hw
                        go_simp
                        try (with_reducible rfl)
                      refine wpAnyH_take (i := 28) (v := ?_) rfl (by kernel_rfl) (by kernel_rfl) (by kernel_rfl) (fun _ _ _ h => h) (Or.inl ⟨by rfl, ?hyq⟩) hS ?_
                      case hyq =>
                        intro w hw
                        go_simp
                        try (with_reducible rfl)
                      refine wpAnyH_take (i := 29) (v := ?_) rfl (by kernel_rfl) (by kernel_rfl) (by kernel_rfl) (fun _ _ _ h => h) (Or.inl ⟨by rfl, ?hyq⟩) hS ?_
                      case hyq =>
                        intro w hw
                        obtain ⟨kx0, kx1, kx2, kx3⟩ := (HBX.out.below hw HBXL.out).cells
                        go_simp
                        try (with_reducible rfl)
                      refine wpAnyH_take (i := 31) (v := ?_) rfl (by kernel_rfl) (by kernel_rfl) (by kernel_rfl) (fun _ _ _ h => h) (Or.inl ⟨by rfl, ?hyq⟩) hS ?_
                      case hyq =>
                        intro w hw
                        obtain ⟨kx0, kx1, kx2, kx3⟩ := (HBX.out.below hw HBXL.out).cells
                        go_simp
                        try (with_reducible rfl)
                      refine wpAnyH_ready (rs := [30]) (by kernel_rfl) (by simp) ?_
                      refine all_consH rfl (fun K hK => ?_) ?_
                      · skip
                        refine Stp.mk ?_
                        go_simp
                        go_wp2_with fail
                        refine (C9.out _ hS).mono ?_
                        rintro e w2 ⟨rfl, b1⟩
                        have hSn := below_to hS b1 hS.size
                        clear b1
                        go_wp2
                        refine hK.out _ _ hSn (fun hS => ?_)
                        clear hK K hSn
                        refine wpAnyH_ready (rs := [32]) (by kernel_rfl) (by simp) ?_
                        refine all_consH rfl (fun K hK => ?_) ?_
                        · skip
                          refine Stp.mk ?_
                          go_simp
                          go_wp2_with fail
                          refine (C10.out _ hS).mono ?_
                          rintro e w2 ⟨rfl, b1⟩
                          have hSn := below_to hS b1 hS.size
                          clear b1
                          go_wp2
                          refine hK.out _ _ hSn (fun hS => ?_)
                          clear hK K hSn
                          refine wpAnyH_take (i := 33) (v := ?_) rfl (by kernel_rfl) (by kernel_rfl) (by kernel_rfl) (fun _ _ _ h => h) (Or.inl ⟨by rfl, ?hyq⟩) hS ?_
                          case hyq =>
                            intro w hw
                            have ke := HE3.out w
                            go_simp
                            try (with_reducible rfl)
                          refine wpAnyH_take (i := 34) (v := ?_) rfl (by kernel_rfl) (by kernel_rfl) (by kernel_rfl) (fun _ _ _ h => h) (Or.inl ⟨by rfl, ?hyq⟩) hS ?_
                          case hyq =>
                            intro w hw
                            go_simp
                            try (with_reducible rfl)
                          refine wpAnyH_take (i := 35) (v := ?_) rfl (by kernel_rfl) (by kernel_rfl) (by kernel_rfl) (fun _ _ _ h => h) (Or.inl ⟨by rfl, ?hyq⟩) hS ?_
                          case hyq =>
                            intro w hw
                            go_simp
                            try (with_reducible rfl)
                          refine wpAnyH_take (i := 36) (v := ?_) rfl (by kernel_rfl) (by kernel_rfl) (by kernel_rfl) (fun _ _ _ h => h) (Or.inl ⟨by rfl, ?hyq⟩) hS ?_
                          case hyq =>
                            intro w hw
                            go_simp
                            try (with_reducible rfl)
                          refine wpAnyH_take (i := 37) (v := ?_) rfl (by kernel_rfl) (by kernel_rfl) (by kernel_rfl) (fun _ _ _ h => h) (Or.inl ⟨by rfl, ?hyq⟩) hS ?_
                          case hyq =>
                            intro w hw
                            have kx := mconv (HR.out.below hw) c
                            go_simp
                            try (with_reducible rfl)
                          refine wpAnyH_take (i := 38) (v := ?_) rfl (by kernel_rfl) (by kernel_rfl) (by kernel_rfl) (fun _ _ _ h => h) (Or.inl ⟨by rfl, ?hyq⟩) hS ?_
                          case hyq =>
                            intro w hw
                            go_simp
                            try (with_reducible rfl)
                          refine wpAnyH_take (i := 39) (v := ?_) rfl (by kernel_rfl) (by kernel_rfl) (by kernel_rfl) (fun _ _ _ h => h) (Or.inl ⟨by rfl, ?hyq⟩) hS ?_
                          case hyq =>
                            intro w hw
                            go_simp
                            try (with_reducible rfl)
                          refine wpAnyH_take (i := 40) (v := ?_) rfl (by kernel_rfl) (by kernel_rfl) (by kernel_rfl) (fun _ _ _ h => h) (Or.inl ⟨by rfl, ?hyq⟩) hS ?_
                          case hyq =>
                            intro w hw
                            go_simp
                            try (with_reducible rfl)
                          refine wpAnyH_ready (rs := [41]) (by kernel_rfl) (by simp) ?_
                          refine all_consH rfl (fun K hK => ?_) ?_
                          · skip
                            refine Stp.mk ?_
                            go_simp
                            have hSn := hS
                            refine hK.out _ _ hSn (fun hS => ?_)
                            clear hK K hSn
                            refine wpAnyH_done (by kernel_rfl) ?_ _
                            have hbw := below_to HBW.out hS HBW.out.size
                            clear HF1 HF2
                            go_wp2
                            go_ret
                            exact ⟨rfl, hbw⟩
                          exact AllReadyH.nil
                        exact AllReadyH.nil
                      exact AllReadyH.nil
                    exact AllReadyH.nil
                  exact AllReadyH.nil
                exact AllReadyH.nil
              refine all_consH rfl (fun K hK => ?_) ?_
              · skip
                refine Stp.mk ?_
                have k2 := mconv HF2.out.rd c2
                go_simp
                clear k2
                have hSn := hS
                refine hK.out _ _ hSn (fun hS => ?_)
                clear hK K hSn
                refine wpAnyH_ready (rs := [15]) (by kernel_rfl) (by simp) ?_
                refine all_consH rfl (fun K hK => ?_) ?_
                · skip
                  refine Stp.mk ?_
                  have k1 := mconv HF1.out.rd c1
                  go_simp
                  clear k1
                  have hSn := hS
                  refine hK.out _ _ hSn (fun hS => ?_)
                  clear hK K hSn
                  refine wpAnyH_take (i := 19) (v := ?_) rfl (by kernel_rfl) (by kernel_rfl) (by kernel_rfl) (fun _ _ _ h => h) (Or.inl ⟨by rfl, ?hyq⟩) hS ?_
                  case hyq =>
                    intro w hw
                    go_simp
                    try (with_reducible rfl)
                  refine wpAnyH_take (i := 20) (v := ?_) rfl (by kernel_rfl) (by kernel_rfl) (by kernel_rfl) (fun _ _ _ h => h) (Or.inl ⟨by rfl, ?hyq⟩) hS ?_
                  case hyq =>
                    intro w hw
                    go_simp
                    try (with_reducible rfl)
                  refine wpAnyH_take (i := 21) (v := ?_) rfl (by kernel_rfl) (by kernel_rfl) (by kernel_rfl) (fun _ _ _ h => h) (Or.inl ⟨by rfl, ?hyq⟩) hS ?_
                  case hyq =>
                    intro w hw
                    go_simp
                    try (with_reducible rfl)
                  refine wpAnyH_take (i := 22) (v := ?_) rfl (by kernel_rfl) (by kernel_rfl) (by kernel_rfl) (fun _ _ _ h => h) (Or.inl ⟨by rfl, ?hyq⟩) hS ?_
                  case hyq =>
                    intro w hw
                    obtain ⟨kx0, kx1, kx2, kx3⟩ := (HBX.out.below hw HBXL.out).cells
                    go_simp
                    try (with_reducible rfl)
                  refine wpAnyH_take (i := 24) (v := ?_) rfl (by kernel_rfl) (by kernel_rfl) (by kernel_rfl) (fun _ _ _ h => h) (Or.inl ⟨by rfl, ?hyq⟩) hS ?_
                  case hyq =>
                    intro w hw
                    obtain ⟨kx0, kx1, kx2, kx3⟩ := (HBX.out.below hw HBXL.out).cells
                    go_simp
                    try (with_reducible rfl)
                  refine wpAnyH_ready (rs := [23]) (by kernel_rfl) (by simp) ?_
                  refine all_consH rfl (fun K hK => ?_) ?_
                  · skip
                    refine Stp.mk ?_
                    go_simp
                    go_wp2_with fail
                    refine (C7.out _ hS).mono ?_
                    rintro e w2 ⟨rfl, b1⟩
                    have hSn := below_to hS b1 hS.size
                    clear b1
                    go_wp2
                    refine hK.out _ _ hSn (fun hS => ?_)
                    clear hK K hSn
                    refine wpAnyH_ready (rs := [25]) (by kernel_rfl) (by simp) ?_
                    refine all_consH rfl (fun K hK => ?_) ?_
                    · skip
                      refine Stp.mk ?_
                      go_simp
                      go_wp2_with fail
                      refine (C8.out _ hS).mono ?_
                      rintro e w2 ⟨rfl, b1⟩
                      have hSn := below_to hS b1 hS.size
                      clear b1
                      go_wp2
                      refine hK.out _ _ hSn (fun hS => ?_)
                      clear hK K hSn
                      refine wpAnyH_take (i := 26) (v := ?_) rfl (by kernel_rfl) (by kernel_rfl) (by kernel_rfl) (fun _ _ _ h => h) (Or.inl ⟨by rfl, ?hyq⟩) hS ?_
                      case hyq =>
                        intro w hw
                        have ke := HE2.out w
                        go_simp
                        try (with_reducible rfl)
                      refine wpAnyH_take (i := 27) (v := ?_) rfl (by kernel_rfl) (by kernel_rfl) (by kernel_rfl) (fun _ _ _ h => h) (Or.inl ⟨by rfl, ?hyq⟩) hS ?_
                      case hyq =>
                        intro w hw
                        go_simp
                        try (with_reducible rfl)
                      refine wpAnyH_take (i := 28) (v := ?_) rfl (by kernel_rfl) (by kernel_rfl) (by kernel_rfl) (fun _ _ _ h => h) (Or.inl ⟨by rfl, ?hyq⟩) hS ?_
                      case hyq =>
                        intro w hw
                        go_simp
                        try (with_reducible rfl)
                      refine wpAnyH_take (i := 29) (v := ?_) rfl (by kernel_rfl) (by kernel_rfl) (by kernel_rfl) (fun _ _ _ h => h) (Or.inl ⟨by rfl, ?hyq⟩) hS ?_
                      case hyq =>
                        intro w hw
                        obtain ⟨kx0, kx1, kx2, kx3⟩ := (HBX.out.below hw HBXL.out).cells
                        go_simp
                        try (with_reducible rfl)
                      refine wpAnyH_take (i := 31) (v := ?_) rfl (by kernel_rfl) (by kernel_rfl) (by kernel_rfl) (fun _ _ _ h => h) (Or.inl ⟨by rfl, ?hyq⟩) hS ?_
                      case hyq =>
                        intro w hw
                        obtain ⟨kx0, kx1, kx2, kx3⟩ := (HBX.out.below hw HBXL.out).cells
                        go_simp
                        try (with_reducible rfl)
                      refine wpAnyH_ready (rs := [30]) (by kernel_rfl) (by simp) ?_
                      refine all_consH rfl (fun K hK => ?_) ?_
                      · skip
                        refine Stp.mk ?_
                        go_simp
                        go_wp2_with fail
                        refine (C9.out _ hS).mono ?_
                        rintro e w2 ⟨rfl, b1⟩
                        have hSn := below_to hS b1 hS.size
                        clear b1
                        go_wp2
                        refine hK.out _ _ hSn (fun hS => ?_)
                        clear hK K hSn
                        refine wpAnyH_ready (rs := [32]) (by kernel_rfl) (by simp) ?_
                        refine all_consH rfl (fun K hK => ?_) ?_
                        · skip
                          refine Stp.mk ?_
                          go_simp
                          go_wp2_with fail
                          refine (C10.out _ hS).mono ?_
                          rintro e w2 ⟨rfl, b1⟩
                          have hSn := below_to hS b1 hS.size
                          clear b1
                          go_wp2
                          refine hK.out _ _ hSn (fun hS => ?_)
                          clear hK K hSn
                          refine wpAnyH_take (i := 33) (v := ?_) rfl (by kernel_rfl) (by kernel_rfl) (by kernel_rfl) (fun _ _ _ h => h) (Or.inl ⟨by rfl, ?hyq⟩) hS ?_
                          case hyq =>
                            intro w hw
                            have ke := HE3.out w
                            go_simp
                            try (with_reducible rfl)
                          refine wpAnyH_take (i := 34) (v := ?_) rfl (by kernel_rfl) (by kernel_rfl) (by kernel_rfl) (fun _ _ _ h => h) (Or.inl ⟨by rfl, ?hyq⟩) hS ?_
                          case hyq =>
                            intro w hw
                            go_simp
                            try (with_reducible rfl)
                          refine wpAnyH_take (i := 35) (v := ?_) rfl (by kernel_rfl) (by kernel_rfl) (by kernel_rfl) (fun _ _ _ h => h) (Or.inl ⟨by rfl, ?hyq⟩) hS ?_
                          case hyq =>
                            intro w hw
                            go_simp
                            try (with_reducible rfl)
                          refine wpAnyH_take (i := 36) (v := ?_) rfl (by kernel_rfl) (by kernel_rfl) (by kernel_rfl) (fun _ _ _ h => h) (Or.inl ⟨by rfl, ?hyq⟩) hS ?_
                          case hyq =>
                            intro w hw
                            go_simp
                            try (with_reducible rfl)
                          refine wpAnyH_take (i := 37) (v := ?_) rfl (by kernel_rfl) (by kernel_rfl) (by kernel_rfl) (fun _ _ _ h => h) (Or.inl ⟨by rfl, ?hyq⟩) hS ?_
                          case hyq =>
                            intro w hw
                            have kx := mconv (HR.out.below hw) c
                            go_simp
                            try (with_reducible rfl)
                          refine wpAnyH_take (i := 38) (v := ?_) rfl (by kernel_rfl) (by kernel_rfl) (by kernel_rfl) (fun _ _ _ h => h) (Or.inl ⟨by rfl, ?hyq⟩) hS ?_
                          case hyq =>
                            intro w hw
                            go_simp
                            try (with_reducible rfl)
                          refine wpAnyH_take (i := 39) (v := ?_) rfl (by kernel_rfl) (by kernel_rfl) (by kernel_rfl) (fun _ _ _ h => h) (Or.inl ⟨by rfl, ?hyq⟩) hS ?_
                          case hyq =>
                            intro w hw
                            go_simp
                            try (with_reducible rfl)
                          refine wpAnyH_take (i := 40) (v := ?_) rfl (by kernel_rfl) (by kernel_rfl) (by kernel_rfl) (fun _ _ _ h => h) (Or.inl ⟨by rfl, ?hyq⟩) hS ?_
                          case hyq =>
                            intro w hw
                            go_simp
                            try (with_reducible rfl)
                          refine wpAnyH_ready (rs := [41]) (by kernel_rfl) (by simp) ?_
                          refine all_consH rfl (fun K hK => ?_) ?_
                          · skip
                            refine Stp.mk ?_
                            go_simp
                            have hSn := hS
                            refine hK.out _ _ hSn (fun hS => ?_)
                            clear hK K hSn
                            refine wpAnyH_done (by kernel_rfl) ?_ _
                            have hbw := below_to HBW.out hS HBW.out.size
                            clear HF1 HF2
                            go_wp2
                            go_ret
                            exact ⟨rfl, hbw⟩
                          exact AllReadyH.nil
                        exact AllReadyH.nil
                      exact AllReadyH.nil
                    exact AllReadyH.nil
                  exact AllReadyH.nil
                exact AllReadyH.nil
              exact AllReadyH.nil
            exact AllReadyH.nil
          exact AllReadyH.nil
        exact AllReadyH.nil
      exact AllReadyH.nil
    exact AllReadyH.nil
  exact AllReadyH.nil
theorem mixTells_walk (A : Option Addr) (n c : Nat) (l : List UInt8) (x : W4) (w : World) (hl : l.length = n) (hc : n ≤ c) (hr : Rd w w.heap.size 1 A n (bvs l)) :
    Calls Try.prog 8 #[.slice A n c, .agg #[.int .u32 (wi x.a), .int .u32 (wi x.b), .int .u32 (wi x.c), .int .u32 (wi x.d)]] w fun e w' => e = .returned (.bool true) ∧ Below w.heap.size w w' := by
  by_cases h1 : 10000 < (n : Int)
  · exact mixt_big A n c x w h1
  · exact mixt_ok A n c l x w (by simp; omega) hl hc hr
end Go.Proofs.Ytfjjkkakhfgdhaa
