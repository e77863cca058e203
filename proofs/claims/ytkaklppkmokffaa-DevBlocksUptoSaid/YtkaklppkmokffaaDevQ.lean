/-
  Contract of dev.Tamper.
-/
import Derived.Test.YtkaklppkmokffaaDevP
namespace Go.Proofs.Ytkaklppkmokffaa
open Go.RowKit
set_option linter.unusedVariables false
set_option linter.unusedSimpArgs false
set_option maxRecDepth 100000

theorem gd_tamper (d : Dk) (G G1 G2 G3 : Nat) (at_ byt : Int) (v : UInt8) (w : World) (hG : DkBox w G (.slice d.A d.nB d.cB) (.slice d.W d.nW d.cW)) (h1 : w.cell? ⟨G1, 0, none⟩ = some (.int .i64 at_)) (h2 : w.cell? ⟨G2, 0, none⟩ = some (.int .i64 byt)) (h3 : w.cell? ⟨G3, 0, none⟩ = some (.int .u8 (v.toNat : Int)))
    (hlt : G1 < w.heap.size ∧ G2 < w.heap.size ∧ G3 < w.heap.size) (hne : G ≠ G1 ∧ G ≠ G2 ∧ G ≠ G3)
    (hd : d.ok w) (hB6 : (d.nB : Int) ≤ 1000000) (hW6 : (d.nW : Int) ≤ 1000000) (is : Bool) (his : is = decide ((0 ≤ at_ ∧ at_ < 256) ∧ 0 ≤ byt ∧ byt < 256)) (E : Int) (hE : E = errG d.c is) :
    Calls Try.prog 34 #[.agg #[.slice d.A d.nB d.cB, .slice d.W d.nW d.cW], .bool is, .func (.func 43) #[] #[.pointer (some ⟨G, 0, none⟩), .pointer (some ⟨G1, 0, none⟩), .pointer (some ⟨G2, 0, none⟩), .pointer (some ⟨G3, 0, none⟩)]] w
      (GdP (NwR (d.c.tamper at_.toNat byt.toNat v) (w.heap.size + 2)) (some G) E w) :=
  d_guarded d w hd hB6 hW6 is 43 #[.pointer (some ⟨G, 0, none⟩), .pointer (some ⟨G1, 0, none⟩), .pointer (some ⟨G2, 0, none⟩), .pointer (some ⟨G3, 0, none⟩)] e_doTamper (NwR (d.c.tamper at_.toNat byt.toNat v) (w.heap.size + 2)) (some G) (fun j hj => by cases hj; exact hG.lt) E hE
    (fun hmay hi W hW hWs => by
      rw [his] at hi
      obtain ⟨⟨a0, a1⟩, b0, b1⟩ := of_decide_eq_true hi
      have hg := hG.lt
      have ha : at_ = (at_.toNat : Int) := by omega
      have hb : byt = (byt.toNat : Int) := by omega
      exact d_doTamper G G1 G2 G3 d at_.toNat byt.toNat v W (hG.below hW hG.lt) (hd.below hW) hmay (w.heap.size + 2) hWs (by rw [← ha]; exact (hW.cell (p := ⟨G1, 0, none⟩) hlt.1).trans h1) (by rw [← hb]; exact (hW.cell (p := ⟨G2, 0, none⟩) hlt.2.1).trans h2) ((hW.cell (p := ⟨G3, 0, none⟩) hlt.2.2).trans h3)
        ⟨by omega, by omega, by omega, by omega⟩ hne (by omega) (by omega)) (NwR.stable (by omega))
theorem cell_new (w : World) (v : Value) (t : TypeId) : (w.alloc (.cells #[v] t)).cell? ⟨w.heap.size, 0, none⟩ = some v := by
  rw [cell_of_row _ _ 0 _ _ _ (heap_alloc_new w _)]
  rfl
theorem cell_alloc {w : World} {g i : Nat} {v : Value} (h : w.cell? ⟨g, i, none⟩ = some v) (hg : g < w.heap.size) (o : Obj) : (w.alloc o).cell? ⟨g, i, none⟩ = some v := (World.cell?_alloc_lt w o ⟨g, i, none⟩ hg).trans h
structure CellsS (G : Nat) (d : Dk) (at_ byt : Int) (V : World) : Prop where
  g : DkBox V G (.slice d.A d.nB d.cB) (.slice d.W d.nW d.cW)
  c1 : V.cell? ⟨G + 1, 0, none⟩ = some (.int .i64 at_)
  c2 : V.cell? ⟨G + 2, 0, none⟩ = some (.int .i64 byt)
set_option maxHeartbeats 2000000 in
theorem d_tamper (d : Dk) (w : World) (hd : d.ok w) (hB6 : (d.nB : Int) ≤ 1000000) (hW6 : (d.nW : Int) ≤ 1000000) (at_ byt : Int) (v : UInt8) (hat : I64 at_) (hbt : I64 byt) (E : Int) (hE : E = errG d.c (decide ((0 ≤ at_ ∧ at_ < 256) ∧ 0 ≤ byt ∧ byt < 256))) :
    Calls Try.prog 18 #[d.v, .int .i64 at_, .int .i64 byt, .int .u8 (v.toNat : Int)] w (AnsP (d.c.tamper at_.toNat byt.toNat v) E w) := by
  obtain ⟨w1, hw1⟩ : ∃ V, V = w.alloc (.cells #[.slice d.A d.nB d.cB, .slice d.W d.nW d.cW] 25) := ⟨_, rfl⟩
  obtain ⟨w2, hw2⟩ : ∃ V, V = w1.alloc (.cells #[.int .i64 at_] 3) := ⟨_, rfl⟩
  obtain ⟨w3, hw3⟩ : ∃ V, V = w2.alloc (.cells #[.int .i64 byt] 3) := ⟨_, rfl⟩
  obtain ⟨w4, hw4⟩ : ∃ V, V = w3.alloc (.cells #[.int .u8 (v.toNat : Int)] 5) := ⟨_, rfl⟩
  obtain ⟨w5, hw5⟩ : ∃ V, V = w4.alloc (.cells #[.slice none 0 0, .slice none 0 0] 25) := ⟨_, rfl⟩
  have z1 : w1.heap.size = w.heap.size + 1 := by rw [hw1]; simp
  have z2 : w2.heap.size = w.heap.size + 2 := by rw [hw2, World.size_alloc, z1]
  have z3 : w3.heap.size = w.heap.size + 3 := by rw [hw3, World.size_alloc, z2]
  have z4 : w4.heap.size = w.heap.size + 4 := by rw [hw4, World.size_alloc, z3]
  have z5 : w5.heap.size = w.heap.size + 5 := by rw [hw5, World.size_alloc, z4]
  have b1 : Below w.heap.size w w1 := by rw [hw1]; exact below_new' _ _
  have b2 : Below w.heap.size w w2 := by rw [hw2]; exact b1.alloc (by omega) _
  have b3 : Below w.heap.size w w3 := by rw [hw3]; exact b2.alloc (by omega) _
  have b4 : Below w.heap.size w w4 := by rw [hw4]; exact b3.alloc (by omega) _
  have b5 : Below w.heap.size w w5 := by rw [hw5]; exact b4.alloc (by omega) _
  have g1 : DkBox w1 w.heap.size (.slice d.A d.nB d.cB) (.slice d.W d.nW d.cW) := by rw [hw1]; exact DkBox.new _ _ _
  have g5 : DkBox w5 w.heap.size (.slice d.A d.nB d.cB) (.slice d.W d.nW d.cW) := by
    rw [hw5, hw4, hw3, hw2]
    exact (((g1.alloc _).alloc _).alloc _).alloc _
  have x5 : DkBox w5 (w.heap.size + 4) (.slice none 0 0) (.slice none 0 0) := by
    rw [hw5, ← z4]
    exact DkBox.new _ _ _
  have c1 : w5.cell? ⟨w.heap.size + 1, 0, none⟩ = some (.int .i64 at_) := by
    have h : w2.cell? ⟨w.heap.size + 1, 0, none⟩ = some (.int .i64 at_) := by
      rw [hw2, ← z1]
      exact cell_new _ _ _
    rw [hw5, hw4, hw3]
    exact cell_alloc (cell_alloc (cell_alloc h (by omega) _) (by simp; omega) _) (by simp; omega) _
  have c2 : w5.cell? ⟨w.heap.size + 2, 0, none⟩ = some (.int .i64 byt) := by
    have h : w3.cell? ⟨w.heap.size + 2, 0, none⟩ = some (.int .i64 byt) := by
      rw [hw3, ← z2]
      exact cell_new _ _ _
    rw [hw5, hw4]
    exact cell_alloc (cell_alloc h (by omega) _) (by simp; omega) _
  have c3 : w5.cell? ⟨w.heap.size + 3, 0, none⟩ = some (.int .u8 (v.toNat : Int)) := by
    have h : w4.cell? ⟨w.heap.size + 3, 0, none⟩ = some (.int .u8 (v.toNat : Int)) := by
      rw [hw4, ← z3]
      exact cell_new _ _ _
    rw [hw5]
    exact cell_alloc h (by omega) _
  have hp1 := fun W => d_place at_ hat W _ rfl
  have hp2 := fun W => d_place byt hbt W _ rfl
  obtain ⟨v1, hv1⟩ : ∃ q, q = decide (0 ≤ at_ ∧ at_ < 256) := ⟨_, rfl⟩
  obtain ⟨v2, hv2⟩ : ∃ q, q = decide (0 ≤ byt ∧ byt < 256) := ⟨_, rfl⟩
  have hvv : (v1 && v2) = decide ((0 ≤ at_ ∧ at_ < 256) ∧ 0 ≤ byt ∧ byt < 256) := by rw [hv1, hv2, Bool.decide_and (0 ≤ at_ ∧ at_ < 256)]
  rw [← hvv] at hE
  have hgd := gd_tamper d w.heap.size (w.heap.size + 1) (w.heap.size + 2) (w.heap.size + 3) at_ byt v w5.drew g5 c1 c2 c3 ⟨by show _ < w5.heap.size; omega, by show _ < w5.heap.size; omega, by show _ < w5.heap.size; omega⟩ ⟨by omega, by omega, by omega⟩ ((hd.below b5).below ((Below.refl _ _).drew)) hB6 hW6 (v1 && v2) hvv E hE
  rw [← hv1] at hp1
  rw [← hv2] at hp2
  have HP1 := Lib.hid hp1
  have HP2 := Lib.hid hp2
  have HGD := Lib.hid hgd
  have HX5 := Lib.hid x5
  have HB5 := Lib.hid b5
  have HW := Lib.hid (show w5 = ((((w.alloc (.cells #[.slice d.A d.nB d.cB, .slice d.W d.nW d.cW] 25)).alloc (.cells #[.int .i64 at_] 3)).alloc (.cells #[.int .i64 byt] 3)).alloc (.cells #[.int .u8 (v.toNat : Int)] 5)).alloc (.cells #[.slice none 0 0, .slice none 0 0] 25) from by rw [hw5, hw4, hw3, hw2, hw1])
  have HG5 := Lib.hid g5
  have C1 := Lib.hid (show w5.drew.cell? ⟨w.heap.size + 1, 0, none⟩ = _ from c1)
  have C2 := Lib.hid (show w5.drew.cell? ⟨w.heap.size + 2, 0, none⟩ = _ from c2)
  clear hw1 hw2 hw3 hw4 hw5 z1 z2 z3 z4 b1 b2 b3 b4 b5 g1 g5 x5 hp1 hp2 hgd hd hE hvv hv1 hv2 hat hbt
  simp only [Dk.v] at *
  go_enter Try.func18, Try.ntmps18
  go_wp2
  rw [← HW.out]
  have hS0 : CellsS w.heap.size d at_ byt w5.drew := ⟨HG5.out, C1.out, C2.out⟩
  have HX5d := Lib.hid (show DkBox w5.drew (w.heap.size + 4) (.slice none 0 0) (.slice none 0 0) from HX5.out)
  have HB5d := Lib.hid (HB5.out.drew)
  clear HW C1 C2
  cases v1 with
  | true =>
    refine wp_region_any (by kernel_rfl) ?_
    try (change wpAny _ _ _ _ _ _ _ (World.drew _))
    refine wpAny_take (i := 7) (v := ?_) rfl (by kernel_rfl) (by kernel_rfl) (by kernel_rfl) (fun _ _ _ h => h) (Or.inl ⟨by rfl, ?hyq⟩) ?_
    case hyq => (intro w; go_simp; try (with_reducible rfl))
    refine wpAny_ready (rs := [0, 1]) (by kernel_rfl) (by simp) ?_
    refine all_cons rfl (fun K hK => ?_) ?_
    · skip
      refine Stp.mk ?_
      obtain ⟨k0, k1⟩ := hS0.g.cells
      go_simp
      clear k0 k1
      refine hK _ _ ?_
      clear hK K
      refine wpAny_ready (rs := [1]) (by kernel_rfl) (by simp) ?_
      refine all_cons rfl (fun K hK => ?_) ?_
      · skip
        refine Stp.mk ?_
        have k0 := hS0.c1
        go_simp
        clear k0
        refine hK _ _ ?_
        clear hK K
        refine wpAny_ready (rs := [2]) (by kernel_rfl) (by simp) ?_
        refine all_cons rfl (fun K hK => ?_) ?_
        · skip
          refine Stp.mk ?_
          go_simp
          go_wp2_with fail
          refine (HP1.out _).mono ?_
          rintro e w6 ⟨rfl, rfl⟩
          go_wp2
          refine wpAny_take (i := 3) (v := ?_) rfl (by kernel_rfl) (by kernel_rfl) (by kernel_rfl) (fun _ _ _ h => h) (Or.inl ⟨by rfl, ?hyq⟩) ?_
          case hyq => (intro w; go_simp; try (with_reducible rfl))
          refine wpAny_ready (rs := [4]) (by kernel_rfl) (by simp) ?_
          refine all_cons rfl (fun K hK => ?_) ?_
          · skip
            refine Stp.mk ?_
            have k0 := hS0.c2
            go_simp
            clear k0
            refine hK _ _ ?_
            clear hK K
            refine wpAny_ready (rs := [5]) (by kernel_rfl) (by simp) ?_
            refine all_cons rfl (fun K hK => ?_) ?_
            · skip
              refine Stp.mk ?_
              go_simp
              go_wp2_with fail
              refine (HP2.out _).mono ?_
              rintro e w6 ⟨rfl, rfl⟩
              go_wp2
              refine wpAny_take (i := 6) (v := ?_) rfl (by kernel_rfl) (by kernel_rfl) (by kernel_rfl) (fun _ _ _ h => h) (Or.inl ⟨by rfl, ?hyq⟩) ?_
              case hyq => (intro w; go_simp; try (with_reducible rfl))
              refine wpAny_ready (rs := [8]) (by kernel_rfl) (by simp) ?_
              refine all_cons rfl (fun K hK => ?_) ?_
              · skip
                refine Stp.mk ?_
                go_simp
                go_wp2_with fail
                refine HGD.out.mono ?_
                rintro e w6 ⟨d', rfl, h0, hne, hg6⟩
                have HX6 := Lib.hid (HX5d.out.grown hg6 (by simp))
                have hnw : Nw (if E = 0 then d.c.tamper at_.toNat byt.toNat v else ⟨[], []⟩) w.heap.size d' w6 := by
                  by_cases he : E = 0
                  · rw [if_pos he]
                    exact (show Nw _ _ _ _ from h0 he).mono (by show _ ≤ w5.heap.size + 2; omega)
                  · rw [if_neg he, hne he]
                    exact Nw.nil _ _
                have HN6 := Lib.hid hnw
                have HB6 := Lib.hid (HB5d.out.grown hg6 (by show _ ≤ w5.heap.size; omega) (by intro q hq; cases hq; exact Nat.le_refl _))
                clear h0 hne hg6 hnw
                go_wp2
                refine wpAny_take (i := 9) (v := ?_) rfl (by kernel_rfl) (by kernel_rfl) (by kernel_rfl) (fun _ _ _ h => h) (Or.inl ⟨by rfl, ?hyq⟩) ?_
                case hyq => (intro w; go_simp; try (with_reducible rfl))
                refine wpAny_take (i := 10) (v := ?_) rfl (by kernel_rfl) (by kernel_rfl) (by kernel_rfl) (fun _ _ _ h => h) (Or.inl ⟨by rfl, ?hyq⟩) ?_
                case hyq => (intro w; go_simp; try (with_reducible rfl))
                refine wpAny_ready (rs := [11]) (by kernel_rfl) (by simp) ?_
                refine all_cons rfl (fun K hK => ?_) ?_
                · skip
                  refine Stp.mk ?_
                  obtain ⟨m0, m1⟩ := HX6.out.cells
                  have mf := HX6.out.frozen
                  have hX9 := (HX6.out.put0 (.slice d'.A d'.nB d'.cB)).put1 (.slice d'.W d'.nW d'.cW)
                  have hN9 := (HN6.out.grown_box (grown_setCell _ ⟨w.heap.size + 4, 0, none⟩ (.slice d'.A d'.nB d'.cB)) HX6.out).grown_box (grown_setCell _ ⟨w.heap.size + 4, 1, none⟩ (.slice d'.W d'.nW d'.cW)) (HX6.out.put0 (.slice d'.A d'.nB d'.cB))
                  have hB9 := (HB6.out.setCell (p := ⟨w.heap.size + 4, 0, none⟩) (Nat.le_add_right _ _) (.slice d'.A d'.nB d'.cB)).setCell (p := ⟨w.heap.size + 4, 1, none⟩) (Nat.le_add_right _ _) (.slice d'.W d'.nW d'.cW)
                  go_simp
                  clear m0 m1 mf
                  refine hK _ _ ?_
                  clear hK K
                  refine wpAny_ready (rs := [12]) (by kernel_rfl) (by simp) ?_
                  refine all_cons rfl (fun K hK => ?_) ?_
                  · skip
                    refine Stp.mk ?_
                    go_simp
                    refine hK _ _ ?_
                    clear hK K
                    refine wpAny_done (by kernel_rfl) ?_ _
                    obtain ⟨y0, y1⟩ := hX9.cells
                    have HN9 := Lib.hid hN9
                    have HB9 := Lib.hid hB9
                    clear hX9 hN9 hB9
                    go_wp2
                    refine bodyPost_ret (v := .tuple #[.agg #[.slice d'.A d'.nB d'.cB, .slice d'.W d'.nW d'.cW], .int .i64 E]) (by simp [results, Try.results18, go_sem, y0, y1]) rfl ?_
                    exact ⟨d', rfl, HN9.out, HB9.out⟩
                  exact AllReady.nil
                exact AllReady.nil
              exact AllReady.nil
            exact AllReady.nil
          exact AllReady.nil
        exact AllReady.nil
      exact AllReady.nil
    refine all_cons rfl (fun K hK => ?_) ?_
    · skip
      refine Stp.mk ?_
      have k0 := hS0.c1
      go_simp
      clear k0
      refine hK _ _ ?_
      clear hK K
      refine wpAny_ready (rs := [0, 2]) (by kernel_rfl) (by simp) ?_
      refine all_cons rfl (fun K hK => ?_) ?_
      · skip
        refine Stp.mk ?_
        obtain ⟨k0, k1⟩ := hS0.g.cells
        go_simp
        clear k0 k1
        refine hK _ _ ?_
        clear hK K
        refine wpAny_ready (rs := [2]) (by kernel_rfl) (by simp) ?_
        refine all_cons rfl (fun K hK => ?_) ?_
        · skip
          refine Stp.mk ?_
          go_simp
          go_wp2_with fail
          refine (HP1.out _).mono ?_
          rintro e w6 ⟨rfl, rfl⟩
          go_wp2
          refine wpAny_take (i := 3) (v := ?_) rfl (by kernel_rfl) (by kernel_rfl) (by kernel_rfl) (fun _ _ _ h => h) (Or.inl ⟨by rfl, ?hyq⟩) ?_
          case hyq => (intro w; go_simp; try (with_reducible rfl))
          refine wpAny_ready (rs := [4]) (by kernel_rfl) (by simp) ?_
          refine all_cons rfl (fun K hK => ?_) ?_
          · skip
            refine Stp.mk ?_
            have k0 := hS0.c2
            go_simp
            clear k0
            refine hK _ _ ?_
            clear hK K
            refine wpAny_ready (rs := [5]) (by kernel_rfl) (by simp) ?_
            refine all_cons rfl (fun K hK => ?_) ?_
            · skip
              refine Stp.mk ?_
              go_simp
              go_wp2_with fail
              refine (HP2.out _).mono ?_
              rintro e w6 ⟨rfl, rfl⟩
              go_wp2
              refine wpAny_take (i := 6) (v := ?_) rfl (by kernel_rfl) (by kernel_rfl) (by kernel_rfl) (fun _ _ _ h => h) (Or.inl ⟨by rfl, ?hyq⟩) ?_
              case hyq => (intro w; go_simp; try (with_reducible rfl))
              refine wpAny_ready (rs := [8]) (by kernel_rfl) (by simp) ?_
              refine all_cons rfl (fun K hK => ?_) ?_
              · skip
                refine Stp.mk ?_
                go_simp
                go_wp2_with fail
                refine HGD.out.mono ?_
                rintro e w6 ⟨d', rfl, h0, hne, hg6⟩
                have HX6 := Lib.hid (HX5d.out.grown hg6 (by simp))
                have hnw : Nw (if E = 0 then d.c.tamper at_.toNat byt.toNat v else ⟨[], []⟩) w.heap.size d' w6 := by
                  by_cases he : E = 0
                  · rw [if_pos he]
                    exact (show Nw _ _ _ _ from h0 he).mono (by show _ ≤ w5.heap.size + 2; omega)
                  · rw [if_neg he, hne he]
                    exact Nw.nil _ _
                have HN6 := Lib.hid hnw
                have HB6 := Lib.hid (HB5d.out.grown hg6 (by show _ ≤ w5.heap.size; omega) (by intro q hq; cases hq; exact Nat.le_refl _))
                clear h0 hne hg6 hnw
                go_wp2
                refine wpAny_take (i := 9) (v := ?_) rfl (by kernel_rfl) (by kernel_rfl) (by kernel_rfl) (fun _ _ _ h => h) (Or.inl ⟨by rfl, ?hyq⟩) ?_
                case hyq => (intro w; go_simp; try (with_reducible rfl))
                refine wpAny_take (i := 10) (v := ?_) rfl (by kernel_rfl) (by kernel_rfl) (by kernel_rfl) (fun _ _ _ h => h) (Or.inl ⟨by rfl, ?hyq⟩) ?_
                case hyq => (intro w; go_simp; try (with_reducible rfl))
                refine wpAny_ready (rs := [11]) (by kernel_rfl) (by simp) ?_
                refine all_cons rfl (fun K hK => ?_) ?_
                · skip
                  refine Stp.mk ?_
                  obtain ⟨m0, m1⟩ := HX6.out.cells
                  have mf := HX6.out.frozen
                  have hX9 := (HX6.out.put0 (.slice d'.A d'.nB d'.cB)).put1 (.slice d'.W d'.nW d'.cW)
                  have hN9 := (HN6.out.grown_box (grown_setCell _ ⟨w.heap.size + 4, 0, none⟩ (.slice d'.A d'.nB d'.cB)) HX6.out).grown_box (grown_setCell _ ⟨w.heap.size + 4, 1, none⟩ (.slice d'.W d'.nW d'.cW)) (HX6.out.put0 (.slice d'.A d'.nB d'.cB))
                  have hB9 := (HB6.out.setCell (p := ⟨w.heap.size + 4, 0, none⟩) (Nat.le_add_right _ _) (.slice d'.A d'.nB d'.cB)).setCell (p := ⟨w.heap.size + 4, 1, none⟩) (Nat.le_add_right _ _) (.slice d'.W d'.nW d'.cW)
                  go_simp
                  clear m0 m1 mf
                  refine hK _ _ ?_
                  clear hK K
                  refine wpAny_ready (rs := [12]) (by kernel_rfl) (by simp) ?_
                  refine all_cons rfl (fun K hK => ?_) ?_
                  · skip
                    refine Stp.mk ?_
                    go_simp
                    refine hK _ _ ?_
                    clear hK K
                    refine wpAny_done (by kernel_rfl) ?_ _
                    obtain ⟨y0, y1⟩ := hX9.cells
                    have HN9 := Lib.hid hN9
                    have HB9 := Lib.hid hB9
                    clear hX9 hN9 hB9
                    go_wp2
                    refine bodyPost_ret (v := .tuple #[.agg #[.slice d'.A d'.nB d'.cB, .slice d'.W d'.nW d'.cW], .int .i64 E]) (by simp [results, Try.results18, go_sem, y0, y1]) rfl ?_
                    exact ⟨d', rfl, HN9.out, HB9.out⟩
                  exact AllReady.nil
                exact AllReady.nil
              exact AllReady.nil
            exact AllReady.nil
          exact AllReady.nil
        exact AllReady.nil
      refine all_cons rfl (fun K hK => ?_) ?_
      · skip
        refine Stp.mk ?_
        go_simp
        go_wp2_with fail
        refine (HP1.out _).mono ?_
        rintro e w6 ⟨rfl, rfl⟩
        go_wp2
        refine wpAny_take (i := 3) (v := ?_) rfl (by kernel_rfl) (by kernel_rfl) (by kernel_rfl) (fun _ _ _ h => h) (Or.inl ⟨by rfl, ?hyq⟩) ?_
        case hyq => (intro w; go_simp; try (with_reducible rfl))
        refine wpAny_ready (rs := [0, 4]) (by kernel_rfl) (by simp) ?_
        refine all_cons rfl (fun K hK => ?_) ?_
        · skip
          refine Stp.mk ?_
          obtain ⟨k0, k1⟩ := hS0.g.cells
          go_simp
          clear k0 k1
          refine hK _ _ ?_
          clear hK K
          refine wpAny_ready (rs := [4]) (by kernel_rfl) (by simp) ?_
          refine all_cons rfl (fun K hK => ?_) ?_
          · skip
            refine Stp.mk ?_
            have k0 := hS0.c2
            go_simp
            clear k0
            refine hK _ _ ?_
            clear hK K
            refine wpAny_ready (rs := [5]) (by kernel_rfl) (by simp) ?_
            refine all_cons rfl (fun K hK => ?_) ?_
            · skip
              refine Stp.mk ?_
              go_simp
              go_wp2_with fail
              refine (HP2.out _).mono ?_
              rintro e w6 ⟨rfl, rfl⟩
              go_wp2
              refine wpAny_take (i := 6) (v := ?_) rfl (by kernel_rfl) (by kernel_rfl) (by kernel_rfl) (fun _ _ _ h => h) (Or.inl ⟨by rfl, ?hyq⟩) ?_
              case hyq => (intro w; go_simp; try (with_reducible rfl))
              refine wpAny_ready (rs := [8]) (by kernel_rfl) (by simp) ?_
              refine all_cons rfl (fun K hK => ?_) ?_
              · skip
                refine Stp.mk ?_
                go_simp
                go_wp2_with fail
                refine HGD.out.mono ?_
                rintro e w6 ⟨d', rfl, h0, hne, hg6⟩
                have HX6 := Lib.hid (HX5d.out.grown hg6 (by simp))
                have hnw : Nw (if E = 0 then d.c.tamper at_.toNat byt.toNat v else ⟨[], []⟩) w.heap.size d' w6 := by
                  by_cases he : E = 0
                  · rw [if_pos he]
                    exact (show Nw _ _ _ _ from h0 he).mono (by show _ ≤ w5.heap.size + 2; omega)
                  · rw [if_neg he, hne he]
                    exact Nw.nil _ _
                have HN6 := Lib.hid hnw
                have HB6 := Lib.hid (HB5d.out.grown hg6 (by show _ ≤ w5.heap.size; omega) (by intro q hq; cases hq; exact Nat.le_refl _))
                clear h0 hne hg6 hnw
                go_wp2
                refine wpAny_take (i := 9) (v := ?_) rfl (by kernel_rfl) (by kernel_rfl) (by kernel_rfl) (fun _ _ _ h => h) (Or.inl ⟨by rfl, ?hyq⟩) ?_
                case hyq => (intro w; go_simp; try (with_reducible rfl))
                refine wpAny_take (i := 10) (v := ?_) rfl (by kernel_rfl) (by kernel_rfl) (by kernel_rfl) (fun _ _ _ h => h) (Or.inl ⟨by rfl, ?hyq⟩) ?_
                case hyq => (intro w; go_simp; try (with_reducible rfl))
                refine wpAny_ready (rs := [11]) (by kernel_rfl) (by simp) ?_
                refine all_cons rfl (fun K hK => ?_) ?_
                · skip
                  refine Stp.mk ?_
                  obtain ⟨m0, m1⟩ := HX6.out.cells
                  have mf := HX6.out.frozen
                  have hX9 := (HX6.out.put0 (.slice d'.A d'.nB d'.cB)).put1 (.slice d'.W d'.nW d'.cW)
                  have hN9 := (HN6.out.grown_box (grown_setCell _ ⟨w.heap.size + 4, 0, none⟩ (.slice d'.A d'.nB d'.cB)) HX6.out).grown_box (grown_setCell _ ⟨w.heap.size + 4, 1, none⟩ (.slice d'.W d'.nW d'.cW)) (HX6.out.put0 (.slice d'.A d'.nB d'.cB))
                  have hB9 := (HB6.out.setCell (p := ⟨w.heap.size + 4, 0, none⟩) (Nat.le_add_right _ _) (.slice d'.A d'.nB d'.cB)).setCell (p := ⟨w.heap.size + 4, 1, none⟩) (Nat.le_add_right _ _) (.slice d'.W d'.nW d'.cW)
                  go_simp
                  clear m0 m1 mf
                  refine hK _ _ ?_
                  clear hK K
                  refine wpAny_ready (rs := [12]) (by kernel_rfl) (by simp) ?_
                  refine all_cons rfl (fun K hK => ?_) ?_
                  · skip
                    refine Stp.mk ?_
                    go_simp
                    refine hK _ _ ?_
                    clear hK K
                    refine wpAny_done (by kernel_rfl) ?_ _
                    obtain ⟨y0, y1⟩ := hX9.cells
                    have HN9 := Lib.hid hN9
                    have HB9 := Lib.hid hB9
                    clear hX9 hN9 hB9
                    go_wp2
                    refine bodyPost_ret (v := .tuple #[.agg #[.slice d'.A d'.nB d'.cB, .slice d'.W d'.nW d'.cW], .int .i64 E]) (by simp [results, Try.results18, go_sem, y0, y1]) rfl ?_
                    exact ⟨d', rfl, HN9.out, HB9.out⟩
                  exact AllReady.nil
                exact AllReady.nil
              exact AllReady.nil
            exact AllReady.nil
          exact AllReady.nil
        refine all_cons rfl (fun K hK => ?_) ?_
        · skip
          refine Stp.mk ?_
          have k0 := hS0.c2
          go_simp
          clear k0
          refine hK _ _ ?_
          clear hK K
          refine wpAny_ready (rs := [0, 5]) (by kernel_rfl) (by simp) ?_
          refine all_cons rfl (fun K hK => ?_) ?_
          · skip
            refine Stp.mk ?_
            obtain ⟨k0, k1⟩ := hS0.g.cells
            go_simp
            clear k0 k1
            refine hK _ _ ?_
            clear hK K
            refine wpAny_ready (rs := [5]) (by kernel_rfl) (by simp) ?_
            refine all_cons rfl (fun K hK => ?_) ?_
            · skip
              refine Stp.mk ?_
              go_simp
              go_wp2_with fail
              refine (HP2.out _).mono ?_
              rintro e w6 ⟨rfl, rfl⟩
              go_wp2
              refine wpAny_take (i := 6) (v := ?_) rfl (by kernel_rfl) (by kernel_rfl) (by kernel_rfl) (fun _ _ _ h => h) (Or.inl ⟨by rfl, ?hyq⟩) ?_
              case hyq => (intro w; go_simp; try (with_reducible rfl))
              refine wpAny_ready (rs := [8]) (by kernel_rfl) (by simp) ?_
              refine all_cons rfl (fun K hK => ?_) ?_
              · skip
                refine Stp.mk ?_
                go_simp
                go_wp2_with fail
                refine HGD.out.mono ?_
                rintro e w6 ⟨d', rfl, h0, hne, hg6⟩
                have HX6 := Lib.hid (HX5d.out.grown hg6 (by simp))
                have hnw : Nw (if E = 0 then d.c.tamper at_.toNat byt.toNat v else ⟨[], []⟩) w.heap.size d' w6 := by
                  by_cases he : E = 0
                  · rw [if_pos he]
                    exact (show Nw _ _ _ _ from h0 he).mono (by show _ ≤ w5.heap.size + 2; omega)
                  · rw [if_neg he, hne he]
                    exact Nw.nil _ _
                have HN6 := Lib.hid hnw
                have HB6 := Lib.hid (HB5d.out.grown hg6 (by show _ ≤ w5.heap.size; omega) (by intro q hq; cases hq; exact Nat.le_refl _))
                clear h0 hne hg6 hnw
                go_wp2
                refine wpAny_take (i := 9) (v := ?_) rfl (by kernel_rfl) (by kernel_rfl) (by kernel_rfl) (fun _ _ _ h => h) (Or.inl ⟨by rfl, ?hyq⟩) ?_
                case hyq => (intro w; go_simp; try (with_reducible rfl))
                refine wpAny_take (i := 10) (v := ?_) rfl (by kernel_rfl) (by kernel_rfl) (by kernel_rfl) (fun _ _ _ h => h) (Or.inl ⟨by rfl, ?hyq⟩) ?_
                case hyq => (intro w; go_simp; try (with_reducible rfl))
                refine wpAny_ready (rs := [11]) (by kernel_rfl) (by simp) ?_
                refine all_cons rfl (fun K hK => ?_) ?_
                · skip
                  refine Stp.mk ?_
                  obtain ⟨m0, m1⟩ := HX6.out.cells
                  have mf := HX6.out.frozen
                  have hX9 := (HX6.out.put0 (.slice d'.A d'.nB d'.cB)).put1 (.slice d'.W d'.nW d'.cW)
                  have hN9 := (HN6.out.grown_box (grown_setCell _ ⟨w.heap.size + 4, 0, none⟩ (.slice d'.A d'.nB d'.cB)) HX6.out).grown_box (grown_setCell _ ⟨w.heap.size + 4, 1, none⟩ (.slice d'.W d'.nW d'.cW)) (HX6.out.put0 (.slice d'.A d'.nB d'.cB))
                  have hB9 := (HB6.out.setCell (p := ⟨w.heap.size + 4, 0, none⟩) (Nat.le_add_right _ _) (.slice d'.A d'.nB d'.cB)).setCell (p := ⟨w.heap.size + 4, 1, none⟩) (Nat.le_add_right _ _) (.slice d'.W d'.nW d'.cW)
                  go_simp
                  clear m0 m1 mf
                  refine hK _ _ ?_
                  clear hK K
                  refine wpAny_ready (rs := [12]) (by kernel_rfl) (by simp) ?_
                  refine all_cons rfl (fun K hK => ?_) ?_
                  · skip
                    refine Stp.mk ?_
                    go_simp
                    refine hK _ _ ?_
                    clear hK K
                    refine wpAny_done (by kernel_rfl) ?_ _
                    obtain ⟨y0, y1⟩ := hX9.cells
                    have HN9 := Lib.hid hN9
                    have HB9 := Lib.hid hB9
                    clear hX9 hN9 hB9
                    go_wp2
                    refine bodyPost_ret (v := .tuple #[.agg #[.slice d'.A d'.nB d'.cB, .slice d'.W d'.nW d'.cW], .int .i64 E]) (by simp [results, Try.results18, go_sem, y0, y1]) rfl ?_
                    exact ⟨d', rfl, HN9.out, HB9.out⟩
                  exact AllReady.nil
                exact AllReady.nil
              exact AllReady.nil
            exact AllReady.nil
          refine all_cons rfl (fun K hK => ?_) ?_
          · skip
            refine Stp.mk ?_
            go_simp
            go_wp2_with fail
            refine (HP2.out _).mono ?_
            rintro e w6 ⟨rfl, rfl⟩
            go_wp2
            refine wpAny_take (i := 6) (v := ?_) rfl (by kernel_rfl) (by kernel_rfl) (by kernel_rfl) (fun _ _ _ h => h) (Or.inl ⟨by rfl, ?hyq⟩) ?_
            case hyq => (intro w; go_simp; try (with_reducible rfl))
            refine wpAny_ready (rs := [0]) (by kernel_rfl) (by simp) ?_
            refine all_cons rfl (fun K hK => ?_) ?_
            · skip
              refine Stp.mk ?_
              obtain ⟨k0, k1⟩ := hS0.g.cells
              go_simp
              clear k0 k1
              refine hK _ _ ?_
              clear hK K
              refine wpAny_ready (rs := [8]) (by kernel_rfl) (by simp) ?_
              refine all_cons rfl (fun K hK => ?_) ?_
              · skip
                refine Stp.mk ?_
                go_simp
                go_wp2_with fail
                refine HGD.out.mono ?_
                rintro e w6 ⟨d', rfl, h0, hne, hg6⟩
                have HX6 := Lib.hid (HX5d.out.grown hg6 (by simp))
                have hnw : Nw (if E = 0 then d.c.tamper at_.toNat byt.toNat v else ⟨[], []⟩) w.heap.size d' w6 := by
                  by_cases he : E = 0
                  · rw [if_pos he]
                    exact (show Nw _ _ _ _ from h0 he).mono (by show _ ≤ w5.heap.size + 2; omega)
                  · rw [if_neg he, hne he]
                    exact Nw.nil _ _
                have HN6 := Lib.hid hnw
                have HB6 := Lib.hid (HB5d.out.grown hg6 (by show _ ≤ w5.heap.size; omega) (by intro q hq; cases hq; exact Nat.le_refl _))
                clear h0 hne hg6 hnw
                go_wp2
                refine wpAny_take (i := 9) (v := ?_) rfl (by kernel_rfl) (by kernel_rfl) (by kernel_rfl) (fun _ _ _ h => h) (Or.inl ⟨by rfl, ?hyq⟩) ?_
                case hyq => (intro w; go_simp; try (with_reducible rfl))
                refine wpAny_take (i := 10) (v := ?_) rfl (by kernel_rfl) (by kernel_rfl) (by kernel_rfl) (fun _ _ _ h => h) (Or.inl ⟨by rfl, ?hyq⟩) ?_
                case hyq => (intro w; go_simp; try (with_reducible rfl))
                refine wpAny_ready (rs := [11]) (by kernel_rfl) (by simp) ?_
                refine all_cons rfl (fun K hK => ?_) ?_
                · skip
                  refine Stp.mk ?_
                  obtain ⟨m0, m1⟩ := HX6.out.cells
                  have mf := HX6.out.frozen
                  have hX9 := (HX6.out.put0 (.slice d'.A d'.nB d'.cB)).put1 (.slice d'.W d'.nW d'.cW)
                  have hN9 := (HN6.out.grown_box (grown_setCell _ ⟨w.heap.size + 4, 0, none⟩ (.slice d'.A d'.nB d'.cB)) HX6.out).grown_box (grown_setCell _ ⟨w.heap.size + 4, 1, none⟩ (.slice d'.W d'.nW d'.cW)) (HX6.out.put0 (.slice d'.A d'.nB d'.cB))
                  have hB9 := (HB6.out.setCell (p := ⟨w.heap.size + 4, 0, none⟩) (Nat.le_add_right _ _) (.slice d'.A d'.nB d'.cB)).setCell (p := ⟨w.heap.size + 4, 1, none⟩) (Nat.le_add_right _ _) (.slice d'.W d'.nW d'.cW)
                  go_simp
                  clear m0 m1 mf
                  refine hK _ _ ?_
                  clear hK K
                  refine wpAny_ready (rs := [12]) (by kernel_rfl) (by simp) ?_
                  refine all_cons rfl (fun K hK => ?_) ?_
                  · skip
                    refine Stp.mk ?_
                    go_simp
                    refine hK _ _ ?_
                    clear hK K
                    refine wpAny_done (by kernel_rfl) ?_ _
                    obtain ⟨y0, y1⟩ := hX9.cells
                    have HN9 := Lib.hid hN9
                    have HB9 := Lib.hid hB9
                    clear hX9 hN9 hB9
                    go_wp2
                    refine bodyPost_ret (v := .tuple #[.agg #[.slice d'.A d'.nB d'.cB, .slice d'.W d'.nW d'.cW], .int .i64 E]) (by simp [results, Try.results18, go_sem, y0, y1]) rfl ?_
                    exact ⟨d', rfl, HN9.out, HB9.out⟩
                  exact AllReady.nil
                exact AllReady.nil
              exact AllReady.nil
            exact AllReady.nil
          exact AllReady.nil
        exact AllReady.nil
      exact AllReady.nil
    exact AllReady.nil
  | false =>
    refine wp_region_any (by kernel_rfl) ?_
    try (change wpAny _ _ _ _ _ _ _ (World.drew _))
    refine wpAny_take (i := 7) (v := ?_) rfl (by kernel_rfl) (by kernel_rfl) (by kernel_rfl) (fun _ _ _ h => h) (Or.inl ⟨by rfl, ?hyq⟩) ?_
    case hyq => (intro w; go_simp; try (with_reducible rfl))
    refine wpAny_ready (rs := [0, 1]) (by kernel_rfl) (by simp) ?_
    refine all_cons rfl (fun K hK => ?_) ?_
    · skip
      refine Stp.mk ?_
      obtain ⟨k0, k1⟩ := hS0.g.cells
      go_simp
      clear k0 k1
      refine hK _ _ ?_
      clear hK K
      refine wpAny_ready (rs := [1]) (by kernel_rfl) (by simp) ?_
      refine all_cons rfl (fun K hK => ?_) ?_
      · skip
        refine Stp.mk ?_
        have k0 := hS0.c1
        go_simp
        clear k0
        refine hK _ _ ?_
        clear hK K
        refine wpAny_ready (rs := [2]) (by kernel_rfl) (by simp) ?_
        refine all_cons rfl (fun K hK => ?_) ?_
        · skip
          refine Stp.mk ?_
          go_simp
          go_wp2_with fail
          refine (HP1.out _).mono ?_
          rintro e w6 ⟨rfl, rfl⟩
          go_wp2
          refine wpAny_take (i := 3) (v := ?_) rfl (by kernel_rfl) (by kernel_rfl) (by kernel_rfl) (fun _ _ _ h => h) (Or.inl ⟨by rfl, ?hyq⟩) ?_
          case hyq => (intro w; go_simp; try (with_reducible rfl))
          refine wpAny_take (i := 4) (v := undef) rfl (by kernel_rfl) (by kernel_rfl) (by kernel_rfl) (fun _ _ _ h => h) (Or.inr ⟨by rfl, rfl⟩) ?_
          refine wpAny_take (i := 5) (v := undef) rfl (by kernel_rfl) (by kernel_rfl) (by kernel_rfl) (fun _ _ _ h => h) (Or.inr ⟨by rfl, rfl⟩) ?_
          refine wpAny_take (i := 6) (v := ?_) rfl (by kernel_rfl) (by kernel_rfl) (by kernel_rfl) (fun _ _ _ h => h) (Or.inl ⟨by rfl, ?hyq⟩) ?_
          case hyq => (intro w; go_simp; try (with_reducible rfl))
          refine wpAny_ready (rs := [8]) (by kernel_rfl) (by simp) ?_
          refine all_cons rfl (fun K hK => ?_) ?_
          · skip
            refine Stp.mk ?_
            go_simp
            go_wp2_with fail
            refine HGD.out.mono ?_
            rintro e w6 ⟨d', rfl, h0, hne, hg6⟩
            have HX6 := Lib.hid (HX5d.out.grown hg6 (by simp))
            have hnw : Nw (if E = 0 then d.c.tamper at_.toNat byt.toNat v else ⟨[], []⟩) w.heap.size d' w6 := by
              by_cases he : E = 0
              · rw [if_pos he]
                exact (show Nw _ _ _ _ from h0 he).mono (by show _ ≤ w5.heap.size + 2; omega)
              · rw [if_neg he, hne he]
                exact Nw.nil _ _
            have HN6 := Lib.hid hnw
            have HB6 := Lib.hid (HB5d.out.grown hg6 (by show _ ≤ w5.heap.size; omega) (by intro q hq; cases hq; exact Nat.le_refl _))
            clear h0 hne hg6 hnw
            go_wp2
            refine wpAny_take (i := 9) (v := ?_) rfl (by kernel_rfl) (by kernel_rfl) (by kernel_rfl) (fun _ _ _ h => h) (Or.inl ⟨by rfl, ?hyq⟩) ?_
            case hyq => (intro w; go_simp; try (with_reducible rfl))
            refine wpAny_take (i := 10) (v := ?_) rfl (by kernel_rfl) (by kernel_rfl) (by kernel_rfl) (fun _ _ _ h => h) (Or.inl ⟨by rfl, ?hyq⟩) ?_
            case hyq => (intro w; go_simp; try (with_reducible rfl))
            refine wpAny_ready (rs := [11]) (by kernel_rfl) (by simp) ?_
            refine all_cons rfl (fun K hK => ?_) ?_
            · skip
              refine Stp.mk ?_
              obtain ⟨m0, m1⟩ := HX6.out.cells
              have mf := HX6.out.frozen
              have hX9 := (HX6.out.put0 (.slice d'.A d'.nB d'.cB)).put1 (.slice d'.W d'.nW d'.cW)
              have hN9 := (HN6.out.grown_box (grown_setCell _ ⟨w.heap.size + 4, 0, none⟩ (.slice d'.A d'.nB d'.cB)) HX6.out).grown_box (grown_setCell _ ⟨w.heap.size + 4, 1, none⟩ (.slice d'.W d'.nW d'.cW)) (HX6.out.put0 (.slice d'.A d'.nB d'.cB))
              have hB9 := (HB6.out.setCell (p := ⟨w.heap.size + 4, 0, none⟩) (Nat.le_add_right _ _) (.slice d'.A d'.nB d'.cB)).setCell (p := ⟨w.heap.size + 4, 1, none⟩) (Nat.le_add_right _ _) (.slice d'.W d'.nW d'.cW)
              go_simp
              clear m0 m1 mf
              refine hK _ _ ?_
              clear hK K
              refine wpAny_ready (rs := [12]) (by kernel_rfl) (by simp) ?_
              refine all_cons rfl (fun K hK => ?_) ?_
              · skip
                refine Stp.mk ?_
                go_simp
                refine hK _ _ ?_
                clear hK K
                refine wpAny_done (by kernel_rfl) ?_ _
                obtain ⟨y0, y1⟩ := hX9.cells
                have HN9 := Lib.hid hN9
                have HB9 := Lib.hid hB9
                clear hX9 hN9 hB9
                go_wp2
                refine bodyPost_ret (v := .tuple #[.agg #[.slice d'.A d'.nB d'.cB, .slice d'.W d'.nW d'.cW], .int .i64 E]) (by simp [results, Try.results18, go_sem, y0, y1]) rfl ?_
                exact ⟨d', rfl, HN9.out, HB9.out⟩
              exact AllReady.nil
            exact AllReady.nil
          exact AllReady.nil
        exact AllReady.nil
      exact AllReady.nil
    refine all_cons rfl (fun K hK => ?_) ?_
    · skip
      refine Stp.mk ?_
      have k0 := hS0.c1
      go_simp
      clear k0
      refine hK _ _ ?_
      clear hK K
      refine wpAny_ready (rs := [0, 2]) (by kernel_rfl) (by simp) ?_
      refine all_cons rfl (fun K hK => ?_) ?_
      · skip
        refine Stp.mk ?_
        obtain ⟨k0, k1⟩ := hS0.g.cells
        go_simp
        clear k0 k1
        refine hK _ _ ?_
        clear hK K
        refine wpAny_ready (rs := [2]) (by kernel_rfl) (by simp) ?_
        refine all_cons rfl (fun K hK => ?_) ?_
        · skip
          refine Stp.mk ?_
          go_simp
          go_wp2_with fail
          refine (HP1.out _).mono ?_
          rintro e w6 ⟨rfl, rfl⟩
          go_wp2
          refine wpAny_take (i := 3) (v := ?_) rfl (by kernel_rfl) (by kernel_rfl) (by kernel_rfl) (fun _ _ _ h => h) (Or.inl ⟨by rfl, ?hyq⟩) ?_
          case hyq => (intro w; go_simp; try (with_reducible rfl))
          refine wpAny_take (i := 4) (v := undef) rfl (by kernel_rfl) (by kernel_rfl) (by kernel_rfl) (fun _ _ _ h => h) (Or.inr ⟨by rfl, rfl⟩) ?_
          refine wpAny_take (i := 5) (v := undef) rfl (by kernel_rfl) (by kernel_rfl) (by kernel_rfl) (fun _ _ _ h => h) (Or.inr ⟨by rfl, rfl⟩) ?_
          refine wpAny_take (i := 6) (v := ?_) rfl (by kernel_rfl) (by kernel_rfl) (by kernel_rfl) (fun _ _ _ h => h) (Or.inl ⟨by rfl, ?hyq⟩) ?_
          case hyq => (intro w; go_simp; try (with_reducible rfl))
          refine wpAny_ready (rs := [8]) (by kernel_rfl) (by simp) ?_
          refine all_cons rfl (fun K hK => ?_) ?_
          · skip
            refine Stp.mk ?_
            go_simp
            go_wp2_with fail
            refine HGD.out.mono ?_
            rintro e w6 ⟨d', rfl, h0, hne, hg6⟩
            have HX6 := Lib.hid (HX5d.out.grown hg6 (by simp))
            have hnw : Nw (if E = 0 then d.c.tamper at_.toNat byt.toNat v else ⟨[], []⟩) w.heap.size d' w6 := by
              by_cases he : E = 0
              · rw [if_pos he]
                exact (show Nw _ _ _ _ from h0 he).mono (by show _ ≤ w5.heap.size + 2; omega)
              · rw [if_neg he, hne he]
                exact Nw.nil _ _
            have HN6 := Lib.hid hnw
            have HB6 := Lib.hid (HB5d.out.grown hg6 (by show _ ≤ w5.heap.size; omega) (by intro q hq; cases hq; exact Nat.le_refl _))
            clear h0 hne hg6 hnw
            go_wp2
            refine wpAny_take (i := 9) (v := ?_) rfl (by kernel_rfl) (by kernel_rfl) (by kernel_rfl) (fun _ _ _ h => h) (Or.inl ⟨by rfl, ?hyq⟩) ?_
            case hyq => (intro w; go_simp; try (with_reducible rfl))
            refine wpAny_take (i := 10) (v := ?_) rfl (by kernel_rfl) (by kernel_rfl) (by kernel_rfl) (fun _ _ _ h => h) (Or.inl ⟨by rfl, ?hyq⟩) ?_
            case hyq => (intro w; go_simp; try (with_reducible rfl))
            refine wpAny_ready (rs := [11]) (by kernel_rfl) (by simp) ?_
            refine all_cons rfl (fun K hK => ?_) ?_
            · skip
              refine Stp.mk ?_
              obtain ⟨m0, m1⟩ := HX6.out.cells
              have mf := HX6.out.frozen
              have hX9 := (HX6.out.put0 (.slice d'.A d'.nB d'.cB)).put1 (.slice d'.W d'.nW d'.cW)
              have hN9 := (HN6.out.grown_box (grown_setCell _ ⟨w.heap.size + 4, 0, none⟩ (.slice d'.A d'.nB d'.cB)) HX6.out).grown_box (grown_setCell _ ⟨w.heap.size + 4, 1, none⟩ (.slice d'.W d'.nW d'.cW)) (HX6.out.put0 (.slice d'.A d'.nB d'.cB))
              have hB9 := (HB6.out.setCell (p := ⟨w.heap.size + 4, 0, none⟩) (Nat.le_add_right _ _) (.slice d'.A d'.nB d'.cB)).setCell (p := ⟨w.heap.size + 4, 1, none⟩) (Nat.le_add_right _ _) (.slice d'.W d'.nW d'.cW)
              go_simp
              clear m0 m1 mf
              refine hK _ _ ?_
              clear hK K
              refine wpAny_ready (rs := [12]) (by kernel_rfl) (by simp) ?_
              refine all_cons rfl (fun K hK => ?_) ?_
              · skip
                refine Stp.mk ?_
                go_simp
                refine hK _ _ ?_
                clear hK K
                refine wpAny_done (by kernel_rfl) ?_ _
                obtain ⟨y0, y1⟩ := hX9.cells
                have HN9 := Lib.hid hN9
                have HB9 := Lib.hid hB9
                clear hX9 hN9 hB9
                go_wp2
                refine bodyPost_ret (v := .tuple #[.agg #[.slice d'.A d'.nB d'.cB, .slice d'.W d'.nW d'.cW], .int .i64 E]) (by simp [results, Try.results18, go_sem, y0, y1]) rfl ?_
                exact ⟨d', rfl, HN9.out, HB9.out⟩
              exact AllReady.nil
            exact AllReady.nil
          exact AllReady.nil
        exact AllReady.nil
      refine all_cons rfl (fun K hK => ?_) ?_
      · skip
        refine Stp.mk ?_
        go_simp
        go_wp2_with fail
        refine (HP1.out _).mono ?_
        rintro e w6 ⟨rfl, rfl⟩
        go_wp2
        refine wpAny_take (i := 3) (v := ?_) rfl (by kernel_rfl) (by kernel_rfl) (by kernel_rfl) (fun _ _ _ h => h) (Or.inl ⟨by rfl, ?hyq⟩) ?_
        case hyq => (intro w; go_simp; try (with_reducible rfl))
        refine wpAny_take (i := 4) (v := undef) rfl (by kernel_rfl) (by kernel_rfl) (by kernel_rfl) (fun _ _ _ h => h) (Or.inr ⟨by rfl, rfl⟩) ?_
        refine wpAny_take (i := 5) (v := undef) rfl (by kernel_rfl) (by kernel_rfl) (by kernel_rfl) (fun _ _ _ h => h) (Or.inr ⟨by rfl, rfl⟩) ?_
        refine wpAny_take (i := 6) (v := ?_) rfl (by kernel_rfl) (by kernel_rfl) (by kernel_rfl) (fun _ _ _ h => h) (Or.inl ⟨by rfl, ?hyq⟩) ?_
        case hyq => (intro w; go_simp; try (with_reducible rfl))
        refine wpAny_ready (rs := [0]) (by kernel_rfl) (by simp) ?_
        refine all_cons rfl (fun K hK => ?_) ?_
        · skip
          refine Stp.mk ?_
          obtain ⟨k0, k1⟩ := hS0.g.cells
          go_simp
          clear k0 k1
          refine hK _ _ ?_
          clear hK K
          refine wpAny_ready (rs := [8]) (by kernel_rfl) (by simp) ?_
          refine all_cons rfl (fun K hK => ?_) ?_
          · skip
            refine Stp.mk ?_
            go_simp
            go_wp2_with fail
            refine HGD.out.mono ?_
            rintro e w6 ⟨d', rfl, h0, hne, hg6⟩
            have HX6 := Lib.hid (HX5d.out.grown hg6 (by simp))
            have hnw : Nw (if E = 0 then d.c.tamper at_.toNat byt.toNat v else ⟨[], []⟩) w.heap.size d' w6 := by
              by_cases he : E = 0
              · rw [if_pos he]
                exact (show Nw _ _ _ _ from h0 he).mono (by show _ ≤ w5.heap.size + 2; omega)
              · rw [if_neg he, hne he]
                exact Nw.nil _ _
            have HN6 := Lib.hid hnw
            have HB6 := Lib.hid (HB5d.out.grown hg6 (by show _ ≤ w5.heap.size; omega) (by intro q hq; cases hq; exact Nat.le_refl _))
            clear h0 hne hg6 hnw
            go_wp2
            refine wpAny_take (i := 9) (v := ?_) rfl (by kernel_rfl) (by kernel_rfl) (by kernel_rfl) (fun _ _ _ h => h) (Or.inl ⟨by rfl, ?hyq⟩) ?_
            case hyq => (intro w; go_simp; try (with_reducible rfl))
            refine wpAny_take (i := 10) (v := ?_) rfl (by kernel_rfl) (by kernel_rfl) (by kernel_rfl) (fun _ _ _ h => h) (Or.inl ⟨by rfl, ?hyq⟩) ?_
            case hyq => (intro w; go_simp; try (with_reducible rfl))
            refine wpAny_ready (rs := [11]) (by kernel_rfl) (by simp) ?_
            refine all_cons rfl (fun K hK => ?_) ?_
            · skip
              refine Stp.mk ?_
              obtain ⟨m0, m1⟩ := HX6.out.cells
              have mf := HX6.out.frozen
              have hX9 := (HX6.out.put0 (.slice d'.A d'.nB d'.cB)).put1 (.slice d'.W d'.nW d'.cW)
              have hN9 := (HN6.out.grown_box (grown_setCell _ ⟨w.heap.size + 4, 0, none⟩ (.slice d'.A d'.nB d'.cB)) HX6.out).grown_box (grown_setCell _ ⟨w.heap.size + 4, 1, none⟩ (.slice d'.W d'.nW d'.cW)) (HX6.out.put0 (.slice d'.A d'.nB d'.cB))
              have hB9 := (HB6.out.setCell (p := ⟨w.heap.size + 4, 0, none⟩) (Nat.le_add_right _ _) (.slice d'.A d'.nB d'.cB)).setCell (p := ⟨w.heap.size + 4, 1, none⟩) (Nat.le_add_right _ _) (.slice d'.W d'.nW d'.cW)
              go_simp
              clear m0 m1 mf
              refine hK _ _ ?_
              clear hK K
              refine wpAny_ready (rs := [12]) (by kernel_rfl) (by simp) ?_
              refine all_cons rfl (fun K hK => ?_) ?_
              · skip
                refine Stp.mk ?_
                go_simp
                refine hK _ _ ?_
                clear hK K
                refine wpAny_done (by kernel_rfl) ?_ _
                obtain ⟨y0, y1⟩ := hX9.cells
                have HN9 := Lib.hid hN9
                have HB9 := Lib.hid hB9
                clear hX9 hN9 hB9
                go_wp2
                refine bodyPost_ret (v := .tuple #[.agg #[.slice d'.A d'.nB d'.cB, .slice d'.W d'.nW d'.cW], .int .i64 E]) (by simp [results, Try.results18, go_sem, y0, y1]) rfl ?_
                exact ⟨d', rfl, HN9.out, HB9.out⟩
              exact AllReady.nil
            exact AllReady.nil
          exact AllReady.nil
        exact AllReady.nil
      exact AllReady.nil
    exact AllReady.nil
end Go.Proofs.Ytkaklppkmokffaa
