/-
  The walk of DevLost.
-/
import Derived.Test.YtkaklppkmokffaaLaw09b
import Derived.Test.YtkaklppkmokffaaDevS
namespace Go.Proofs.Ytkaklppkmokffaa
open Go.RowKit
set_option linter.unusedVariables false
set_option linter.unusedSimpArgs false
set_option maxRecDepth 100000

/-! ### plain -/
/-- Those of the first i of which it is so. -/
def keptI {α : Type} (ws : List α) (so : Nat → Bool) : Nat → List α
  | 0 => []
  | i + 1 => match ws[i]? with
    | some x => if so i = true then keptI ws so i ++ [x] else keptI ws so i
    | none => keptI ws so i
theorem keptI_mem {α : Type} {ws : List α} {so : Nat → Bool} {x : α} : ∀ {i}, x ∈ keptI ws so i → x ∈ ws
  | 0, h => by cases h
  | i + 1, h => by
    unfold keptI at h
    cases hw : ws[i]? with
    | none =>
      rw [hw] at h
      exact keptI_mem (i := i) h
    | some y =>
      rw [hw] at h
      by_cases hs : so i = true
      · simp only [if_pos hs] at h
        rcases List.mem_append.1 h with h1 | h1
        · exact keptI_mem (i := i) h1
        · obtain rfl : x = y := by simpa using h1
          exact List.mem_of_getElem? hw
      · simp only [if_neg hs] at h
        exact keptI_mem (i := i) h
theorem keptI_len {α : Type} (ws : List α) (so : Nat → Bool) : ∀ i, (keptI ws so i).length ≤ i ∧ (keptI ws so i).length ≤ ws.length
  | 0 => ⟨Nat.le_refl _, Nat.zero_le _⟩
  | i + 1 => by
    have ih := keptI_len ws so i
    have ih2 : (keptI ws so i).length ≤ i := ih.1
    unfold keptI
    cases hw : ws[i]? with
    | none => exact ⟨by simp only; omega, ih.2⟩
    | some y =>
      have hi := (List.getElem?_eq_some_iff.1 hw).1
      by_cases hs : so i = true
      · simp only [if_pos hs, List.length_append, List.length_singleton]
        omega
      · simp only [if_neg hs]
        omega
theorem keptI_map {α β : Type} (f : α → β) (ws : List α) (so : Nat → Bool) : ∀ i, keptI (ws.map f) so i = (keptI ws so i).map f
  | 0 => rfl
  | i + 1 => by
    unfold keptI
    rw [List.getElem?_map]
    cases hw : ws[i]? with
    | none => simpa using keptI_map f ws so i
    | some y =>
      simp only [Option.map_some]
      by_cases hs : so i = true
      · simp only [if_pos hs, List.map_append, List.map_cons, List.map_nil, keptI_map f ws so i]
      · simp only [if_neg hs, keptI_map f ws so i]
theorem lastI_pre {α : Type} (l m : List α) (key : α → Int) (so : Nat → Bool) (a : Int) : ∀ i, i ≤ l.length → lastI (l ++ m) key so a i = lastI l key so a i
  | 0, _ => rfl
  | i + 1, h => by
    unfold lastI
    rw [List.getElem?_append_left (by omega), lastI_pre l m key so a i (by omega)]
theorem lastI_snoc {α : Type} (l : List α) (x : α) (key : α → Int) (a : Int) : lastI (l ++ [x]) key (fun _ => true) a (l ++ [x]).length = if key x = a then some x else lastI l key (fun _ => true) a l.length := by
  rw [List.length_append, List.length_singleton]
  rw [lastI]
  simp only [List.getElem?_append_right (Nat.le_refl _), Nat.sub_self, List.getElem?_cons_zero, true_and]
  rw [lastI_pre l [x] key _ a _ (Nat.le_refl _)]
theorem lastI_kept {α : Type} (ws : List α) (key : α → Int) (so : Nat → Bool) (a : Int) : ∀ i, lastI ws key so a i = lastI (keptI ws so i) key (fun _ => true) a (keptI ws so i).length
  | 0 => rfl
  | i + 1 => by
    have ih := lastI_kept ws key so a i
    rw [lastI, keptI]
    cases hw : ws[i]? with
    | none => exact ih
    | some y =>
      by_cases hs : so i = true
      · simp only [hs, true_and, if_true]
        rw [lastI_snoc, ih]
      · simp only [hs, false_and, if_false]
        exact ih
def Ct.less (c : Ct) (so : Nat → Bool) : Ct := ⟨c.b, keptI c.w so c.w.length⟩
theorem Ct.less_may {c : Ct} (h : c.May) (so : Nat → Bool) : (c.less so).May :=
  ⟨h.1, h.2.1, Nat.le_trans (keptI_len _ _ _).2 h.2.2.1, fun x hx => h.2.2.2 x (keptI_mem hx)⟩
theorem Ct.less_left (c : Ct) (so : Nat → Bool) : (c.less so).left (fun _ => true) = c.left so := by
  unfold Ct.left Ct.less
  congr 1
  unfold leftB
  apply List.map_congr_left
  intro k _
  rw [lastI_kept c.w Prod.fst so]

/-! ### the walk -/
structure LoS (G : Nat) (X Y : Value) (b off : Nat) (x : Wt) (V : World) : Prop where
  g : DkBox V G X Y
  c0 : V.cell? ⟨b, off, none⟩ = some (.int .i64 x.a)
  c1 : V.cell? ⟨b, off + 1, none⟩ = some (.slice x.s.A x.s.n x.s.c)
  lt : b < V.heap.size
theorem LoS.grown {G b off : Nat} {X Y : Value} {x : Wt} {V V' : World} {row : Option Nat} (h : LoS G X Y b off x V) (hg : V.grownBy V' row) (h1 : some G ≠ row) (h2 : some b ≠ row) : LoS G X Y b off x V' :=
  ⟨h.g.grown hg h1, (World.cell?_of_block (a := ⟨b, off, none⟩) (hg.block b h.lt h2)).trans h.c0, (World.cell?_of_block (a := ⟨b, off + 1, none⟩) (hg.block b h.lt h2)).trans h.c1, Nat.lt_of_lt_of_le h.lt hg.size⟩
theorem LoS.below {G b off : Nat} {X Y : Value} {x : Wt} {V V' : World} (h : LoS G X Y b off x V) (hb : Below V.heap.size V V') : LoS G X Y b off x V' := h.grown (grown_of_below hb none) (by simp) (by simp)
def LoR (ws : List Wt) (so : Nat → Bool) (n g : Nat) (P : Value) (V : World) (x : Value) (wr : World) : Prop :=
  ∃ (i : Nat) (D : Option Addr) (dd : Nat), i ≤ n ∧ x = .int .i64 (i : Int) ∧ DkBox wr g P (.slice D (keptI ws so i).length dd) ∧ Fr wr V.heap.size 54 2 D (keptI ws so i).length dd (wcs (keptI ws so i)) ∧ V.grownBy wr (some g)
set_option maxHeartbeats 4000000 in
theorem devLost_walk (d : Dk) (K : Option Addr) (n kc : Nat) (keep : List Bool) (w : World) (hd : d.ok w) (hl : keep.length = n) (hr : Rd w w.heap.size 1 K n (bos keep)) :
    Calls Try.prog 11 #[d.v, .slice K n kc] w fun e w' => e = .returned (.bool true) ∧ Below w.heap.size w w' := by
  have hx := DkBox.new w (.slice d.A d.nB d.cB) (.slice d.W d.nW d.cW)
  have hb := below_new' w (.cells #[.slice d.A d.nB d.cB, .slice d.W d.nW d.cW] 25)
  have HX := Lib.hid hx
  have HB := Lib.hid hb
  have HD := Lib.hid hd
  have HR := Lib.hid hr
  have HL := Lib.hid hl
  clear hx hb hd hr hl
  simp only [Dk.v] at *
  go_enter Try.func11, Try.ntmps11
  go_wp2_with fail
  refine (alive09 _).mono ?_
  rintro e w1 ⟨rfl, b1⟩
  have hx := HX.out.below b1 HX.out.lt
  have HB1 := Lib.hid (below_to HB.out b1 HB.out.size)
  have HX1 := Lib.hid hx
  obtain ⟨x0, x1⟩ := hx.cells
  clear b1 hx HX HB
  go_wp2_with fail
  refine (g_great d w1 (HD.out.below HB1.out)).mono ?_
  rintro e w2 ⟨v, rfl, hv, b2⟩
  have hx := HX1.out.below b2 HX1.out.lt
  have HB2 := Lib.hid (below_to HB1.out b2 HB1.out.size)
  have HX2 := Lib.hid hx
  clear x0 x1 b2 HX1 HB1
  obtain ⟨x0, x1⟩ := hx.cells
  clear hx
  cases v with
  | true =>
    clear hv
    go_wp2
    go_ret
    exact ⟨rfl, HB2.out⟩
  | false =>
    obtain ⟨g1, g2⟩ := hv rfl
    clear hv
    by_cases hk : n > 5000
    · have hk1 : (5000 : Int) < (n : Int) := by omega
      clear hk
      go_wp2
      go_ret
      exact ⟨rfl, HB2.out⟩
    · have hk1 : ¬ ((5000 : Int) < (n : Int)) := by omega
      have hk2 : decide ((5000 : Int) < (n : Int)) = false := by simp; omega
      obtain ⟨E, hE⟩ : ∃ E, E = errG d.c (decide (n = d.nW)) := ⟨_, rfl⟩
      have hcr := d_crash d w2 (HD.out.below HB2.out) (by omega) (by omega) K n kc keep HL.out ((HR.out.below HB2.out).more HB2.out.size) (by omega) E hE
      have HCR := Lib.hid hcr
      have HE := Lib.hid hE
      have HG1 := Lib.hid g1
      have HG2 := Lib.hid g2
      have HK := Lib.hid hk
      clear hcr hE hk g1 g2
      go_wp2_with fail
      refine HCR.out.mono ?_
      rintro e w3 ⟨d', rfl, hn, b3⟩
      have HB3 := Lib.hid (below_to HB2.out b3 HB2.out.size)
      have hx3 := HX2.out.below b3 HX2.out.lt
      clear x0 x1 hk1 hk2
      by_cases he : E = 0
      · subst he
        obtain ⟨hm, hnw⟩ := errG_zero HE.out.symm
        have hnw : n = d.nW := of_decide_eq_true hnw
        rw [if_pos rfl] at hn
        obtain ⟨x0, x1⟩ := hx3.cells
        have hxl := hx3.lt
        obtain ⟨W4, hW4⟩ : ∃ V, V = (w3.alloc (.cells #[.slice d'.A d'.nB d'.cB, .slice d'.W d'.nW d'.cW] 25)).alloc (.cells #[.slice d.A d.nB d.cB, .slice none 0 0] 25) := ⟨_, rfl⟩
        have hb4 : Below w3.heap.size w3 W4 := by rw [hW4]; exact (below_new' w3 _).alloc (by simp) _
        have hy4 : DkBox W4 w3.heap.size (.slice d'.A d'.nB d'.cB) (.slice d'.W d'.nW d'.cW) := by rw [hW4]; exact (DkBox.new w3 _ _).alloc _
        have hz4 : DkBox W4 (w3.heap.size + 1) (.slice d.A d.nB d.cB) (.slice none 0 0) := by
          rw [hW4]
          have := DkBox.new (w3.alloc (.cells #[.slice d'.A d'.nB d'.cB, .slice d'.W d'.nW d'.cW] 25)) (.slice d.A d.nB d.cB) (.slice none 0 0)
          rw [World.size_alloc] at this
          exact this
        have HX4 := Lib.hid (hx3.below hb4 hx3.lt)
        have HY4 := Lib.hid hy4
        have HZ4 := Lib.hid hz4
        have HB4 := Lib.hid (below_to HB3.out hb4 HB3.out.size)
        have HN4 := Lib.hid (hn.below hb4)
        have HD4 := Lib.hid (HD.out.below HB4.out)
        have HR4 := Lib.hid ((HR.out.below HB4.out).more HB4.out.size)
        have HM := Lib.hid hm
        have HNW := Lib.hid hnw
        have HW4 := Lib.hid hW4
        have HX3 := Lib.hid hxl
        have hlen : (n : Int) ≤ 5000 := by have := HK.out; omega
        clear hm hnw hn hx3 hb4 hy4 hz4 hW4 b3 HX2 HB3 HE
        go_wp2
        rw [← HW4.out]
        clear x0 x1 hxl HW4
        go_loopw [9] (fun x wr => LoR d.ws (markB keep) n (w3.heap.size + 1) (.slice d.A d.nB d.cB) W4 x wr) (fun x _ => n - (intOf x).toNat)
        case atStart => exact ⟨0, none, 0, Nat.zero_le _, rfl, HZ4.out, Fr.none_, grown_self _ _⟩
        case round =>
          obtain ⟨i, D, dd, hi, rfl, hz, hf, hg⟩ := hrel
          have hbr : Below w.heap.size w wr := HB4.out.grown hg HB4.out.size (by intro q hq; cases hq; have := HX3.out; omega)
          have hus := keptI_len d.ws (markB keep) i
          by_cases hlt : i < n
          · obtain ⟨bk, ok, u, rfl, hbk, hu, hck⟩ := (HR.out.below hbr).at_ hlt
            have hv : u = .bool (markB keep i) := by
              unfold markB
              rw [bos, List.getElem?_map, List.getElem?_eq_getElem (by rw [HL.out]; exact hlt)] at hu
              rw [List.getD_eq_getElem?_getD, List.getElem?_eq_getElem (by rw [HL.out]; exact hlt)]
              exact (Option.some.inj hu).symm
            subst hv
            have hlw := HD.out.lw
            have hltw : i < d.nW := by rw [← HNW.out]; exact hlt
            obtain ⟨b2, off2, hW, hb2, c0, c1⟩ := (HD.out.rw_.below hbr).at2 hltw hlw
            have hiw : i < d.ws.length := by omega
            have hk1 : markB keep i = true → keptI d.ws (markB keep) (i + 1) = keptI d.ws (markB keep) i ++ [d.ws[i]] := by
              intro h
              simp [keptI, List.getElem?_eq_getElem hiw, h]
            have hk2 : markB keep i = false → keptI d.ws (markB keep) (i + 1) = keptI d.ws (markB keep) i := by
              intro h
              simp [keptI, List.getElem?_eq_getElem hiw, h]
            have h0 : ¬ ((i : Int) < 0) := by omega
            have h5 : (i : Int) < (n : Int) := by omega
            have h6 : (i : Int) < (d.nW : Int) := by omega
            have hx := HX4.out.grown hg (by have := HX3.out; simp; omega)
            have hbw : b2 < wr.heap.size := Nat.lt_of_lt_of_le hb2 hbr.size
            have hS0 : LoS w.heap.size (.slice d.A d.nB d.cB) (.slice d.W d.nW d.cW) b2 (off2 + i * 2) d.ws[i] wr.drew := ⟨hx, c0, c1, hbw⟩
            have HS0 := Lib.hid hS0
            have HK1 := Lib.hid hk1
            have HK2 := Lib.hid hk2
            have HZ := Lib.hid (show DkBox wr.drew (w3.heap.size + 1) _ _ from hz)
            have HF := Lib.hid (show Fr wr.drew _ _ _ _ _ _ _ from hf)
            have hgd := grown_drew hg
            have HG := Lib.hid hgd
            have HZr := Lib.hid hz
            have HFr := Lib.hid hf
            have HGr := Lib.hid hg
            have HW := Lib.hid hW
            have HB2 := Lib.hid hb2
            have hu6 : (keptI d.ws (markB keep) i).length ≤ 5000 := by omega
            have HU6 := Lib.hid hu6
            have HHL := Lib.hid (show w3.heap.size + 1 < W4.heap.size ∧ w.heap.size < W4.heap.size ∧ b2 < W4.heap.size from ⟨HZ4.out.lt, HX4.out.lt, by have := HX4.out.lt; omega⟩)
            clear hu6
            have hrows := fun j (h : rowOf D dd = some j) => hf.row j h
            have HROWS := Lib.hid hrows
            have HLEN := Lib.hid hlen
            have hn9 : (n : Int) ≤ 1000000000 := by omega
            clear hu hbk hk1 hk2 hS0 hz hf hgd hg hus hW hb2 c0 c1 hx hbw hbr hrows hlen
            obtain ⟨us1, hus1⟩ : ∃ us, us = keptI d.ws (markB keep) (i + 1) := ⟨_, rfl⟩
            rw [← hus1] at HK1 HK2
            have HU1 := Lib.hid hus1
            clear hus1
            generalize keptI d.ws (markB keep) i = us at *
            generalize d.ws[i] = x at *
            cases hq : markB keep i with
            | false =>
              rw [hq] at hck
              have e := HK2.out hq
              have HE := Lib.hid e
              clear e hq
              go_wp2
              go_roundw
              case rel =>
                refine ⟨i + 1, D, dd, by omega, by simp, ?_, ?_, HGr.out⟩
                · rw [← HU1.out, HE.out]; exact HZr.out
                · rw [← HU1.out, HE.out]; exact HFr.out
              case measure => simp [intOf]; omega
            | true =>
              rw [hq] at hck
              have e := HK1.out hq
              have HE := Lib.hid e
              clear e hq HZr HFr HGr
              go_wp2
              refine wp_region_held_drew (S := LoS w.heap.size (.slice d.A d.nB d.cB) (.slice d.W d.nW d.cW) b2 (off2 + i * 2) x) (by kernel_rfl) HS0.out (fun hS => ?_)
              refine wpAnyH_take (i := 0) (v := ?_) rfl (by kernel_rfl) (by kernel_rfl) (by kernel_rfl) (fun _ _ _ h => h) (Or.inl ⟨by rfl, ?hyq⟩) hS ?_
              case hyq =>
                intro w hw
                go_simp
                try (with_reducible rfl)
              refine wpAnyH_take (i := 2) (v := ?_) rfl (by kernel_rfl) (by kernel_rfl) (by kernel_rfl) (fun _ _ _ h => h) (Or.inl ⟨by rfl, ?hyq⟩) hS ?_
              case hyq =>
                intro w hw
                go_simp
                try (with_reducible rfl)
              refine wpAnyH_take (i := 3) (v := ?_) rfl (by kernel_rfl) (by kernel_rfl) (by kernel_rfl) (fun _ _ _ h => h) (Or.inl ⟨by rfl, ?hyq⟩) hS ?_
              case hyq =>
                intro w hw
                obtain ⟨k0, k1⟩ := hw.g.cells
                rw [HW.out] at k1
                go_simp
                try (with_reducible rfl)
              refine wpAnyH_take (i := 4) (v := ?_) rfl (by kernel_rfl) (by kernel_rfl) (by kernel_rfl) (fun _ _ _ h => h) (Or.inl ⟨by rfl, ?hyq⟩) hS ?_
              case hyq =>
                intro w hw
                go_simp
                try (with_reducible rfl)
              refine wpAnyH_take (i := 5) (v := ?_) rfl (by kernel_rfl) (by kernel_rfl) (by kernel_rfl) (fun _ _ _ h => h) (Or.inl ⟨by rfl, ?hyq⟩) hS ?_
              case hyq =>
                intro w hw
                go_simp
                try (with_reducible rfl)
              refine wpAnyH_take (i := 6) (v := ?_) rfl (by kernel_rfl) (by kernel_rfl) (by kernel_rfl) (fun _ _ _ h => h) (Or.inl ⟨by rfl, ?hyq⟩) hS ?_
              case hyq =>
                intro w hw
                have k0 := hw.c0
                have k1 := hw.c1
                go_simp
                try (with_reducible rfl)
              try go_simp
              refine wpAnyH_ready (rs := [1, 7]) (by kernel_rfl) (by simp) ?_
              refine all_consH rfl (fun K hK => ?_) ?_
              · skip
                refine Stp.mk ?_
                obtain ⟨m0, m1⟩ := HZ.out.cells
                go_simp
                have hSn := hS
                clear m0 m1
                refine hK.out _ _ hSn (fun hS => ?_)
                clear hK K hSn
                try go_simp
                refine wpAnyH_ready (rs := [7]) (by kernel_rfl) (by simp) ?_
                refine all_consH rfl (fun K hK => ?_) ?_
                · skip
                  obtain ⟨W0, hW0⟩ : ∃ V, V = wr.drew := ⟨_, rfl⟩
                  obtain ⟨b9, hb9⟩ : ∃ b, b = W0.heap.size := ⟨_, rfl⟩
                  obtain ⟨w8, hw8⟩ : ∃ W, W = W0.alloc (.cells #[.int .i64 x.a, .slice x.s.A x.s.n x.s.c] 54) := ⟨_, rfl⟩
                  refine stp_run (v := .slice (some ⟨b9, 0, none⟩) 1 1) (w' := w8) rfl (by rw [hb9, hw8, hW0]; go_simp) ?_
                  have hr9 := Rd.made W0 54 2 1 [.int .i64 x.a, .slice x.s.A x.s.n x.s.c] rfl
                  have hb8 := below_new' W0 (.cells #[.int .i64 x.a, .slice x.s.A x.s.n x.s.c] 54)
                  rw [show ([.int .i64 x.a, .slice x.s.A x.s.n x.s.c] : List Value).toArray = #[.int .i64 x.a, .slice x.s.A x.s.n x.s.c] from rfl, ← hb9, ← hw8] at hr9
                  rw [← hw8, hW0] at hb8
                  have HR9 := Lib.hid (show Rd w8 (b9 + 1) 2 (some ⟨b9, 0, none⟩) 1 (wcs [x]) from hr9)
                  have hSn := hS.below hb8
                  replace HZ := Lib.hid (HZ.out.below hb8 HZ.out.lt)
                  replace HF := Lib.hid (HF.out.below hb8 (Nat.le_refl _))
                  replace HG := Lib.hid (HG.out.andThen (grown_of_below hb8 none) (fun j hj => by cases hj))
                  clear hr9 hb8 hb9 hw8 hW0
                  refine hK.out _ _ hSn (fun hS => ?_)
                  clear hK K hSn
                  try go_simp
                  refine wpAnyH_ready (rs := [8]) (by kernel_rfl) (by simp) ?_
                  refine all_consH rfl (fun K hK => ?_) ?_
                  · skip
                    refine stp_append_to (c := dd) (c' := 1) rfl (.tmp 48) (.tmp 54) rfl okW (by simp [Act.eval, Act.put]) HF.out (by simp [Act.eval, Act.put]) HR9.out (wcs_one [x]) (us.length + 1) rfl (wcs (us ++ [x])) (wcs_app us [x]).symm (by have := HU6.out; unfold maxLen; omega) (by have := HU6.out; omega) (by have := HG.out.size; omega) ?_
                    intro D5 d5 w5 f5 g5
                    obtain ⟨hgl, hGl, hbW⟩ := HHL.out
                    have hSn := hS.grown g5.out (fun e => by have := (HROWS.out _ e.symm).1; omega) (fun e => by have := (HROWS.out _ e.symm).1; omega)
                    replace HZ := Lib.hid (HZ.out.grown g5.out (fun e => by have := (HROWS.out _ e.symm).1; omega))
                    have HF5 := Lib.hid f5.out
                    replace HG := Lib.hid (HG.out.andThen g5.out (fun j hj => .inl (HROWS.out j hj).1))
                    clear f5 g5 HF HR9 hgl hGl hbW
                    refine hK.out _ _ hSn (fun hS => ?_)
                    clear hK K hSn
                    refine wpAnyH_take (i := 9) (v := ?_) rfl (by kernel_rfl) (by kernel_rfl) (by kernel_rfl) (fun _ _ _ h => h) (Or.inl ⟨by rfl, ?hyq⟩) hS ?_
                    case hyq =>
                      intro w hw
                      go_simp
                      try (with_reducible rfl)
                    try go_simp
                    refine wpAnyH_ready (rs := [10]) (by kernel_rfl) (by simp) ?_
                    refine all_consH rfl (fun K hK => ?_) ?_
                    · skip
                      refine Stp.mk ?_
                      obtain ⟨hgl, hGl, hbW⟩ := HHL.out
                      obtain ⟨m0, m1⟩ := HZ.out.cells
                      have mf := HZ.out.frozen
                      have hZ6 := HZ.out.put1 (.slice D5 (us.length + 1) d5)
                      have hg6 := grown_setCell w5 ⟨w3.heap.size + 1, 1, none⟩ (.slice D5 (us.length + 1) d5)
                      have hF6 := HF5.out.setCell (p := ⟨w3.heap.size + 1, 1, none⟩) (fun e => by have := (HF5.out.row _ e).1; simp at this; omega) (.slice D5 (us.length + 1) d5)
                      have hG6 := HG.out.andThen hg6 (fun j hj => .inr hj)
                      have hSn := hS.grown hg6 (by have := HX3.out; simp; omega) (by have := HX3.out; have := HB2.out; simp; omega)
                      clear hgl hGl hbW
                      go_simp
                      clear m0 m1 mf
                      refine hK.out _ _ hSn (fun hS => ?_)
                      clear hK K hSn
                      refine wpAnyH_done (by kernel_rfl) ?_ _
                      have HZ6 := Lib.hid hZ6
                      have HF6 := Lib.hid hF6
                      have HG6 := Lib.hid hG6
                      have hl1 : us1.length = us.length + 1 := by rw [HE.out, List.length_append]; rfl
                      clear hZ6 hF6 hG6 hg6 HZ HF5 HG hS HS0
                      go_wp2
                      go_roundw
                      case rel =>
                        refine ⟨i + 1, D5, d5, by omega, by simp, ?_, ?_, HG6.out⟩
                        · rw [← HU1.out, hl1]; exact HZ6.out
                        · rw [← HU1.out, hl1, HE.out]; exact HF6.out
                      case measure => simp [intOf]; omega
                    exact AllReadyH.nil
                  exact AllReadyH.nil
                exact AllReadyH.nil
              refine all_consH rfl (fun K hK => ?_) ?_
              · skip
                obtain ⟨W0, hW0⟩ : ∃ V, V = wr.drew := ⟨_, rfl⟩
                obtain ⟨b9, hb9⟩ : ∃ b, b = W0.heap.size := ⟨_, rfl⟩
                obtain ⟨w8, hw8⟩ : ∃ W, W = W0.alloc (.cells #[.int .i64 x.a, .slice x.s.A x.s.n x.s.c] 54) := ⟨_, rfl⟩
                refine stp_run (v := .slice (some ⟨b9, 0, none⟩) 1 1) (w' := w8) rfl (by rw [hb9, hw8, hW0]; go_simp) ?_
                have hr9 := Rd.made W0 54 2 1 [.int .i64 x.a, .slice x.s.A x.s.n x.s.c] rfl
                have hb8 := below_new' W0 (.cells #[.int .i64 x.a, .slice x.s.A x.s.n x.s.c] 54)
                rw [show ([.int .i64 x.a, .slice x.s.A x.s.n x.s.c] : List Value).toArray = #[.int .i64 x.a, .slice x.s.A x.s.n x.s.c] from rfl, ← hb9, ← hw8] at hr9
                rw [← hw8, hW0] at hb8
                have HR9 := Lib.hid (show Rd w8 (b9 + 1) 2 (some ⟨b9, 0, none⟩) 1 (wcs [x]) from hr9)
                have hSn := hS.below hb8
                replace HZ := Lib.hid (HZ.out.below hb8 HZ.out.lt)
                replace HF := Lib.hid (HF.out.below hb8 (Nat.le_refl _))
                replace HG := Lib.hid (HG.out.andThen (grown_of_below hb8 none) (fun j hj => by cases hj))
                clear hr9 hb8 hb9 hw8 hW0
                refine hK.out _ _ hSn (fun hS => ?_)
                clear hK K hSn
                try go_simp
                refine wpAnyH_ready (rs := [1]) (by kernel_rfl) (by simp) ?_
                refine all_consH rfl (fun K hK => ?_) ?_
                · skip
                  refine Stp.mk ?_
                  obtain ⟨m0, m1⟩ := HZ.out.cells
                  go_simp
                  have hSn := hS
                  clear m0 m1
                  refine hK.out _ _ hSn (fun hS => ?_)
                  clear hK K hSn
                  try go_simp
                  refine wpAnyH_ready (rs := [8]) (by kernel_rfl) (by simp) ?_
                  refine all_consH rfl (fun K hK => ?_) ?_
                  · skip
                    refine stp_append_to (c := dd) (c' := 1) rfl (.tmp 48) (.tmp 54) rfl okW (by simp [Act.eval, Act.put]) HF.out (by simp [Act.eval, Act.put]) HR9.out (wcs_one [x]) (us.length + 1) rfl (wcs (us ++ [x])) (wcs_app us [x]).symm (by have := HU6.out; unfold maxLen; omega) (by have := HU6.out; omega) (by have := HG.out.size; omega) ?_
                    intro D5 d5 w5 f5 g5
                    obtain ⟨hgl, hGl, hbW⟩ := HHL.out
                    have hSn := hS.grown g5.out (fun e => by have := (HROWS.out _ e.symm).1; omega) (fun e => by have := (HROWS.out _ e.symm).1; omega)
                    replace HZ := Lib.hid (HZ.out.grown g5.out (fun e => by have := (HROWS.out _ e.symm).1; omega))
                    have HF5 := Lib.hid f5.out
                    replace HG := Lib.hid (HG.out.andThen g5.out (fun j hj => .inl (HROWS.out j hj).1))
                    clear f5 g5 HF HR9 hgl hGl hbW
                    refine hK.out _ _ hSn (fun hS => ?_)
                    clear hK K hSn
                    refine wpAnyH_take (i := 9) (v := ?_) rfl (by kernel_rfl) (by kernel_rfl) (by kernel_rfl) (fun _ _ _ h => h) (Or.inl ⟨by rfl, ?hyq⟩) hS ?_
                    case hyq =>
                      intro w hw
                      go_simp
                      try (with_reducible rfl)
                    try go_simp
                    refine wpAnyH_ready (rs := [10]) (by kernel_rfl) (by simp) ?_
                    refine all_consH rfl (fun K hK => ?_) ?_
                    · skip
                      refine Stp.mk ?_
                      obtain ⟨hgl, hGl, hbW⟩ := HHL.out
                      obtain ⟨m0, m1⟩ := HZ.out.cells
                      have mf := HZ.out.frozen
                      have hZ6 := HZ.out.put1 (.slice D5 (us.length + 1) d5)
                      have hg6 := grown_setCell w5 ⟨w3.heap.size + 1, 1, none⟩ (.slice D5 (us.length + 1) d5)
                      have hF6 := HF5.out.setCell (p := ⟨w3.heap.size + 1, 1, none⟩) (fun e => by have := (HF5.out.row _ e).1; simp at this; omega) (.slice D5 (us.length + 1) d5)
                      have hG6 := HG.out.andThen hg6 (fun j hj => .inr hj)
                      have hSn := hS.grown hg6 (by have := HX3.out; simp; omega) (by have := HX3.out; have := HB2.out; simp; omega)
                      clear hgl hGl hbW
                      go_simp
                      clear m0 m1 mf
                      refine hK.out _ _ hSn (fun hS => ?_)
                      clear hK K hSn
                      refine wpAnyH_done (by kernel_rfl) ?_ _
                      have HZ6 := Lib.hid hZ6
                      have HF6 := Lib.hid hF6
                      have HG6 := Lib.hid hG6
                      have hl1 : us1.length = us.length + 1 := by rw [HE.out, List.length_append]; rfl
                      clear hZ6 hF6 hG6 hg6 HZ HF5 HG hS HS0
                      go_wp2
                      go_roundw
                      case rel =>
                        refine ⟨i + 1, D5, d5, by omega, by simp, ?_, ?_, HG6.out⟩
                        · rw [← HU1.out, hl1]; exact HZ6.out
                        · rw [← HU1.out, hl1, HE.out]; exact HF6.out
                      case measure => simp [intOf]; omega
                    exact AllReadyH.nil
                  exact AllReadyH.nil
                exact AllReadyH.nil
              exact AllReadyH.nil
          · obtain rfl : n = i := by omega
            have hnwl : n = d.ws.length := by rw [HD.out.lw]; exact HNW.out
            have hdr := HD.out.below hbr
            have hdl : Dk.ok ⟨d.A, d.nB, d.cB, d.bs, D, (keptI d.ws (markB keep) n).length, dd, keptI d.ws (markB keep) n⟩ wr :=
              ⟨hdr.lb, hdr.rb, hdr.sb, rfl, hf.rd, fun x hx => hdr.sw x (keptI_mem hx), hdr.cb, ⟨hf.nc, hf.cm⟩⟩
            have hdc : Dk.c ⟨d.A, d.nB, d.cB, d.bs, D, (keptI d.ws (markB keep) n).length, dd, keptI d.ws (markB keep) n⟩ = d.c.less (markB keep) := by
              unfold Ct.less Dk.c
              simp only [keptI_map, List.length_map, ← hnwl]
            have hfl := d_flush _ wr hdl (by have := HG1.out; simp only; omega) (by simp only; omega) 0 (by rw [hdc]; exact (errG_ok (Ct.less_may HM.out _)).symm)
            rw [hdc, Ct.less_left] at hfl
            simp only [Dk.v] at hfl
            have hy := HY4.out.grown hg (by simp)
            have hn' := HN4.out.grown_box hg HZ4.out
            obtain ⟨z0, z1⟩ := hz.cells
            have HFL := Lib.hid hfl
            have HY := Lib.hid hy
            have HN := Lib.hid hn'
            have HBR := Lib.hid hbr
            clear hdl hdc hfl hy hn' hnwl hdr hz hf hg hus hbr HY4 HN4 HX4 HZ4 HR4 HD4
            go_wp2_with fail
            refine HFL.out.mono ?_
            rintro e w6 ⟨d2, rfl, hn6, hb6⟩
            rw [if_pos rfl] at hn6
            have hy6 := HY.out.below hb6 HY.out.lt
            have hyl := hy6.lt
            obtain ⟨y0, y1⟩ := hy6.cells
            have hb7 := below_new' w6 (.cells #[.slice d2.A d2.nB d2.cB, .slice d2.W d2.nW d2.cW] 25)
            have hn1 := (HN.out.below hb6).below hb7
            have hn2 := hn6.below hb7
            obtain ⟨p1, p2⟩ := hn1.ok.sizes hn1.cc (Ct.left_may HM.out _)
            obtain ⟨q1, q2⟩ := hn2.ok.sizes hn2.cc (Ct.left_may HM.out _)
            have hzl : (d.c.left (markB keep)).w.length = 0 := rfl
            have hsm := d_same d' d2 _ hn1.ok hn2.ok (by omega) (by omega) (by omega) (by omega) true (by rw [hn1.cc, hn2.cc]; simp)
            simp only [Dk.v] at hsm
            have HSM := Lib.hid hsm
            have HB7 := Lib.hid (below_to (below_to HBR.out hb6 HBR.out.size) hb7 (below_to HBR.out hb6 HBR.out.size).size)
            clear hn6 hy6 hb7 hn1 hn2 p1 p2 q1 q2 hzl hsm hb6 HFL HY HN HBR z0 z1
            go_wp2_with fail
            refine HSM.out.mono ?_
            rintro e w8 ⟨rfl, b8⟩
            go_wp2
            go_ret
            exact ⟨rfl, below_to HB7.out b8 HB7.out.size⟩
      · have he2 : (E != 0) = true := by simp [he]
        have hb4 := below_new' w3 (.cells #[.slice d'.A d'.nB d'.cB, .slice d'.W d'.nW d'.cW] 25)
        have HB4 := Lib.hid (below_to HB3.out hb4 HB3.out.size)
        clear he hb4 b3 hx3 hn
        go_wp2
        go_ret
        exact ⟨rfl, HB4.out⟩
end Go.Proofs.Ytkaklppkmokffaa
