/-
  Contract of dev.left.
-/
import Derived.Test.YtkaklppkmokffaaDevF
namespace Go.Proofs.Ytkaklppkmokffaa
open Go.RowKit
set_option linter.unusedVariables false
set_option linter.unusedSimpArgs false
set_option maxRecDepth 100000

theorem Tw.grown {c : Ct} {base : Nat} {d : Dk} {w w' : World} {row : Option Nat} (h : Tw c base d w) (hg : w.grownBy w' row) (hr : ∀ j, row = some j → j < base) : Tw c base d w' := by
  obtain ⟨h1, h2, h3, h4, h5, h6, g, hg2, hl, hh, ha⟩ := h
  have hr' : ∀ s : Sl, ∀ j, row = some j → j < base ∨ ∃ cur fz e, w.heap[j]? = some (.cells cur e fz) ∧ e ≠ 5 := fun _ j hj => .inl (hr j hj)
  have f3 := h3.kept hg (by
    by_cases hn : rowOf d.A d.cB = none
    · exact .inl hn
    · exact .inr fun e => by
        obtain ⟨q, hq⟩ := Option.ne_none_iff_exists'.1 hn
        have h1 := (h3.row q hq).1
        have h2 := hr q (by rw [← e, hq])
        omega)
  have f4 := h4.kept hg (by
    by_cases hn : rowOf d.W d.cW = none
    · exact .inl hn
    · exact .inr fun e => by
        obtain ⟨q, hq⟩ := Option.ne_none_iff_exists'.1 hn
        have h1 := (h4.row q hq).1
        have h2 := hr q (by rw [← e, hq])
        omega)
  have ob := fun s hs => own_came (h1.sb s hs) (h5 s hs) hg (hr' s)
  have ow := fun x hx => own_came (h1.sw x hx).1 (h6 x hx) hg (hr' x.s)
  exact ⟨⟨h1.lb, f3.rd, fun s hs => (ob s hs).1, h1.lw, f4.rd, fun x hx => ⟨(ow x hx).1, (h1.sw x hx).2⟩, h1.cb, h1.cw⟩, h2, f3, f4, fun s hs => (ob s hs).2, fun x hx => (ow x hx).2, g, hg2, hl,
    (hg.block g (Array.getElem?_eq_some_iff.1 hh).1 (fun e => by have := hr g e.symm; omega)).trans hh, ha⟩

theorem invK9 : ∀ (key : Value) (kl : Lit), keyOf Try.prog 3 key = some kl → ∃ x, key = Value.int .i64 x := fun key kl h => by
  obtain ⟨x, rfl, _⟩ := Maps.keyOf_int_inv Try.underlying3 h
  exact ⟨x, rfl⟩
theorem invV9 : ∀ (v : Value) (y : DataW WH × List MemPlace), RW v = some y → ∃ c, v = whV c := fun v y h => by
  obtain ⟨c, rfl, _⟩ := RW_inv h
  exact ⟨c, rfl⟩
theorem whV_inj {c c' : WH} (h : whV c = whV c') : c = c' := by
  obtain ⟨a, A, n, k⟩ := c
  obtain ⟨a', A', n', k'⟩ := c'
  simp [whV] at h
  simp [h]
/-- What the next entry is. -/
theorem entry_is {ws : List Wt} {so : Nat → Bool} {nW : Nat} {Dm : DataW WH} (hmi : MapIs ws so nW Dm) {left : Lit → Bool} (hlh : ∀ z, left z = true → Maps.has Dm z = true) {x : Int} {c : WH} {kl : Lit} {y : DataW WH × List MemPlace}
    (hkey : keyOf Try.prog 3 (.int .i64 x) = some kl) (hlk : left kl = true) (hv : RW (whV c) = some y) (hat : ∀ zd, Dm.atKey kl zd = y.1) : ∃ p : Wt, lastI ws Wt.a so p.a nW = some p ∧ kl = .int .i64 p.a ∧ x = p.a ∧ c = p.h ∧ p ∈ ws := by
  obtain ⟨x', ex, rfl, hwx⟩ := Maps.keyOf_int_inv Try.underlying3 hkey
  cases ex
  have h1 := hlh _ hlk
  rw [hmi.hs] at h1
  obtain ⟨p, hp⟩ := Option.isSome_iff_exists.1 h1
  obtain ⟨hm, hx⟩ := lastI_mem hp
  subst hx
  obtain ⟨c', e1, e2⟩ := RW_inv hv
  have e3 := whV_inj e1
  have h2 := hmi.at_ _ p hp (.held c)
  rw [hat, e2] at h2
  have h3 : c' = p.h := by injection h2
  exact ⟨p, hp, rfl, rfl, e3.trans h3, hm⟩
theorem flatten_le : ∀ {l : List (List UInt8)} {m : Nat}, (∀ x ∈ l, x.length ≤ m) → l.flatten.length ≤ l.length * m
  | [], m, h => by simp
  | x :: l, m, h => by
    have h1 := h x (by simp)
    have h2 := flatten_le (l := l) (m := m) (fun y hy => h y (by simp [hy]))
    simp only [List.flatten_cons, List.length_append, List.length_cons, Nat.add_mul, Nat.one_mul]
    omega
theorem Ct.May.total {c : Ct} (h : c.May) : c.b.flatten.length ≤ 65536 := by
  have h1 := flatten_le (l := c.b) (m := 256) (fun x hx => Nat.le_of_eq (h.2.1 x hx))
  rw [h.1] at h1
  omega
def LfR1 (nB : Nat) (bs : List Sl) (Y : Value) (w wc : World) : Prop :=
  ∃ (D : Option Addr) (dd : Nat), DkBox wc w.heap.size (.slice D nB dd) Y ∧ DkBox wc (w.heap.size + 1) (.slice none 0 0) (.slice none 0 0) ∧ Fr wc (w.heap.size + 2) 41 1 D nB dd (bs.map Sl.v) ∧ Below w.heap.size w wc
def LfR2 (bs : List Sl) (m : Int → Option Wt) (b r nW : Nat) (Dm : DataW WH) (D : Option Addr) (nB dd : Nat) (Y : Value) (w wr : World) : Prop :=
  ∃ (left : Lit → Bool) (cnt : Nat), wr.ranges Try.prog 3 RW b r nW Dm left cnt ∧ (∀ z, left z = true → Maps.has Dm z = true) ∧ (∀ a : Int, Maps.has Dm (.int .i64 a) = (m a).isSome) ∧ DkBox wr w.heap.size (.slice D nB dd) Y ∧ DkBox wr (w.heap.size + 1) (.slice none 0 0) (.slice none 0 0) ∧
    Fr wr (w.heap.size + 2) 41 1 D nB dd ((mixS bs m left).map Sl.v) ∧ Below w.heap.size w wr
set_option maxHeartbeats 4000000 in
theorem d_left (d : Dk) (w : World) (hd : d.ok w) (hmay : d.c.May) (so : Nat → Bool) (g : Nat) (lb : Array Value) (eg : ∀ args w, (callFunc g args).run Try.prog w = .ok (.enter g args) w)
    (hso : Tells g lb so d.nW w) : Calls Try.prog 36 #[d.v, .func (.func g) #[] lb] w (TwP (d.c.left so) w) := by
  have HD := Lib.hid hd
  have hlw := hd.lw
  have hlb := hd.lb
  have HSO := Lib.hid hso
  have HM := Lib.hid hmay
  obtain ⟨c0, hc0⟩ : ∃ c0, c0 = d.c.left so := ⟨_, rfl⟩
  rw [← hc0]
  have HC0 := Lib.hid hc0
  have hnB : (d.nB : Int) ≤ 1000000 := by have := hmay.1; rw [Dk.c_b, List.length_map, hlb] at this; omega
  have hnW : (d.nW : Int) ≤ 1000000 := by have := hmay.2.2.1; rw [Dk.c_w, List.length_map, hlw] at this; omega
  clear hd hso hmay hc0
  obtain ⟨A, nB, cB, bs, W, nW, cW, ws⟩ := d
  simp only [Dk.v] at *
  have hx0 := DkBox.new w (.slice A nB cB) (.slice W nW cW)
  have hxA := hx0.alloc (.cells #[.slice none 0 0, .slice none 0 0] 25)
  have hxB := DkBox.new (w.alloc (.cells #[.slice A nB cB, .slice W nW cW] 25)) (.slice none 0 0) (.slice none 0 0)
  rw [World.size_alloc] at hxB
  have hb2 := (below_new' w (.cells #[.slice A nB cB, .slice W nW cW] 25)).alloc (by simp) (.cells #[.slice none 0 0, .slice none 0 0] 25)
  have hsz2 : ((w.alloc (.cells #[.slice A nB cB, .slice W nW cW] 25)).alloc (.cells #[.slice none 0 0, .slice none 0 0] 25)).heap.size = w.heap.size + 2 := by simp
  have HXA := Lib.hid hxA
  have HXB := Lib.hid hxB
  have HB2 := Lib.hid hb2
  have HSZ2 := Lib.hid hsz2
  clear hx0 hxA hxB hb2 hsz2
  go_enter Try.func36, Try.ntmps36
  go_wp2
  generalize (w.alloc (.cells #[.slice A nB cB, .slice W nW cW] 25)).alloc (.cells #[.slice none 0 0, .slice none 0 0] 25) = w2 at *
  go_cut [] from 13 (fun wc => LfR1 nB bs (.slice W nW cW) w wc)
  case first =>
    replace HXA := Lib.hid (show DkBox w2.drew _ _ _ from HXA.out)
    replace HXB := Lib.hid (show DkBox w2.drew _ _ _ from HXB.out)
    have hbd := HB2.out.drew
    replace HB2 := Lib.hid (show Below w.heap.size w w2.drew from hbd)
    replace HSZ2 := Lib.hid (show w2.drew.heap.size = w.heap.size + 2 from HSZ2.out)
    clear hbd
    refine wp_region_any (by kernel_rfl) ?_
    try (change wpAny _ _ _ _ _ _ _ (World.drew _))
    refine wpAny_take (i := 0) (v := ?_) rfl (by kernel_rfl) (by kernel_rfl) (by kernel_rfl) (fun _ _ _ h => h) (Or.inl ⟨by rfl, ?hyq⟩) ?_
    case hyq => (intro w; go_simp; try (with_reducible rfl))
    refine wpAny_take (i := 3) (v := ?_) rfl (by kernel_rfl) (by kernel_rfl) (by kernel_rfl) (fun _ _ _ h => h) (Or.inl ⟨by rfl, ?hyq⟩) ?_
    case hyq => (intro w; go_simp; try (with_reducible rfl))
    refine wpAny_ready (rs := [1, 4]) (by kernel_rfl) (by simp) ?_
    refine all_cons rfl (fun K hK => ?_) ?_
    · skip
      refine Stp.mk ?_
      obtain ⟨m0, m1⟩ := HXA.out.cells
      go_simp
      clear m0 m1
      refine hK _ _ ?_
      clear hK K
      refine wpAny_ready (rs := [2, 4]) (by kernel_rfl) (by simp) ?_
      refine all_cons rfl (fun K hK => ?_) ?_
      · skip
        refine Stp.mk ?_
        go_simp
        go_wp2_with fail
        refine (s_clone A nB cB bs _ hlb (HD.out.rb.belowH HB2.out (Nat.le_refl _) |>.more HB2.out.size) hnB).mono ?_
        rintro e w3 ⟨D, dd, rfl, f3, b3⟩
        replace HXA := Lib.hid (HXA.out.below b3 HXA.out.lt)
        replace HXB := Lib.hid (HXB.out.below b3 HXB.out.lt)
        replace HB2 := Lib.hid (below_to HB2.out b3 HB2.out.size)
        have HF := Lib.hid (f3.mono (base' := w.heap.size + 2) (by rw [HSZ2.out]; exact Nat.le_refl _))
        clear b3 f3
        go_wp2
        refine wpAny_ready (rs := [4]) (by kernel_rfl) (by simp) ?_
        refine all_cons rfl (fun K hK => ?_) ?_
        · skip
          refine Stp.mk ?_
          obtain ⟨m0, m1⟩ := HXA.out.cells
          go_simp
          clear m0 m1
          refine hK _ _ ?_
          clear hK K
          refine wpAny_take (i := 5) (v := ?_) rfl (by kernel_rfl) (by kernel_rfl) (by kernel_rfl) (fun _ _ _ h => h) (Or.inl ⟨by rfl, ?hyq⟩) ?_
          case hyq => (intro w; go_simp; try (with_reducible rfl))
          refine wpAny_ready (rs := [6]) (by kernel_rfl) (by simp) ?_
          refine all_cons rfl (fun K hK => ?_) ?_
          · skip
            refine Stp.mk ?_
            obtain ⟨m0, m1⟩ := HXA.out.cells
            have mf := HXA.out.frozen
            have hX6 := (HXA.out.put0 (.slice D nB dd)).put1 (.slice W nW cW)
            have hY6 := (HXB.out.set ⟨w.heap.size, 0, none⟩ (by simp) (.slice D nB dd)).set ⟨w.heap.size, 1, none⟩ (by simp) (.slice W nW cW)
            have hF6 := (HF.out.setCell (p := ⟨w.heap.size, 0, none⟩) (fun e => by have := (HF.out.row _ e).1; simp at this; omega) (.slice D nB dd)).setCell (p := ⟨w.heap.size, 1, none⟩) (fun e => by have := (HF.out.row _ e).1; simp at this; omega) (.slice W nW cW)
            have hB6 := (HB2.out.setCell (p := ⟨w.heap.size, 0, none⟩) (Nat.le_refl _) (.slice D nB dd)).setCell (p := ⟨w.heap.size, 1, none⟩) (Nat.le_refl _) (.slice W nW cW)
            go_simp
            clear m0 m1 mf
            refine hK _ _ ?_
            clear hK K
            refine wpAny_done (by kernel_rfl) ?_ _
            go_wp2
            go_meet
            case rel => exact ⟨D, dd, hX6, hY6, hF6, hB6⟩
          exact AllReady.nil
        exact AllReady.nil
      refine all_cons rfl (fun K hK => ?_) ?_
      · skip
        refine Stp.mk ?_
        obtain ⟨m0, m1⟩ := HXA.out.cells
        go_simp
        clear m0 m1
        refine hK _ _ ?_
        clear hK K
        refine wpAny_ready (rs := [2]) (by kernel_rfl) (by simp) ?_
        refine all_cons rfl (fun K hK => ?_) ?_
        · skip
          refine Stp.mk ?_
          go_simp
          go_wp2_with fail
          refine (s_clone A nB cB bs _ hlb (HD.out.rb.belowH HB2.out (Nat.le_refl _) |>.more HB2.out.size) hnB).mono ?_
          rintro e w3 ⟨D, dd, rfl, f3, b3⟩
          replace HXA := Lib.hid (HXA.out.below b3 HXA.out.lt)
          replace HXB := Lib.hid (HXB.out.below b3 HXB.out.lt)
          replace HB2 := Lib.hid (below_to HB2.out b3 HB2.out.size)
          have HF := Lib.hid (f3.mono (base' := w.heap.size + 2) (by rw [HSZ2.out]; exact Nat.le_refl _))
          clear b3 f3
          go_wp2
          refine wpAny_take (i := 5) (v := ?_) rfl (by kernel_rfl) (by kernel_rfl) (by kernel_rfl) (fun _ _ _ h => h) (Or.inl ⟨by rfl, ?hyq⟩) ?_
          case hyq => (intro w; go_simp; try (with_reducible rfl))
          refine wpAny_ready (rs := [6]) (by kernel_rfl) (by simp) ?_
          refine all_cons rfl (fun K hK => ?_) ?_
          · skip
            refine Stp.mk ?_
            obtain ⟨m0, m1⟩ := HXA.out.cells
            have mf := HXA.out.frozen
            have hX6 := (HXA.out.put0 (.slice D nB dd)).put1 (.slice W nW cW)
            have hY6 := (HXB.out.set ⟨w.heap.size, 0, none⟩ (by simp) (.slice D nB dd)).set ⟨w.heap.size, 1, none⟩ (by simp) (.slice W nW cW)
            have hF6 := (HF.out.setCell (p := ⟨w.heap.size, 0, none⟩) (fun e => by have := (HF.out.row _ e).1; simp at this; omega) (.slice D nB dd)).setCell (p := ⟨w.heap.size, 1, none⟩) (fun e => by have := (HF.out.row _ e).1; simp at this; omega) (.slice W nW cW)
            have hB6 := (HB2.out.setCell (p := ⟨w.heap.size, 0, none⟩) (Nat.le_refl _) (.slice D nB dd)).setCell (p := ⟨w.heap.size, 1, none⟩) (Nat.le_refl _) (.slice W nW cW)
            go_simp
            clear m0 m1 mf
            refine hK _ _ ?_
            clear hK K
            refine wpAny_done (by kernel_rfl) ?_ _
            go_wp2
            go_meet
            case rel => exact ⟨D, dd, hX6, hY6, hF6, hB6⟩
          exact AllReady.nil
        exact AllReady.nil
      exact AllReady.nil
    refine all_cons rfl (fun K hK => ?_) ?_
    · skip
      refine Stp.mk ?_
      obtain ⟨m0, m1⟩ := HXA.out.cells
      go_simp
      clear m0 m1
      refine hK _ _ ?_
      clear hK K
      refine wpAny_ready (rs := [1]) (by kernel_rfl) (by simp) ?_
      refine all_cons rfl (fun K hK => ?_) ?_
      · skip
        refine Stp.mk ?_
        obtain ⟨m0, m1⟩ := HXA.out.cells
        go_simp
        clear m0 m1
        refine hK _ _ ?_
        clear hK K
        refine wpAny_ready (rs := [2]) (by kernel_rfl) (by simp) ?_
        refine all_cons rfl (fun K hK => ?_) ?_
        · skip
          refine Stp.mk ?_
          go_simp
          go_wp2_with fail
          refine (s_clone A nB cB bs _ hlb (HD.out.rb.belowH HB2.out (Nat.le_refl _) |>.more HB2.out.size) hnB).mono ?_
          rintro e w3 ⟨D, dd, rfl, f3, b3⟩
          replace HXA := Lib.hid (HXA.out.below b3 HXA.out.lt)
          replace HXB := Lib.hid (HXB.out.below b3 HXB.out.lt)
          replace HB2 := Lib.hid (below_to HB2.out b3 HB2.out.size)
          have HF := Lib.hid (f3.mono (base' := w.heap.size + 2) (by rw [HSZ2.out]; exact Nat.le_refl _))
          clear b3 f3
          go_wp2
          refine wpAny_take (i := 5) (v := ?_) rfl (by kernel_rfl) (by kernel_rfl) (by kernel_rfl) (fun _ _ _ h => h) (Or.inl ⟨by rfl, ?hyq⟩) ?_
          case hyq => (intro w; go_simp; try (with_reducible rfl))
          refine wpAny_ready (rs := [6]) (by kernel_rfl) (by simp) ?_
          refine all_cons rfl (fun K hK => ?_) ?_
          · skip
            refine Stp.mk ?_
            obtain ⟨m0, m1⟩ := HXA.out.cells
            have mf := HXA.out.frozen
            have hX6 := (HXA.out.put0 (.slice D nB dd)).put1 (.slice W nW cW)
            have hY6 := (HXB.out.set ⟨w.heap.size, 0, none⟩ (by simp) (.slice D nB dd)).set ⟨w.heap.size, 1, none⟩ (by simp) (.slice W nW cW)
            have hF6 := (HF.out.setCell (p := ⟨w.heap.size, 0, none⟩) (fun e => by have := (HF.out.row _ e).1; simp at this; omega) (.slice D nB dd)).setCell (p := ⟨w.heap.size, 1, none⟩) (fun e => by have := (HF.out.row _ e).1; simp at this; omega) (.slice W nW cW)
            have hB6 := (HB2.out.setCell (p := ⟨w.heap.size, 0, none⟩) (Nat.le_refl _) (.slice D nB dd)).setCell (p := ⟨w.heap.size, 1, none⟩) (Nat.le_refl _) (.slice W nW cW)
            go_simp
            clear m0 m1 mf
            refine hK _ _ ?_
            clear hK K
            refine wpAny_done (by kernel_rfl) ?_ _
            go_wp2
            go_meet
            case rel => exact ⟨D, dd, hX6, hY6, hF6, hB6⟩
          exact AllReady.nil
        exact AllReady.nil
      exact AllReady.nil
    exact AllReady.nil
  case rest =>
    obtain ⟨D, dd, hxa, hxb, hf, hb⟩ := hcut
    clear HXA HXB HB2 HSZ2
    have hok : Dk.ok ⟨D, nB, dd, bs, W, nW, cW, ws⟩ wc := by
      have h := HD.out.below hb
      exact ⟨h.lb, hf.rd, h.sb, h.lw, h.rw_, h.sw, ⟨hf.nc, hf.cm⟩, h.cw⟩
    have hla := d_lasts ⟨D, nB, dd, bs, W, nW, cW, ws⟩ wc hok hnW so g lb eg (HSO.out.below hb)
    have hrw := fun j h => (hf.row j h).2
    have HLA := Lib.hid hla
    have HROW := Lib.hid hrw
    have HX := Lib.hid hxa
    have HY := Lib.hid hxb
    have HF := Lib.hid hf
    have HB := Lib.hid hb
    obtain ⟨m0, m1⟩ := hxa.cells
    clear hok hla hrw hxa hxb hf hb
    go_wp2_with fail
    refine HLA.out.mono ?_
    rintro e w3 ⟨b, Dm, rfl, hown, hmi, hbb, hb3⟩
    have HOWN := Lib.hid hown
    have HMI := Lib.hid hmi
    have HX3 := Lib.hid (HX.out.below hb3 HX.out.lt)
    have HY3 := Lib.hid (HY.out.below hb3 HY.out.lt)
    have HF3 := Lib.hid (HF.out.below hb3 (Nat.le_refl _))
    have HB3 := Lib.hid (below_to HB.out hb3 HB.out.size)
    have HBB := Lib.hid (show wc.heap.size ≤ b from hbb)
    have HBL := Lib.hid hown.lt
    clear hown hmi hbb hb3 m0 m1 HX HY HF HB HLA
    go_wp2_with (at_range; go_loud (refine wpList_range_own _ rfl _ 78 rfl 3 54 keyI Try.underlying78 _ b nW _ rfl HOWN.out ?_; intro w4 hrg0 hg0 hs0))
    go_frame
    have hb4 : Below w3.heap.size w3 w4 := grown_below hg0 (Nat.le_refl _) (fun j hj => by cases hj)
    have HX4 := Lib.hid (HX3.out.below hb4 HX3.out.lt)
    have HY4 := Lib.hid (HY3.out.below hb4 HY3.out.lt)
    have HF4 := Lib.hid (HF3.out.below hb4 (Nat.le_refl _))
    have HB4 := Lib.hid (below_to HB3.out hb4 HB3.out.size)
    have HRG := Lib.hid hrg0
    clear hrg0 hg0 hs0 hb4 HX3 HY3 HF3 HB3 HOWN
    go_loopw [5] (fun _ wr => LfR2 bs (fun a => lastI ws Wt.a so a nW) b w3.heap.size nW Dm D nB dd (.slice W nW cW) w wr) (fun _ wr => wr.rangeLeft b w3.heap.size)
    case atStart => exact ⟨_, _, HRG.out, fun z h => h, HMI.out.hs, HX4.out, HY4.out, by rw [mixS_start _ _ _ HMI.out.hs]; exact HF4.out, HB4.out⟩
    case round =>
      obtain ⟨left, cnt, hrg, hlh, hmh, hxa, hxb, hf, hb⟩ := hrel
      have HLH := Lib.hid hlh
      have HMH := Lib.hid hmh
      have HX := Lib.hid hxa
      have HY := Lib.hid hxb
      have HF := Lib.hid hf
      have HB := Lib.hid hb
      have HRG2 := Lib.hid hrg
      clear hrg
      clear hlh hmh hxa hxb hf hb HX4 HY4 HF4 HB4 HRG
      go_wp2_with (at_next; go_loud (refine wpList_next_ranges _ rfl (.tmp 16) rfl 3 keyI RW (Value.int .i64) whV invK9 invV9 b w3.heap.size nW _ _ _ rfl HRG2.out (fun h0 hl0 => Shut.out ?_) (fun x c kl y w5 cnt5 hkey hlk hv hat hrg5 hlt5 hg5 hs5 hen => Shut.out ?_)))
      · have HL0 := Lib.hid hl0
        clear hl0 h0
        obtain ⟨x0, x1⟩ := HX.out.cells
        have xf := HX.out.frozen
        have hm0 : (mixS bs (fun a => lastI ws Wt.a so a nW) left).map Sl.l = leftB (bs.map Sl.l) (ws.map Wt.c) so := mixS_end bs _ left HL0.out _ rfl _ so (fun a => by rw [lastI_map Wt.c ws Prod.fst so a, List.length_map, hlw]; rfl)
        have hf6 := HF.out.setCell (p := ⟨w.heap.size, 1, none⟩) (fun e => by have := (HF.out.row _ e).1; simp at this; omega) (.slice none 0 0)
        have hb6 := HB.out.setCell (p := ⟨w.heap.size, 1, none⟩) (Nat.le_refl _) (.slice none 0 0)
        have hy6 := HY.out.set ⟨w.heap.size, 1, none⟩ (by simp) (.slice none 0 0)
        have hsz6 : w.heap.size + 1 < (wr.setCell ⟨w.heap.size, 1, none⟩ (.slice none 0 0)).heap.size := hy6.lt
        have hok6 : Dk.ok ⟨D, nB, dd, mixS bs (fun a => lastI ws Wt.a so a nW) left, none, 0, 0, []⟩ (wr.setCell ⟨w.heap.size, 1, none⟩ (.slice none 0 0)) := by
          have h := HD.out.below hb6
          refine ⟨by rw [mixS_len]; exact hlb, hf6.rd, fun s hs => ?_, rfl, Rd.nil_, (fun x hx => by cases hx), ⟨hf6.nc, hf6.cm⟩, ⟨Nat.le_refl _, Nat.zero_le _⟩⟩
          rcases mixS_mem (show s ∈ mixS bs (fun a => lastI ws Wt.a so a nW) left from hs) with h1 | ⟨a, x, h1, rfl⟩
          · exact h.sb s h1
          · exact (h.sw x (lastI_mem h1).1).1
        have hc6 : Dk.c ⟨D, nB, dd, mixS bs (fun a => lastI ws Wt.a so a nW) left, none, 0, 0, []⟩ = c0 := by
          rw [HC0.out]
          simp only [Dk.c, hm0, Ct.left]
          rfl
        have hmay6 : c0.May := by rw [HC0.out]; exact Ct.left_may HM.out so
        have htw := d_twin ⟨D, nB, dd, mixS bs (fun a => lastI ws Wt.a so a nW) left, none, 0, 0, []⟩ _ hok6 hnB (by simp) (by rw [hc6]; have := hmay6.total; omega) (fun x hx => by cases hx)
        rw [hc6] at htw
        have HTW := Lib.hid htw
        have HY6 := Lib.hid hy6
        have HB6 := Lib.hid hb6
        have HSZ6 := Lib.hid hsz6
        clear hm0 hf6 hb6 hy6 hsz6 hok6 hc6 hmay6 htw
        unfold Shut
        go_wp2_with fail
        refine HTW.out.mono ?_
        rintro e w7 ⟨d', he, htw, hb7⟩
        unfold Dk.v at he
        subst he
        have HY7 := Lib.hid (HY6.out.below hb7 HY6.out.lt)
        obtain ⟨y0, y1⟩ := HY7.out.cells
        have yf := HY7.out.frozen
        have ht8 := (htw.grown (grown_setCell w7 ⟨w.heap.size + 1, 0, none⟩ (.slice d'.A d'.nB d'.cB)) (fun j hj => by cases hj; exact HSZ6.out)).grown (grown_setCell _ ⟨w.heap.size + 1, 1, none⟩ (.slice d'.W d'.nW d'.cW)) (fun j hj => by cases hj; exact HSZ6.out)
        have hb8 := ((below_to HB6.out hb7 HB6.out.size).setCell (p := ⟨w.heap.size + 1, 0, none⟩) (Nat.le_succ _) (.slice d'.A d'.nB d'.cB)).setCell (p := ⟨w.heap.size + 1, 1, none⟩) (Nat.le_succ _) (.slice d'.W d'.nW d'.cW)
        have HT8 := Lib.hid ht8
        have HB8 := Lib.hid hb8
        clear htw hb7 ht8 hb8 x0 x1 xf
        go_wp2
        refine bodyPost_ret (v := .agg #[.slice d'.A d'.nB d'.cB, .slice d'.W d'.nW d'.cW]) (by simp [results, Try.results36, go_sem, y0, y1]) rfl ?_
        exact ⟨d', rfl, HT8.out.mono (by have := HSZ6.out; omega), HB8.out⟩
      · obtain ⟨p, hp, rfl, rfl, rfl, hpm⟩ := entry_is HMI.out HLH.out hkey hlk hv hat
        have hpr := (HM.out.2.2.2 (Wt.c p) (List.mem_map_of_mem hpm)).1
        have hnb : nB = 256 := by have := HM.out.1; rw [Dk.c_b, List.length_map, hlb] at this; exact this
        clear hkey hlk hv hat
        obtain ⟨pa, ps⟩ := p
        simp only [Wt.c] at hpr
        obtain ⟨a, rfl⟩ : ∃ a : Nat, pa = (a : Int) := ⟨pa.toNat, by omega⟩
        have ha : a < nB := by omega
        have ha0 : ¬ ((a : Int) < 0) := by omega
        have ha1 : (a : Int) < (nB : Int) := by omega
        have hen' : (Instr.entry (.pointer (some ⟨w3.heap.size, 0, none⟩))).run Try.prog w5 = .ok (.tuple #[.int .i64 (a : Int), .agg #[.int .i64 (a : Int), .slice ps.A ps.n ps.c]]) w5 := hen
        clear hen
        have hlt6 : b < w3.heap.size := HBL.out
        have hrb := HRG2.out.lt
        have hDc : 0 < dd := by have := HF.out.nc; omega
        obtain ⟨gD, rfl, hgD, hgDl⟩ := HF.out.form hDc
        have hgDb : gD < wc.heap.size := HROW.out gD (rowOf_some gD 0 dd hDc)
        have hbw5 : ∀ k, k ≠ w3.heap.size → k < wr.heap.size → w5.heap[k]? = wr.heap[k]? := fun k hk hl => hg5.block k hl (fun e => hk (by injection e))
        have hX5 : DkBox w5 w.heap.size (.slice (some ⟨gD, 0, none⟩) nB dd) (.slice W nW cW) := HX.out.grown hg5 (fun e => by injection e with e; have := HBB.out; omega)
        have hY5 : DkBox w5 (w.heap.size + 1) (.slice none 0 0) (.slice none 0 0) := HY.out.grown hg5 (fun e => by injection e with e; have := HBB.out; omega)
        have hF5 := HF.out.kept hg5 (.inr (by rw [rowOf_some gD 0 dd hDc]; intro e; injection e with e; have := HBB.out; omega))
        have hB5 : Below w.heap.size w w5 := HB.out.grown hg5 HB.out.size (fun j hj => by cases hj; have := HBB.out; omega)
        obtain ⟨x0, x1⟩ := hX5.cells
        obtain ⟨u, hu, hcell⟩ := hF5.cell (i := a) ha
        have hfr := hF5.frozen (i := a) ha
        have hgD5 : gD < w5.heap.size := by rw [hs5]; exact hgDl
        have hG5 : w.heap.size < w5.heap.size := by rw [hs5]; exact HX.out.lt
        have hms := mixS_step bs (fun a => lastI ws Wt.a so a nW) left a (by omega) ⟨(a : Int), ps⟩ hp
        have hX6 := (hX5.set ⟨gD, a, none⟩ (by simp; omega) (.slice ps.A ps.n ps.c)).alloc (.cells #[.int .i64 (a : Int), .slice ps.A ps.n ps.c] 54)
        have hY6 := (hY5.set ⟨gD, a, none⟩ (by simp; omega) (.slice ps.A ps.n ps.c)).alloc (.cells #[.int .i64 (a : Int), .slice ps.A ps.n ps.c] 54)
        have hF6 := (hF5.set hDc a (.slice ps.A ps.n ps.c)).alloc (.cells #[.int .i64 (a : Int), .slice ps.A ps.n ps.c] 54)
        have hB6 := below_alloc (hB5.setCell (p := ⟨gD, a, none⟩) (by simp; omega) (.slice ps.A ps.n ps.c)) (.cells #[.int .i64 (a : Int), .slice ps.A ps.n ps.c] 54) (by have := hB5.size; simp [World.setCell]; omega)
        have hR6 := (hrg5.kept (grown_setCell w5 ⟨gD, a, none⟩ (.slice ps.A ps.n ps.c)) (fun e => by injection e with e; have := HBB.out; simp at e; omega) (fun e => by injection e with e; have := HBB.out; simp at e; omega)).alloc (.cells #[.int .i64 (a : Int), .slice ps.A ps.n ps.c] 54)
        have hL6 : ∀ z, (left z && !z.sameKey (.int .i64 (a : Int))) = true → Maps.has Dm z = true := fun z hz => HLH.out z (by simp only [Bool.and_eq_true] at hz; exact hz.1)
        rw [show ((mixS bs (fun a => lastI ws Wt.a so a nW) left).map Sl.v).set a (.slice ps.A ps.n ps.c) = (mixS bs (fun a => lastI ws Wt.a so a nW) fun z => left z && !z.sameKey (.int .i64 (a : Int))).map Sl.v by rw [hms, List.map_set]; rfl] at hF6
        have HX6 := Lib.hid hX6
        have HY6 := Lib.hid hY6
        have HF6 := Lib.hid hF6
        have HB6 := Lib.hid hB6
        have HR6 := Lib.hid hR6
        have HL6 := Lib.hid hL6
        have HLT5 := Lib.hid hlt5
        clear hX5 hY5 hF5 hB5 hX6 hY6 hF6 hB6 hR6 hL6 hms hbw5 hrg5 hg5 hs5 hp hpm hu hlt5 hrb hlt6 hnb hpr
        unfold Shut
        go_wp2
        go_roundw
        case rel => exact ⟨_, _, HR6.out, HL6.out, HMH.out, HX6.out, HY6.out, HF6.out, HB6.out⟩
        case measure => rw [HR6.out.left_eq, HRG2.out.left_eq]; exact HLT5.out
end Go.Proofs.Ytkaklppkmokffaa
