/-
  Contracts of dev.guarded and of what is done under guard.
-/
import Derived.Test.YtkaklppkmokffaaDevG
namespace Go.Proofs.Ytkaklppkmokffaa
open Go.RowKit
set_option linter.unusedVariables false
set_option linter.unusedSimpArgs false
set_option maxRecDepth 100000

/-- A disk in new memory. -/
structure Nw (c : Ct) (base : Nat) (d : Dk) (w : World) : Prop where
  ok : d.ok w
  cc : d.c = c
  fb : Fr w base 41 1 d.A d.nB d.cB (d.bs.map Sl.v)
  fw : Fr w base 54 2 d.W d.nW d.cW (wcs d.ws)
  ob : ∀ s ∈ d.bs, Own w base s
  ow : ∀ x ∈ d.ws, Own w base x.s
theorem Tw.nw {c : Ct} {base : Nat} {d : Dk} {w : World} (h : Tw c base d w) : Nw c base d w := ⟨h.ok, h.cc, h.fb, h.fw, h.ob, h.ow⟩
def Dk.nil : Dk := ⟨none, 0, 0, [], none, 0, 0, []⟩
theorem Nw.nil (base : Nat) (w : World) : Nw ⟨[], []⟩ base Dk.nil w :=
  ⟨⟨rfl, Rd.nil_, fun s hs => (by cases hs), rfl, Rd.nil_, fun x hx => (by cases hx), ⟨Nat.le_refl _, Nat.zero_le _⟩, ⟨Nat.le_refl _, Nat.zero_le _⟩⟩, rfl, Fr.none_, Fr.none_, fun s hs => (by cases hs), fun x hx => (by cases hx)⟩
theorem fr_low {w w' : World} {base sz n c : Nat} {e : TypeId} {A : Option Addr} {xs : List Value} {row : Option Nat} (h : Fr w base e sz A n c xs) (hg : w.grownBy w' row) (hr : ∀ j, row = some j → j < base) : Fr w' base e sz A n c xs :=
  h.kept hg (by
    by_cases hn : rowOf A c = none
    · exact .inl hn
    · exact .inr fun e => by
        obtain ⟨q, hq⟩ := Option.ne_none_iff_exists'.1 hn
        have h1 := (h.row q hq).1
        have h2 := hr q (by rw [← e, hq])
        omega)
theorem Nw.grown {c : Ct} {base : Nat} {d : Dk} {w w' : World} {row : Option Nat} (h : Nw c base d w) (hg : w.grownBy w' row) (hr : ∀ j, row = some j → j < base) : Nw c base d w' := by
  obtain ⟨h1, h2, h3, h4, h5, h6⟩ := h
  have hr' : ∀ s : Sl, ∀ j, row = some j → j < base ∨ ∃ cur fz e, w.heap[j]? = some (.cells cur e fz) ∧ e ≠ 5 := fun _ j hj => .inl (hr j hj)
  have f3 := fr_low h3 hg hr
  have f4 := fr_low h4 hg hr
  have ob := fun s hs => own_came (h1.sb s hs) (h5 s hs) hg (hr' s)
  have ow := fun x hx => own_came (h1.sw x hx).1 (h6 x hx) hg (hr' x.s)
  exact ⟨⟨h1.lb, f3.rd, fun s hs => (ob s hs).1, h1.lw, f4.rd, fun x hx => ⟨(ow x hx).1, (h1.sw x hx).2⟩, h1.cb, h1.cw⟩, h2, f3, f4, fun s hs => (ob s hs).2, fun x hx => (ow x hx).2⟩
theorem Nw.below {c : Ct} {base : Nat} {d : Dk} {w w' : World} (h : Nw c base d w) (hb : Below w.heap.size w w') : Nw c base d w' := h.grown (grown_of_below hb none) (fun j hj => by cases hj)
theorem Nw.mono {c : Ct} {base base' : Nat} {d : Dk} {w : World} (h : Nw c base d w) (hb : base' ≤ base) : Nw c base' d w :=
  ⟨h.ok, h.cc, h.fb.mono hb, h.fw.mono hb, fun s hs => (h.ob s hs).mono hb, fun x hx => (h.ow x hx).mono hb⟩

/-- The error of a disk, and of something that has to be so. -/
def errG (c : Ct) (is : Bool) : Int := if c.May then (if is = true then 0 else 2) else 8
theorem errG_ok {c : Ct} (h : c.May) : errG c true = 0 := by simp [errG, h]
theorem errG_arg {c : Ct} (h : c.May) : errG c false = 2 := by simp [errG, h]
theorem errG_bad {c : Ct} (h : ¬ c.May) (is : Bool) : errG c is = 8 := by simp [errG, h]
def GdP (R : Dk → World → Prop) (row : Option Nat) (E : Int) (w : World) (e : Ending) (w' : World) : Prop :=
  ∃ d' : Dk, e = .returned (.tuple #[.agg #[.slice d'.A d'.nB d'.cB, .slice d'.W d'.nW d'.cW], .int .i64 E]) ∧ (E = 0 → R d' w') ∧ (E ≠ 0 → d' = Dk.nil) ∧ w.grownBy w' row
def DoP (R : Dk → World → Prop) (row : Option Nat) (W : World) (e : Ending) (w' : World) : Prop :=
  ∃ d' : Dk, e = .returned (.agg #[.slice d'.A d'.nB d'.cB, .slice d'.W d'.nW d'.cW]) ∧ R d' w' ∧ W.grownBy w' row
set_option maxHeartbeats 2000000 in
theorem d_guarded (d : Dk) (w : World) (hd : d.ok w) (hB6 : (d.nB : Int) ≤ 1000000) (hW6 : (d.nW : Int) ≤ 1000000) (is : Bool) (g : Nat) (lb : Array Value) (eg : ∀ args w, (callFunc g args).run Try.prog w = .ok (.enter g args) w)
    (R : Dk → World → Prop) (row : Option Nat) (hrow : ∀ j, row = some j → j < w.heap.size) (E : Int) (hE : E = errG d.c is)
    (hdo : d.c.May → is = true → ∀ W, Below w.heap.size w W → w.heap.size + 2 ≤ W.heap.size → Calls Try.prog g lb W (DoP R row W))
    (hR : ∀ d' V V', R d' V → V.grownBy V' (some (w.heap.size + 1)) → R d' V') :
    Calls Try.prog 34 #[d.v, .bool is, .func (.func g) #[] lb] w (GdP R row E w) := by
  by_cases hmay : d.c.May
  · have hchk := fun W h => d_check d W h 0 (by rw [if_pos hmay]) hB6 hW6
    have hx0 := DkBox.new w (.slice d.A d.nB d.cB) (.slice d.W d.nW d.cW)
    have hxA := hx0.alloc (.cells #[.slice none 0 0, .slice none 0 0] 25)
    have hxB := DkBox.new (w.alloc (.cells #[.slice d.A d.nB d.cB, .slice d.W d.nW d.cW] 25)) (.slice none 0 0) (.slice none 0 0)
    rw [World.size_alloc] at hxB
    have hb2 := (below_new' w (.cells #[.slice d.A d.nB d.cB, .slice d.W d.nW d.cW] 25)).alloc (by simp) (.cells #[.slice none 0 0, .slice none 0 0] 25)
    have HCHK := Lib.hid (hchk _ (hd.below hb2))
    have HXB := Lib.hid hxB
    have HB2 := Lib.hid hb2
    have HR := Lib.hid hR
    have HROW := Lib.hid hrow
    obtain ⟨c0, c1⟩ := hxA.cells
    cases is with
    | true =>
      obtain rfl : E = 0 := hE.trans (errG_ok hmay)
      have HHDO := Lib.hid (hdo hmay rfl)
      clear hchk hx0 hxA hxB hb2 hd hdo hR hrow hE hmay
      simp only [Dk.v] at *
      go_enter Try.func34, Try.ntmps34
      go_wp2_with fail
      refine HCHK.out.mono ?_
      rintro e w1 ⟨rfl, hb1⟩
      have HX1 := Lib.hid (HXB.out.below hb1 HXB.out.lt)
      have hbw1 := below_to HB2.out hb1 HB2.out.size
      have hsz1 : w.heap.size + 2 ≤ w1.heap.size := by have := hb1.size; simp at this; omega
      have HC := Lib.hid (HHDO.out w1 hbw1 hsz1)
      have HB1 := Lib.hid hbw1
      have HSZ1 := Lib.hid hsz1
      clear hb1 hbw1 hsz1 HHDO HCHK HXB c0 c1
      go_wp2_with fail
      refine HC.out.mono ?_
      rintro e w2 ⟨d', rfl, hr2, hg2⟩
      have HX2 := Lib.hid (HX1.out.grown hg2 (fun e => by have := HROW.out _ e.symm; omega))
      obtain ⟨x0, x1⟩ := HX2.out.cells
      have xf := HX2.out.frozen
      have hr3 := HR.out _ _ _ (HR.out _ _ _ hr2 (grown_setCell w2 ⟨w.heap.size + 1, 0, none⟩ (.slice d'.A d'.nB d'.cB))) (grown_setCell _ ⟨w.heap.size + 1, 1, none⟩ (.slice d'.W d'.nW d'.cW))
      have hg3 := (((grown_of_below HB1.out row).andThen hg2 (fun j hj => .inr hj)).andThen (grown_setCell w2 ⟨w.heap.size + 1, 0, none⟩ (.slice d'.A d'.nB d'.cB)) (fun j hj => by cases hj; exact .inl (Nat.le_succ _))).andThen (grown_setCell _ ⟨w.heap.size + 1, 1, none⟩ (.slice d'.W d'.nW d'.cW)) (fun j hj => by cases hj; exact .inl (Nat.le_succ _))
      have HR3 := Lib.hid hr3
      have HG3 := Lib.hid hg3
      clear hr2 hg2 hr3 hg3 HC
      go_wp2
      refine bodyPost_ret (v := .tuple #[.agg #[.slice d'.A d'.nB d'.cB, .slice d'.W d'.nW d'.cW], .int .i64 0]) (by simp [results, Try.results34, go_sem, x0, x1]) rfl ?_
      exact ⟨d', rfl, fun _ => HR3.out, fun h => absurd rfl h, HG3.out⟩
    | false =>
      obtain rfl : E = 2 := hE.trans (errG_arg hmay)
      clear hchk hx0 hxA hxB hb2 hd hdo hR hrow hE hmay
      simp only [Dk.v] at *
      go_enter Try.func34, Try.ntmps34
      go_wp2_with fail
      refine HCHK.out.mono ?_
      rintro e w1 ⟨rfl, hb1⟩
      have HX1 := Lib.hid (HXB.out.below hb1 HXB.out.lt)
      obtain ⟨x0, x1⟩ := HX1.out.cells
      have xf := HX1.out.frozen
      have hbw1 := below_to HB2.out hb1 HB2.out.size
      have HB1 := Lib.hid hbw1
      clear hb1 hbw1 HCHK HXB c0 c1
      go_wp2
      refine bodyPost_ret (v := .tuple #[.agg #[.slice none 0 0, .slice none 0 0], .int .i64 2]) (by simp [results, Try.results34, go_sem, x0, x1]) rfl ?_
      exact ⟨Dk.nil, rfl, fun h => absurd h (by decide), fun _ => rfl, grown_of_below ((HB1.out.setCell (p := ⟨w.heap.size + 1, 0, none⟩) (Nat.le_succ _) _).setCell (p := ⟨w.heap.size + 1, 1, none⟩) (Nat.le_succ _) _) row⟩
  · have hchk := fun W h => d_check d W h 8 (by rw [if_neg hmay]) hB6 hW6
    obtain rfl : E = 8 := hE.trans (errG_bad hmay is)
    have hx0 := DkBox.new w (.slice d.A d.nB d.cB) (.slice d.W d.nW d.cW)
    have hxA := hx0.alloc (.cells #[.slice none 0 0, .slice none 0 0] 25)
    have hxB := DkBox.new (w.alloc (.cells #[.slice d.A d.nB d.cB, .slice d.W d.nW d.cW] 25)) (.slice none 0 0) (.slice none 0 0)
    rw [World.size_alloc] at hxB
    have hb2 := (below_new' w (.cells #[.slice d.A d.nB d.cB, .slice d.W d.nW d.cW] 25)).alloc (by simp) (.cells #[.slice none 0 0, .slice none 0 0] 25)
    have HCHK := Lib.hid (hchk _ (hd.below hb2))
    have HXB := Lib.hid hxB
    have HB2 := Lib.hid hb2
    obtain ⟨c0, c1⟩ := hxA.cells
    clear hchk hx0 hxA hxB hb2 hd hdo hR hrow hE hmay
    simp only [Dk.v] at *
    go_enter Try.func34, Try.ntmps34
    go_wp2_with fail
    refine HCHK.out.mono ?_
    rintro e w1 ⟨rfl, hb1⟩
    have HX1 := Lib.hid (HXB.out.below hb1 HXB.out.lt)
    obtain ⟨x0, x1⟩ := HX1.out.cells
    have xf := HX1.out.frozen
    have hbw1 := below_to HB2.out hb1 HB2.out.size
    have HB1 := Lib.hid hbw1
    clear hb1 hbw1 HCHK HXB c0 c1
    go_wp2
    refine bodyPost_ret (v := .tuple #[.agg #[.slice none 0 0, .slice none 0 0], .int .i64 8]) (by simp [results, Try.results34, go_sem, x0, x1]) rfl ?_
    exact ⟨Dk.nil, rfl, fun h => absurd h (by decide), fun _ => rfl, grown_of_below ((HB1.out.setCell (p := ⟨w.heap.size + 1, 0, none⟩) (Nat.le_succ _) _).setCell (p := ⟨w.heap.size + 1, 1, none⟩) (Nat.le_succ _) _) row⟩
end Go.Proofs.Ytkaklppkmokffaa
