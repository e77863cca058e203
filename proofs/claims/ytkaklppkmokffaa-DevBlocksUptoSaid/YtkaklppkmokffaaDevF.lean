/-
  Contract of dev.Twin.
-/
import Derived.Test.YtkaklppkmokffaaDevE
namespace Go.Proofs.Ytkaklppkmokffaa
open Go.RowKit
set_option linter.unusedVariables false
set_option linter.unusedSimpArgs false
set_option maxRecDepth 100000

theorem grown_of_below {w w' : World} (h : Below w.heap.size w w') (row : Option Nat) : w.grownBy w' row := ⟨h.os, h.tape, h.output, h.size, fun k hk _ => h.block k hk⟩
theorem grown_self (w : World) (row : Option Nat) : w.grownBy w row := ⟨rfl, rfl, rfl, Nat.le_refl _, fun _ _ _ => rfl⟩
theorem grown_setCell (w : World) (p : Addr) (u : Value) : w.grownBy (w.setCell p u) (some p.block) := ⟨rfl, rfl, rfl, by simp [World.setCell], fun k _ hk => Below.heap_setCell _ _ _ _ (fun e => hk (by rw [e]))⟩
theorem grown_drew {a b : World} {row : Option Nat} (h : a.grownBy b row) : a.grownBy b.drew row := ⟨h.os, h.tape, h.output, h.size, h.block⟩
theorem grown_then {a b c : World} {row row' : Option Nat} (h : a.grownBy b row) (k : b.grownBy c row') (hr : ∀ j, row' = some j → a.heap.size ≤ j ∨ row = some j) : a.grownBy c row := h.andThen k hr
theorem grown_below {a w : World} {row : Option Nat} (h : a.grownBy w row) {B : Nat} (hB : B ≤ a.heap.size) (hr : ∀ j, row = some j → B ≤ j) : Below B a w := (Below.refl B a).grown h hB hr
section
variable {w w' : World} {g : Nat} {X Y : Value}
theorem heap_set2 {w : World} {g : Nat} {X Y : Value} {t : TypeId} (h : w.heap[g]? = some (.cells #[X, Y] t (0, 0))) (i : Nat) (U : Value) : (w.setCell ⟨g, i, none⟩ U).heap[g]? = some (.cells (#[X, Y].setIfInBounds i U) t (0, 0)) := by
  rw [setCell_eq_setRow w g i _ t (0, 0) U h]
  exact setRow_heap w g _ _ t _ h
theorem DkBox.put0 (h : DkBox w g X Y) (U : Value) : DkBox (w.setCell ⟨g, 0, none⟩ U) g U Y := by have := heap_set2 h 0 U; simpa [DkBox] using this
theorem DkBox.put1 (h : DkBox w g X Y) (U : Value) : DkBox (w.setCell ⟨g, 1, none⟩ U) g X U := by have := heap_set2 h 1 U; simpa [DkBox] using this
theorem DkBox.set (h : DkBox w g X Y) (p : Addr) (hp : p.block ≠ g) (U : Value) : DkBox (w.setCell p U) g X Y := (Below.heap_setCell _ _ _ _ (fun e => hp e.symm)).trans h
end
theorem Own.grown {w w' : World} {base : Nat} {s : Sl} {row : Option Nat} (h : Own w base s) (hg : w.grownBy w' row) (hr : ∀ j, row = some j → j < base) : Own w' base s := by
  intro hn
  obtain ⟨g, off, cur, fz, h1, h2, h3, h4⟩ := h hn
  exact ⟨g, off, cur, fz, h1, h2, (hg.block g (Array.getElem?_eq_some_iff.1 h3).1 (fun e => by have := hr _ e.symm; omega)).trans h3, h4⟩
/-- What was read, and was not in the row that turned. -/
theorem Sl.came.grown {s : Sl} {w w' : World} {row : Option Nat} (h : s.came w) (hg : w.grownBy w' row) (hr : 0 < s.n → ∀ a, s.A = some a → some a.block ≠ row) : s.came w' := by
  refine ⟨h.1, ?_, h.2.2⟩
  rcases Nat.eq_zero_or_pos s.n with h0 | h0
  · exact ⟨h.2.1.1, fun hn => by omega⟩
  · exact (h.2.1.grown_ne hg (Nat.le_refl _) (hr h0)).more hg.size
theorem Own.block {w : World} {base : Nat} {s : Sl} (h : Own w base s) (hn : 0 < s.n) {a : Addr} (ha : s.A = some a) : base ≤ a.block := by
  obtain ⟨g, off, cur, fz, h1, h2, _⟩ := h hn
  rw [h1] at ha
  cases ha
  exact h2

/-- Stands where the operation is a copy, and only there (to be tried under with_reducible). -/
theorem at_copy {P : Program} {w : World} {ops : Array Oper} {rest : List Oper} {a : Act} {Q : Exit → Act → World → Prop} {dst : Option Nat} {args : Array Operand} {ats : Array TypeId} {ty : TypeId} {pos : String} {after : Array Edge} {gd : Option (Nat × Bool)}
    (h : wpList P ops Q (⟨dst, .call { callee := .builtin .copy, args := args, argTypes := ats }, ty, pos, after, gd⟩ :: rest) a w) : wpList P ops Q (⟨dst, .call { callee := .builtin .copy, args := args, argTypes := ats }, ty, pos, after, gd⟩ :: rest) a w := h
/-- A byte slice of the call's own, where another row turns. -/
theorem own_came {s : Sl} {base : Nat} {w w' : World} {row : Option Nat} (h : s.came w) (o : Own w base s) (hg : w.grownBy w' row) (hr : ∀ j, row = some j → j < base ∨ ∃ cur fz e, w.heap[j]? = some (.cells cur e fz) ∧ e ≠ 5) : s.came w' ∧ Own w' base s := by
  have hne : 0 < s.n → ∀ a, s.A = some a → some a.block ≠ row := by
    intro hn a ha e
    obtain ⟨g, off, cur, fz, h1, h2, h3, h4⟩ := o hn
    rw [h1] at ha
    cases ha
    rcases hr g e.symm with hlt | ⟨cur', fz', e', hh, hne⟩
    · omega
    · rw [h3] at hh
      cases hh
      exact hne rfl
  refine ⟨h.grown hg hne, fun hn => ?_⟩
  obtain ⟨g, off, cur, fz, h1, h2, h3, h4⟩ := o hn
  exact ⟨g, off, cur, fz, h1, h2, (hg.block g (Array.getElem?_eq_some_iff.1 h3).1 (hne hn _ h1)).trans h3, h4⟩
/-- Writes whose bytes are the call's own. -/
def Us (us : List Wt) (B : Nat) (w : World) : Prop := ∀ x ∈ us, x.s.came w ∧ I64 x.a ∧ Own w B x.s
theorem Us.nil (B : Nat) (w : World) : Us [] B w := fun x hx => by cases hx
theorem Us.grown {us : List Wt} {B : Nat} {w w' : World} {row : Option Nat} (h : Us us B w) (hg : w.grownBy w' row) (hr : ∀ j, row = some j → j < B ∨ ∃ cur fz e, w.heap[j]? = some (.cells cur e fz) ∧ e ≠ 5) : Us us B w' :=
  fun x hx => ⟨(own_came (h x hx).1 (h x hx).2.2 hg hr).1, (h x hx).2.1, (own_came (h x hx).1 (h x hx).2.2 hg hr).2⟩
theorem Us.below {us : List Wt} {B : Nat} {w w' : World} (h : Us us B w) (hb : Below w.heap.size w w') : Us us B w' := h.grown (grown_of_below hb none) (fun j hj => by cases hj)
theorem Us.snoc {us : List Wt} {B : Nat} {w : World} (h : Us us B w) {x : Wt} (hx : x.s.came w ∧ I64 x.a ∧ Own w B x.s) : Us (us ++ [x]) B w := by
  intro y hy
  rcases List.mem_append.1 hy with h1 | h1
  · exact h y h1
  · obtain rfl : y = x := by simpa using h1
    exact hx
theorem Fr.other {w : World} {base sz n c : Nat} {e e' : TypeId} {A : Option Addr} {xs : List Value} (h : Fr w base e sz A n c xs) (hne : e ≠ e') : ∀ j, rowOf A c = some j → ∃ cur fz e0, w.heap[j]? = some (.cells cur e0 fz) ∧ e0 ≠ e' := by
  intro j hj
  obtain ⟨cur, fz, hh⟩ := h.cells_ j hj
  exact ⟨cur, fz, e, hh, hne⟩
theorem wpList_copy_to {P : Program} {w : World} {ops : Array Oper} {rest : List Oper} {o : Oper} {a : Act} {Q : Exit → Act → World → Prop} (hgd : o.guard = none) (d s : Operand) (dT sT : TypeId)
    (ho : o.op = .call { callee := .builtin .copy, args := #[d, s], argTypes := #[dT, sT] }) (elem : TypeId) (hu : P.underlying dT = some (.slice elem)) (hsz : (P.info? elem).map (·.size) = some 1)
    (dp sp : Option Addr) (dLen dCap sLen sCap : Nat) (hd : a.eval d = .slice dp dLen dCap) (hs : a.eval s = .slice sp sLen sCap)
    (g off : Nat) (cur : List Value) (t : TypeId) (hg : w.heap[g]? = some (.cells cur.toArray t (0, 0))) (cs : List Value) (hn : cs.length = Nat.min sLen dLen)
    (hpos : 0 < cs.length → dp = some ⟨g, off, none⟩ ∧ ∃ ad, sp = some ad ∧ ∀ j v, cs[j]? = some v → w.cell? (ad.add j) = some v)
    (hfit : off + cs.length ≤ cur.length) (h1 : ∀ v ∈ cs, v.oneCell' = true)
    (h : ∀ w', Hid (w'.heap[g]? = some (.cells (splice cur off cs).toArray t (0, 0))) → w.grownBy w' (some g) → w'.heap.size = w.heap.size → wpList P ops Q rest (a.put o.dst (goInt cs.length)) w') :
    wpList P ops Q (o :: rest) a w := by
  by_cases h0 : cs.length = 0
  · obtain rfl : cs = [] := List.eq_nil_of_length_eq_zero h0
    refine wpList_copy_nothing hgd d s dT sT ho elem hu hsz dp sp dLen dCap sLen sCap hd hs (by simpa using hn.symm) ?_
    exact h w (show _ = _ by simpa [splice] using hg) (grown_self _ _) rfl
  · obtain ⟨rfl, ad, rfl, hsrc⟩ := hpos (by omega)
    refine wpList_copy_own hgd d s dT sT ho elem hu hsz g off dLen dCap ad sLen sCap hd hs cur.toArray t hg cs hn hsrc (by simpa using hfit) h1 ?_
    exact h _ (show _ = _ by simpa [splice] using setRow_heap w g _ _ t _ hg) ⟨rfl, rfl, rfl, by simp [World.setRow], fun k _ hk => setRow_other w g k _ (fun e => hk (by rw [e]))⟩ (by simp [World.setRow])

theorem lensV_len (ls : List (List UInt8)) : (lensV ls).length = ls.length := by simp [lensV]
theorem lensV_one (ls : List (List UInt8)) : ∀ u ∈ lensV ls, u.oneCell' = true := by
  intro u hu
  obtain ⟨s, _, rfl⟩ := List.mem_map.1 hu
  rfl
theorem lensV_step {ls : List (List UInt8)} {k : Nat} (h : k < ls.length) : lensV (ls.take k) ++ [.int .i64 ((ls[k]).length : Int)] = lensV (ls.take (k + 1)) := by
  rw [List.take_succ_eq_append_getElem h]
  simp only [lensV, List.map_append, List.map_cons, List.map_nil]
theorem partL_vlen (ls : List (List UInt8)) (k : Nat) : (bvs (partL ls k)).length = ls.flatten.length := by rw [bvs_len, partL_len]
theorem infoB : (Try.prog.info? 5).map (·.size) = some 1 := rfl

/-- A disk in memory of the call's own, its blocks one behind the other. -/
structure Tw (c : Ct) (base : Nat) (d : Dk) (w : World) : Prop where
  ok : d.ok w
  cc : d.c = c
  fb : Fr w base 41 1 d.A d.nB d.cB (d.bs.map Sl.v)
  fw : Fr w base 54 2 d.W d.nW d.cW (wcs d.ws)
  ob : ∀ s ∈ d.bs, Own w base s
  ow : ∀ x ∈ d.ws, Own w base x.s
  la : ∃ g, base ≤ g ∧ Laid g c.b d.nB d.bs ∧ w.heap[g]? = some (.cells (bvs c.b.flatten).toArray 5 (0, 0)) ∧ ∀ x ∈ d.ws, 0 < x.s.n → ∀ a, x.s.A = some a → a.block ≠ g
theorem Tw.below {c : Ct} {base : Nat} {d : Dk} {w w' : World} (h : Tw c base d w) (hb : Below w.heap.size w w') : Tw c base d w' := by
  obtain ⟨h1, h2, h3, h4, h5, h6, g, hg, hl, hh, ha⟩ := h
  exact ⟨h1.below hb, h2, h3.below hb (Nat.le_refl _), h4.below hb (Nat.le_refl _), fun s hs => (h5 s hs).below hb, fun x hx => (h6 x hx).below hb, g, hg, hl, (hb.block g (Array.getElem?_eq_some_iff.1 hh).1).trans hh, ha⟩
theorem Tw.mono {c : Ct} {base base' : Nat} {d : Dk} {w : World} (h : Tw c base d w) (hb : base' ≤ base) : Tw c base' d w := by
  obtain ⟨h1, h2, h3, h4, h5, h6, g, hg, hl, hh, ha⟩ := h
  exact ⟨h1, h2, h3.mono hb, h4.mono hb, fun s hs => (h5 s hs).mono hb, fun x hx => (h6 x hx).mono hb, g, Nat.le_trans hb hg, hl, hh, ha⟩
def TwP (c : Ct) (w : World) (e : Ending) (w' : World) : Prop := ∃ d' : Dk, e = .returned d'.v ∧ Tw c w.heap.size d' w' ∧ Below w.heap.size w w'

def TwR1 (ls : List (List UInt8)) (B : Nat) (w2 : World) (o x : Value) (wr : World) : Prop :=
  ∃ (k : Nat) (D : Option Addr) (d : Nat), k ≤ ls.length ∧ x = .int .i64 (k : Int) ∧ o = .slice D k d ∧ Fr wr B 3 1 D k d (lensV (ls.take k)) ∧ Below B w2 wr
def TwR2 (ls : List (List UInt8)) (ps : List Sl) (g G : Nat) (X Y : Value) (Dp : Option Addr) (n dp : Nat) (w : World) (x : Value) (wr : World) : Prop :=
  ∃ k : Nat, k ≤ ls.length ∧ x = .int .i64 (k : Int) ∧ wr.heap[g]? = some (.cells (bvs (partL ls k)).toArray 5 (0, 0)) ∧ DkBox wr G X Y ∧ DkBox wr (G + 1) (.slice Dp n dp) (.slice none 0 0) ∧ Fr wr (g + 1) 41 1 Dp n dp (ps.map Sl.v) ∧ Below w.heap.size w wr
def TwR3 (ws : List Wt) (G B3 : Nat) (P : Value) (v2 : World) (x : Value) (wr : World) : Prop :=
  ∃ (k : Nat) (D : Option Addr) (d : Nat) (us : List Wt), k ≤ ws.length ∧ x = .int .i64 (k : Int) ∧ DkBox wr G P (.slice D k d) ∧ Fr wr B3 54 2 D k d (wcs us) ∧ us.length = k ∧ us.map Wt.c = (ws.take k).map Wt.c ∧ Us us B3 wr ∧ v2.grownBy wr (some G)
set_option maxHeartbeats 4000000 in
theorem d_twin (d : Dk) (w : World) (hd : d.ok w) (hB6 : (d.nB : Int) ≤ 1000000) (hW6 : (d.nW : Int) ≤ 1000000) (htot : (d.c.b.flatten.length : Int) ≤ 1000000000) (hws : ∀ x ∈ d.ws, (x.s.n : Int) ≤ 1000000000) :
    Calls Try.prog 28 #[d.v] w (TwP d.c w) := by
  have HD := Lib.hid hd
  have hlw := hd.lw
  have hlb := hd.lb
  have HWS := Lib.hid hws
  clear hd hws
  obtain ⟨ls, hls⟩ : ∃ ls, ls = d.c.b := ⟨_, rfl⟩
  have hll : ls.length = d.nB := by rw [hls, Dk.c_b, List.length_map, hlb]
  have hlsb : ls = d.bs.map Sl.l := by rw [hls]; rfl
  rw [← hls] at htot
  obtain ⟨c0, hc0⟩ : ∃ c0, c0 = d.c := ⟨_, rfl⟩
  rw [← hc0]
  have HC0 := Lib.hid hc0
  have HLS := Lib.hid hls
  have HLB := Lib.hid hlsb
  clear hls hc0 hlsb
  obtain ⟨A, nB, cB, bs, W, nW, cW, ws⟩ := d
  simp only [Dk.v] at *
  have hxA := (DkBox.new w (.slice A nB cB) (.slice W nW cW)).alloc (.cells #[.slice none 0 0, .slice none 0 0] 25)
  have hxB := DkBox.new (w.alloc (.cells #[.slice A nB cB, .slice W nW cW] 25)) (.slice none 0 0) (.slice none 0 0)
  rw [World.size_alloc] at hxB
  have hb2 := (below_new' w (.cells #[.slice A nB cB, .slice W nW cW] 25)).alloc (by simp) (.cells #[.slice none 0 0, .slice none 0 0] 25)
  have hsz2 : ((w.alloc (.cells #[.slice A nB cB, .slice W nW cW] 25)).alloc (.cells #[.slice none 0 0, .slice none 0 0] 25)).heap.size = w.heap.size + 2 := by simp
  obtain ⟨c0, c1⟩ := hxA.cells
  have HXA := Lib.hid hxA
  have HXB := Lib.hid hxB
  have HB2 := Lib.hid hb2
  have HSZ2 := Lib.hid hsz2
  clear hxA hxB hb2 hsz2
  go_enter Try.func28, Try.ntmps28
  go_wp2
  clear c0 c1
  generalize (w.alloc (.cells #[.slice A nB cB, .slice W nW cW] 25)).alloc (.cells #[.slice none 0 0, .slice none 0 0] 25) = w2 at *
  go_loopw [3, 13] (fun o x wr => TwR1 ls w2.heap.size w2 o x wr) (fun _ x _ => nB - (intOf x).toNat)
  case atStart => exact ⟨0, none, 0, Nat.zero_le _, rfl, rfl, Fr.none_, Below.refl _ _⟩
  case round =>
    obtain ⟨k, D, dd, hk, rfl, rfl, hf, hb⟩ := hrel
    by_cases hlt : k < nB
    · obtain ⟨b, off, rfl, hbb, hc⟩ := (HD.out.rb.belowH (below_to HB2.out (hb.mono HB2.out.size) (Nat.le_refl _)) (Nat.le_refl _)).atS hlt hlb
      have hkl : k < ls.length := by omega
      have hkb : k < bs.length := by rw [hlb]; exact hlt
      have hnl : ((ls[k]).length : Int) = (bs[k].n : Int) := by
        have h1 := (HD.out.sb _ (List.getElem_mem hkb)).1
        have h2 : ls[k] = bs[k].l := by
          have := HLB.out
          subst this
          simp
        rw [h2]
        exact congrArg Int.ofNat h1
      have hst := lensV_step hkl
      rw [hnl] at hst
      have HST := Lib.hid hst
      have HF := Lib.hid hf
      have HB := Lib.hid hb
      have h0 : ¬ ((k : Int) < 0) := by omega
      have h1 : (k : Int) < (nB : Int) := by omega
      clear hst hf hb hnl
      generalize bs[k] = p at *
      go_wp2_with (at_builtin; go_loud (refine wpList_append_to rfl (.tmp 17) (.tmp 20) rfl okI rfl (HF.out.alloc _) rfl (Rd.made wr 3 1 1 [.int .i64 (p.n : Int)] rfl) (ones1 rfl) (k + 1) rfl (lensV (ls.take (k + 1))) HST.out (by unfold maxLen; omega) (by omega) (by have := HB.out.size; simp; omega) ?_; intro D2 d2 w3 f2 g2 _))
      have HB3 := Lib.hid ((below_alloc HB.out (.cells #[.int .i64 (p.n : Int)] 3) HB.out.size).grown g2 (by have := HB.out.size; simp; omega) (fun q hq => (HF.out.row q hq).1))
      have HF3 := Lib.hid f2
      clear f2 g2
      go_roundw
      case rel => exact ⟨k + 1, _, _, by omega, rfl, rfl, HF3.out, HB3.out⟩
      case measure => simp [intOf]; omega
    · obtain rfl : nB = k := by omega
      have hft : ls.take nB = ls := List.take_of_length_le (by omega)
      rw [hft] at hf
      clear hft
      have hr := hf.rd
      have HR := Lib.hid hr
      have HB := Lib.hid hb
      have hcut := d_cut D nB dd ls wr hll hr (by omega) htot
      have HCUT := Lib.hid hcut
      clear hr hf hb hcut
      go_wp2_with fail
      refine HCUT.out.mono ?_
      rintro e w4 ⟨Dp, dp, ps, rfl, hla, hfp, hrow, hb4⟩
      have hxA4 := ((HXA.out.below HB.out (by rw [HSZ2.out]; omega)).below hb4 (by have := HB.out.size; have := HSZ2.out; omega))
      have hxB4 := ((HXB.out.below HB.out (by rw [HSZ2.out]; omega)).below hb4 (by have := HB.out.size; have := HSZ2.out; omega))
      obtain ⟨x0, x1⟩ := hxB4.cells
      have xf := hxB4.frozen
      have hxA5 := hxA4.set ⟨w.heap.size + 1, 0, none⟩ (by simp) (.slice Dp nB dp)
      have hxB5 := hxB4.put0 (.slice Dp nB dp)
      obtain ⟨g, hg⟩ : ∃ g, g = wr.heap.size := ⟨_, rfl⟩
      rw [← hg] at hla hfp hrow hb4
      have hgG : w.heap.size + 2 ≤ g := by have := HB.out.size; have := HSZ2.out; omega
      have hfp5 := hfp.setCell (p := ⟨w.heap.size + 1, 0, none⟩) (fun e => by have := (hfp.row _ e).1; simp at this; omega) (.slice Dp nB dp)
      have hrow5 : (w4.setCell ⟨w.heap.size + 1, 0, none⟩ (.slice Dp nB dp)).heap[g]? = some (.cells (bvs (partL ls 0)).toArray 5 (0, 0)) := by
        rw [partL_zero]
        exact (Below.heap_setCell _ _ _ _ (by simp; omega)).trans hrow
      have hb5 : Below w.heap.size w (w4.setCell ⟨w.heap.size + 1, 0, none⟩ (.slice Dp nB dp)) :=
        (below_to HB2.out (below_to HB.out (hb4.mono (by have := HB.out.size; omega)) (Nat.le_refl _)) (by have := HSZ2.out; omega)).setCell (by simp) _
      have HLA := Lib.hid hla
      have HFP5 := Lib.hid hfp5
      have HROW5 := Lib.hid hrow5
      have HXA5 := Lib.hid hxA5
      have HXB5 := Lib.hid hxB5
      have HB5 := Lib.hid hb5
      obtain ⟨y0, y1⟩ := hxA4.cells
      clear hla hfp hrow hb4 hxA4 hxB4 hxA5 hxB5 hfp5 hrow5 hb5 hg HCUT HR HXA HXB
      go_wp2
      go_loopw [29] (fun x wr => TwR2 ls ps g w.heap.size (.slice A nB cB) (.slice W nW cW) Dp nB dp w x wr) (fun x _ => nB - (intOf x).toNat)
      case atStart => exact ⟨0, Nat.zero_le _, rfl, HROW5.out, HXA5.out, HXB5.out, HFP5.out, HB5.out⟩
      case round =>
        clear y0 y1 x0 x1 xf
        obtain ⟨j, hj, rfl, hrow, hxa, hxb, hfp, hb⟩ := hrel
        by_cases hlt' : j < nB
        · obtain ⟨b, off, rfl, hbb, hc⟩ := (HD.out.rb.below hb).atS hlt' hlb
          have hlp := HLA.out.1
          have hjp : j < ps.length := by omega
          have hjl : j < ls.length := by omega
          have hjb : j < bs.length := by omega
          obtain ⟨b2, off2, rfl, hbb2, hc2⟩ := hfp.rd.atS hlt' hlp
          obtain ⟨hpn, hpc, hpl, hpA⟩ := HLA.out.2 j hjl ps[j] (List.getElem?_eq_getElem hjp)
          have hsl : bs[j].l = ls[j] := by
            have := HLB.out
            subst this
            simp
          have hsc := (HD.out.sb _ (List.getElem_mem hjb)).below hb
          have hstep := partL_step hjl
          have hmore := offL_more hjl
          rw [← partL_vlen ls j] at hmore
          obtain ⟨hsn, hsr, -, -⟩ := hsc
          rw [hsl] at hsn hsr
          have HSTEP := Lib.hid hstep
          have HPA := Lib.hid hpA
          have HSR := Lib.hid hsr
          have HXA := Lib.hid hxa
          have HXB := Lib.hid hxb
          have HFP := Lib.hid hfp
          have HB := Lib.hid hb
          have HROW := Lib.hid hrow
          have HMORE := Lib.hid hmore
          have HPN := Lib.hid hpn
          have HSN := Lib.hid hsn
          obtain ⟨y0, y1⟩ := hxa.cells
          obtain ⟨x0, x1⟩ := hxb.cells
          have h0 : ¬ ((j : Int) < 0) := by omega
          have h1 : (j : Int) < (nB : Int) := by omega
          clear hstep hpA hsr hxa hxb hfp hb hrow hmore hpn hpc hpl hsl hsn
          generalize ps[j] = p at *
          generalize bs[j] = s at *
          generalize ls[j] = L at *
          have hc1 : (bvs L).length = Nat.min s.n p.n := by rw [bvs_len, HPN.out, ← HSN.out]; exact (Nat.min_self _).symm
          have hc2 : 0 < (bvs L).length → p.A = some ⟨g, offL ls j, none⟩ ∧ ∃ ad, s.A = some ad ∧ ∀ i v, (bvs L)[i]? = some v → wr.cell? (ad.add i) = some v := fun h => by
            rw [bvs_len] at h
            obtain ⟨b3, o3, e3, _, hc3⟩ := HSR.out.2 (by have := HSN.out; omega)
            exact ⟨HPA.out (by rw [HPN.out]; exact h), _, e3, fun i v hv => by rw [add_lit]; exact hc3 i v hv⟩
          have HC1 := Lib.hid hc1
          have HC2 := Lib.hid hc2
          have hc3 : offL ls j + (bvs L).length ≤ (bvs (partL ls j)).length := by rw [bvs_len]; exact HMORE.out
          have HC3 := Lib.hid hc3
          clear hc1 hc2 hc3
          go_wp2_with ((with_reducible refine at_copy ?_); go_loud (refine wpList_copy_to rfl (.tmp 38) (.tmp 39) 41 41 rfl 5 Try.underlying41 infoB p.A s.A p.n p.c s.n s.c rfl rfl g (offL ls j) (bvs (partL ls j)) 5 HROW.out (bvs L) HC1.out HC2.out HC3.out (bvs_one _) ?_; intro w6 h6 g6 z6))
          have h6' : w6.heap[g]? = some (.cells (bvs (partL ls (j + 1))).toArray 5 (0, 0)) := by rw [← HSTEP.out]; exact h6.out
          have hf6 := HFP.out.kept g6 (.inr (fun e => by have := (HFP.out.row g e).1; omega))
          have hb6 := HB.out.grown g6 HB.out.size (by intro q hq; cases hq; omega)
          have ha6 := HXA.out.grown g6 (by simp; omega)
          have hx6 := HXB.out.grown g6 (by simp; omega)
          have H6 := Lib.hid h6'
          have HF6 := Lib.hid hf6
          have HB6 := Lib.hid hb6
          have HA6 := Lib.hid ha6
          have HX6 := Lib.hid hx6
          clear h6' hf6 hb6 ha6 hx6 h6 g6 z6
          go_roundw
          case rel => exact ⟨j + 1, by omega, by simp, H6.out, HA6.out, HX6.out, HF6.out, HB6.out⟩
          case measure => simp [intOf]; omega
        · obtain rfl : nB = j := by omega
          have hall : partL ls nB = ls.flatten := by rw [← hll]; exact partL_all ls
          rw [hall] at hrow
          obtain ⟨v2, rfl⟩ : ∃ v : World, v = wr := ⟨_, rfl⟩
          have hg2 := (Array.getElem?_eq_some_iff.1 hrow).1
          have HROW := Lib.hid hrow
          have HFP := Lib.hid hfp
          have HB := Lib.hid hb
          have HXB := Lib.hid hxb
          obtain ⟨y0, y1⟩ := hxa.cells
          clear hall hrow hfp hb hxb hxa HROW5 HFP5 HB5 HXA5 HXB5
          go_wp2
          go_loopw [45] (fun x wr => TwR3 ws (w.heap.size + 1) v2.heap.size (.slice Dp nB dp) v2 x wr) (fun x _ => nW - (intOf x).toNat)
          case atStart => exact ⟨0, none, 0, [], Nat.zero_le _, rfl, HXB.out, Fr.none_, rfl, rfl, Us.nil _ _, grown_self _ _⟩
          case round =>
            clear y0 y1
            obtain ⟨i, D3, d3, us, hi, rfl, hx3, hf3, hul, huc, hus, hg3⟩ := hrel
            by_cases hlt3 : i < nW
            · have hbr : Below w.heap.size w wr := HB.out.grown hg3 HB.out.size (by intro q hq; cases hq; omega)
              obtain ⟨b, off, rfl, hbb, c2, c3⟩ := (HD.out.rw_.below hbr).at2 hlt3 hlw
              have hiw : i < ws.length := by omega
              have hsw := HD.out.sw _ (List.getElem_mem hiw)
              have hpn := HWS.out _ (List.getElem_mem hiw)
              have hcc : us.map Wt.c ++ [Wt.c ws[i]] = (ws.take (i + 1)).map Wt.c := by
                rw [huc, List.take_succ_eq_append_getElem hiw, List.map_append]
                rfl
              have hps := hsw.1.below hbr
              have hi64 := hsw.2
              have HCC := Lib.hid hcc
              have HPS := Lib.hid hps
              have HI64 := Lib.hid hi64
              have HPN := Lib.hid hpn
              have HX3 := Lib.hid hx3
              have HF3 := Lib.hid hf3
              have HUS := Lib.hid hus
              have HG3 := Lib.hid hg3
              have HUL := Lib.hid hul
              have h0 : ¬ ((i : Int) < 0) := by omega
              have h1 : (i : Int) < (nW : Int) := by omega
              clear hsw hpn hcc hps hi64 hx3 hf3 huc hus hg3 hbr hul
              generalize ws[i] = p at *
              go_wp2
              have hwx := WtBox.new wr (.int .i64 p.a) (.slice p.s.A p.s.n p.s.c)
              obtain ⟨wb, hwb⟩ : ∃ W, W = wr.alloc (.cells #[.int .i64 p.a, .slice p.s.A p.s.n p.s.c] 54) := ⟨_, rfl⟩
              rw [← hwb] at hwx ⊢
              have hbw : Below wr.heap.size wr wb := by rw [hwb]; exact below_new' _ _
              have hsz : wb.heap.size = wr.heap.size + 1 := by rw [hwb]; simp
              clear hwb
              have hlt2 : w.heap.size + 1 < wr.heap.size := HX3.out.lt
              have hB3 : v2.heap.size ≤ wr.heap.size := HG3.out.size
              have hgG1 : w.heap.size + 1 < v2.heap.size := by omega
              have hX0 := HX3.out.below hbw hlt2
              have hF0 := HF3.out.below hbw (Nat.le_refl _)
              have hU0 := HUS.out.below hbw
              have hS0 := HPS.out.below hbw
              have hG0 := grown_drew (HG3.out.andThen (grown_of_below hbw none) (fun j hj => by cases hj))
              have HX := Lib.hid (show DkBox wb.drew _ _ _ from hX0)
              have HF := Lib.hid (show Fr wb.drew _ _ _ _ _ _ _ from hF0)
              have HU := Lib.hid (show Us us v2.heap.size wb.drew from hU0)
              have HS := Lib.hid (show p.s.came wb.drew from hS0)
              have HG := Lib.hid (show v2.grownBy wb.drew (some (w.heap.size + 1)) from hG0)
              clear hX0 hF0 hU0 hS0 hG0
              have HZ := Lib.hid (show wb.drew.heap.size = wr.heap.size + 1 from hsz)
              have HROWS := Lib.hid (show ∀ j, rowOf D3 d3 = some j → v2.heap.size ≤ j ∧ j < wr.heap.size from HF3.out.row)
              clear hbw hsz HX3 HF3 HUS HPS HG3
              refine wp_region_held_drew (S := fun V => WtBox V wr.heap.size (.int .i64 p.a) (.slice p.s.A p.s.n p.s.c)) (by kernel_rfl) (show WtBox wb.drew _ _ _ from hwx) (fun hS => ?_)
              refine wpAnyH_take (i := 0) (v := ?_) rfl (by kernel_rfl) (by kernel_rfl) (by kernel_rfl) (fun _ _ _ h => h) (Or.inl ⟨by rfl, ?hyq⟩) hS ?_
              case hyq =>
                intro w hw
                go_simp
                try (with_reducible rfl)
              refine wpAnyH_take (i := 2) (v := ?_) rfl (by kernel_rfl) (by kernel_rfl) (by kernel_rfl) (fun _ _ _ h => h) (Or.inl ⟨by rfl, ?hyq⟩) hS ?_
              case hyq =>
                intro w hw
                go_simp
                try (with_reducible rfl)
              refine wpAnyH_take (i := 3) (v := ?_) rfl (by kernel_rfl) (by kernel_rfl) (by kernel_rfl) (fun _ _ _ h => h) (Or.inl ⟨by rfl, ?hyq⟩) hS ?_
              case hyq =>
                intro w hw
                obtain ⟨k0, k1⟩ := hw.cells
                go_simp
                try (with_reducible rfl)
              refine wpAnyH_take (i := 4) (v := ?_) rfl (by kernel_rfl) (by kernel_rfl) (by kernel_rfl) (fun _ _ _ h => h) (Or.inl ⟨by rfl, ?hyq⟩) hS ?_
              case hyq =>
                intro w hw
                go_simp
                try (with_reducible rfl)
              refine wpAnyH_take (i := 5) (v := ?_) rfl (by kernel_rfl) (by kernel_rfl) (by kernel_rfl) (fun _ _ _ h => h) (Or.inl ⟨by rfl, ?hyq⟩) hS ?_
              case hyq =>
                intro w hw
                obtain ⟨k0, k1⟩ := hw.cells
                go_simp
                try (with_reducible rfl)
              refine wpAnyH_ready (rs := [1, 6]) (by kernel_rfl) (by simp) ?_
              refine all_consH rfl (fun K hK => ?_) ?_
              · skip
                refine Stp.mk ?_
                obtain ⟨m0, m1⟩ := HX.out.cells
                go_simp
                have hSn := hS
                clear m0 m1
                refine hK.out _ _ hSn (fun hS => ?_)
                clear hK K hSn
                refine wpAnyH_ready (rs := [6]) (by kernel_rfl) (by simp) ?_
                refine all_consH rfl (fun K hK => ?_) ?_
                · skip
                  refine Stp.mk ?_
                  go_simp
                  go_wp2_with fail
                  refine (b_clone p.s _ HS.out HPN.out).mono ?_
                  rintro e w3 ⟨s', rfl, hsl, hsn, hsc, hso, hb3⟩
                  have hSn := hS.below hb3 hS.lt
                  replace HX := Lib.hid (HX.out.below hb3 HX.out.lt)
                  replace HF := Lib.hid (HF.out.below hb3 (Nat.le_refl _))
                  replace HU := Lib.hid (HU.out.below hb3)
                  replace HG := Lib.hid (HG.out.andThen (grown_of_below hb3 none) (fun j hj => by cases hj))
                  have HN := Lib.hid (show s'.came w3 ∧ Own w3 v2.heap.size s' from ⟨hsc, hso.mono (by rw [HZ.out]; omega)⟩)
                  have HSL := Lib.hid hsl
                  have HZ3 := Lib.hid (show wr.heap.size + 1 ≤ w3.heap.size from by have := hb3.size; rw [HZ.out] at this; exact this)
                  clear hsl hsn hsc hso hb3
                  go_wp2
                  refine hK.out _ _ hSn (fun hS => ?_)
                  clear hK K hSn
                  refine wpAnyH_take (i := 7) (v := ?_) rfl (by kernel_rfl) (by kernel_rfl) (by kernel_rfl) (fun _ _ _ h => h) (Or.inl ⟨by rfl, ?hyq⟩) hS ?_
                  case hyq =>
                    intro w hw
                    go_simp
                    try (with_reducible rfl)
                  refine wpAnyH_ready (rs := [8]) (by kernel_rfl) (by simp) ?_
                  refine all_consH rfl (fun K hK => ?_) ?_
                  · skip
                    obtain ⟨b9, hb9⟩ : ∃ b, b = w3.heap.size := ⟨_, rfl⟩
                    obtain ⟨w4, hw4⟩ : ∃ W, W = w3.alloc (.cells #[.int .i64 p.a, .slice s'.A s'.n s'.c] 54) := ⟨_, rfl⟩
                    refine stp_run (v := .slice (some ⟨b9, 0, none⟩) 1 1) (w' := w4) rfl (by rw [hb9, hw4]; go_simp) ?_
                    have hr9 := Rd.made w3 54 2 1 [.int .i64 p.a, .slice s'.A s'.n s'.c] rfl
                    have hb4 := below_new' w3 (.cells #[.int .i64 p.a, .slice s'.A s'.n s'.c] 54)
                    rw [show ([.int .i64 p.a, .slice s'.A s'.n s'.c] : List Value).toArray = #[.int .i64 p.a, .slice s'.A s'.n s'.c] from rfl, ← hb9, ← hw4] at hr9
                    rw [← hw4] at hb4
                    have HR9 := Lib.hid (show Rd w4 (b9 + 1) 2 (some ⟨b9, 0, none⟩) 1 (wcs [⟨p.a, s'⟩]) from hr9)
                    have hSn := hS.below hb4 hS.lt
                    replace HX := Lib.hid (HX.out.below hb4 HX.out.lt)
                    replace HF := Lib.hid (HF.out.below hb4 (Nat.le_refl _))
                    replace HU := Lib.hid (HU.out.below hb4)
                    replace HG := Lib.hid (HG.out.andThen (grown_of_below hb4 none) (fun j hj => by cases hj))
                    replace HN := Lib.hid (show s'.came w4 ∧ Own w4 v2.heap.size s' from ⟨HN.out.1.below hb4, HN.out.2.below hb4⟩)
                    have HZ4 := Lib.hid (Nat.le_trans HZ3.out hb4.size)
                    clear hr9 hb4 hb9 hw4 HZ3
                    refine hK.out _ _ hSn (fun hS => ?_)
                    clear hK K hSn
                    refine wpAnyH_ready (rs := [9]) (by kernel_rfl) (by simp) ?_
                    refine all_consH rfl (fun K hK => ?_) ?_
                    · skip
                      refine stp_append_to (c := d3) (c' := 1) rfl (.tmp 50) (.tmp 57) rfl okW (by simp [Act.eval, Act.put]) HF.out (by simp [Act.eval, Act.put]) HR9.out (wcs_one [⟨p.a, s'⟩]) (i + 1) rfl (wcs (us ++ [⟨p.a, s'⟩])) (wcs_app us [⟨p.a, s'⟩]).symm (by unfold maxLen; omega) (by omega) (by have := HZ4.out; omega) ?_
                      intro D5 d5 w5 f5 g5
                      have hSn := hS.grown g5.out (fun e => by have := (HROWS.out _ e.symm).2; omega)
                      replace HX := Lib.hid (HX.out.grown g5.out (fun e => by have := (HROWS.out _ e.symm).1; omega))
                      have HU5 := Lib.hid (HU.out.grown g5.out (fun j hj => .inr (HF.out.other (by decide) j hj)))
                      have HN5 := Lib.hid (own_came HN.out.1 HN.out.2 g5.out (fun j hj => .inr (HF.out.other (by decide) j hj)))
                      have HF5 := Lib.hid f5.out
                      replace HG := Lib.hid (HG.out.andThen g5.out (fun j hj => .inl (HROWS.out j hj).1))
                      clear f5 g5 HF HU HN HR9 HZ4
                      refine hK.out _ _ hSn (fun hS => ?_)
                      clear hK K hSn
                      refine wpAnyH_take (i := 10) (v := ?_) rfl (by kernel_rfl) (by kernel_rfl) (by kernel_rfl) (fun _ _ _ h => h) (Or.inl ⟨by rfl, ?hyq⟩) hS ?_
                      case hyq =>
                        intro w hw
                        go_simp
                        try (with_reducible rfl)
                      refine wpAnyH_ready (rs := [11]) (by kernel_rfl) (by simp) ?_
                      refine all_consH rfl (fun K hK => ?_) ?_
                      · skip
                        refine Stp.mk ?_
                        obtain ⟨m0, m1⟩ := HX.out.cells
                        have mf := HX.out.frozen
                        have hX6 := HX.out.put1 (.slice D5 (i + 1) d5)
                        have hg6 := grown_setCell w5 ⟨w.heap.size + 1, 1, none⟩ (.slice D5 (i + 1) d5)
                        have hF6 := HF5.out.setCell (p := ⟨w.heap.size + 1, 1, none⟩) (fun e => by have := (HF5.out.row _ e).1; simp at this; omega) (.slice D5 (i + 1) d5)
                        have hU6 := (HU5.out.snoc (x := ⟨p.a, s'⟩) ⟨HN5.out.1, HI64.out, HN5.out.2⟩).grown hg6 (fun j hj => by cases hj; exact .inl hgG1)
                        have hG6 := HG.out.andThen hg6 (fun j hj => .inr hj)
                        have hSn := hS.grown hg6 (by simp; omega)
                        go_simp
                        clear m0 m1 mf
                        refine hK.out _ _ hSn (fun hS => ?_)
                        clear hK K hSn
                        refine wpAnyH_done (by kernel_rfl) ?_ _
                        have HX6 := Lib.hid hX6
                        have HF6 := Lib.hid hF6
                        have HU6 := Lib.hid hU6
                        have HG6 := Lib.hid hG6
                        clear hX6 hF6 hU6 hG6 hg6 HX HF5 HU5 HN5 HG hS
                        go_wp2
                        go_roundw
                        case rel => exact ⟨i + 1, D5, d5, us ++ [⟨p.a, s'⟩], by omega, by simp, HX6.out, HF6.out, by rw [List.length_append, HUL.out]; rfl, by rw [List.map_append, ← HCC.out]; simp [Wt.c, HSL.out], HU6.out, HG6.out⟩
                        case measure => simp [intOf]; omega
                      exact AllReadyH.nil
                    exact AllReadyH.nil
                  exact AllReadyH.nil
                exact AllReadyH.nil
              refine all_consH rfl (fun K hK => ?_) ?_
              · skip
                refine Stp.mk ?_
                go_simp
                go_wp2_with fail
                refine (b_clone p.s _ HS.out HPN.out).mono ?_
                rintro e w3 ⟨s', rfl, hsl, hsn, hsc, hso, hb3⟩
                have hSn := hS.below hb3 hS.lt
                replace HX := Lib.hid (HX.out.below hb3 HX.out.lt)
                replace HF := Lib.hid (HF.out.below hb3 (Nat.le_refl _))
                replace HU := Lib.hid (HU.out.below hb3)
                replace HG := Lib.hid (HG.out.andThen (grown_of_below hb3 none) (fun j hj => by cases hj))
                have HN := Lib.hid (show s'.came w3 ∧ Own w3 v2.heap.size s' from ⟨hsc, hso.mono (by rw [HZ.out]; omega)⟩)
                have HSL := Lib.hid hsl
                have HZ3 := Lib.hid (show wr.heap.size + 1 ≤ w3.heap.size from by have := hb3.size; rw [HZ.out] at this; exact this)
                clear hsl hsn hsc hso hb3
                go_wp2
                refine hK.out _ _ hSn (fun hS => ?_)
                clear hK K hSn
                refine wpAnyH_take (i := 7) (v := ?_) rfl (by kernel_rfl) (by kernel_rfl) (by kernel_rfl) (fun _ _ _ h => h) (Or.inl ⟨by rfl, ?hyq⟩) hS ?_
                case hyq =>
                  intro w hw
                  go_simp
                  try (with_reducible rfl)
                refine wpAnyH_ready (rs := [1, 8]) (by kernel_rfl) (by simp) ?_
                refine all_consH rfl (fun K hK => ?_) ?_
                · skip
                  refine Stp.mk ?_
                  obtain ⟨m0, m1⟩ := HX.out.cells
                  go_simp
                  have hSn := hS
                  clear m0 m1
                  refine hK.out _ _ hSn (fun hS => ?_)
                  clear hK K hSn
                  refine wpAnyH_ready (rs := [8]) (by kernel_rfl) (by simp) ?_
                  refine all_consH rfl (fun K hK => ?_) ?_
                  · skip
                    obtain ⟨b9, hb9⟩ : ∃ b, b = w3.heap.size := ⟨_, rfl⟩
                    obtain ⟨w4, hw4⟩ : ∃ W, W = w3.alloc (.cells #[.int .i64 p.a, .slice s'.A s'.n s'.c] 54) := ⟨_, rfl⟩
                    refine stp_run (v := .slice (some ⟨b9, 0, none⟩) 1 1) (w' := w4) rfl (by rw [hb9, hw4]; go_simp) ?_
                    have hr9 := Rd.made w3 54 2 1 [.int .i64 p.a, .slice s'.A s'.n s'.c] rfl
                    have hb4 := below_new' w3 (.cells #[.int .i64 p.a, .slice s'.A s'.n s'.c] 54)
                    rw [show ([.int .i64 p.a, .slice s'.A s'.n s'.c] : List Value).toArray = #[.int .i64 p.a, .slice s'.A s'.n s'.c] from rfl, ← hb9, ← hw4] at hr9
                    rw [← hw4] at hb4
                    have HR9 := Lib.hid (show Rd w4 (b9 + 1) 2 (some ⟨b9, 0, none⟩) 1 (wcs [⟨p.a, s'⟩]) from hr9)
                    have hSn := hS.below hb4 hS.lt
                    replace HX := Lib.hid (HX.out.below hb4 HX.out.lt)
                    replace HF := Lib.hid (HF.out.below hb4 (Nat.le_refl _))
                    replace HU := Lib.hid (HU.out.below hb4)
                    replace HG := Lib.hid (HG.out.andThen (grown_of_below hb4 none) (fun j hj => by cases hj))
                    replace HN := Lib.hid (show s'.came w4 ∧ Own w4 v2.heap.size s' from ⟨HN.out.1.below hb4, HN.out.2.below hb4⟩)
                    have HZ4 := Lib.hid (Nat.le_trans HZ3.out hb4.size)
                    clear hr9 hb4 hb9 hw4 HZ3
                    refine hK.out _ _ hSn (fun hS => ?_)
                    clear hK K hSn
                    refine wpAnyH_ready (rs := [9]) (by kernel_rfl) (by simp) ?_
                    refine all_consH rfl (fun K hK => ?_) ?_
                    · skip
                      refine stp_append_to (c := d3) (c' := 1) rfl (.tmp 50) (.tmp 57) rfl okW (by simp [Act.eval, Act.put]) HF.out (by simp [Act.eval, Act.put]) HR9.out (wcs_one [⟨p.a, s'⟩]) (i + 1) rfl (wcs (us ++ [⟨p.a, s'⟩])) (wcs_app us [⟨p.a, s'⟩]).symm (by unfold maxLen; omega) (by omega) (by have := HZ4.out; omega) ?_
                      intro D5 d5 w5 f5 g5
                      have hSn := hS.grown g5.out (fun e => by have := (HROWS.out _ e.symm).2; omega)
                      replace HX := Lib.hid (HX.out.grown g5.out (fun e => by have := (HROWS.out _ e.symm).1; omega))
                      have HU5 := Lib.hid (HU.out.grown g5.out (fun j hj => .inr (HF.out.other (by decide) j hj)))
                      have HN5 := Lib.hid (own_came HN.out.1 HN.out.2 g5.out (fun j hj => .inr (HF.out.other (by decide) j hj)))
                      have HF5 := Lib.hid f5.out
                      replace HG := Lib.hid (HG.out.andThen g5.out (fun j hj => .inl (HROWS.out j hj).1))
                      clear f5 g5 HF HU HN HR9 HZ4
                      refine hK.out _ _ hSn (fun hS => ?_)
                      clear hK K hSn
                      refine wpAnyH_take (i := 10) (v := ?_) rfl (by kernel_rfl) (by kernel_rfl) (by kernel_rfl) (fun _ _ _ h => h) (Or.inl ⟨by rfl, ?hyq⟩) hS ?_
                      case hyq =>
                        intro w hw
                        go_simp
                        try (with_reducible rfl)
                      refine wpAnyH_ready (rs := [11]) (by kernel_rfl) (by simp) ?_
                      refine all_consH rfl (fun K hK => ?_) ?_
                      · skip
                        refine Stp.mk ?_
                        obtain ⟨m0, m1⟩ := HX.out.cells
                        have mf := HX.out.frozen
                        have hX6 := HX.out.put1 (.slice D5 (i + 1) d5)
                        have hg6 := grown_setCell w5 ⟨w.heap.size + 1, 1, none⟩ (.slice D5 (i + 1) d5)
                        have hF6 := HF5.out.setCell (p := ⟨w.heap.size + 1, 1, none⟩) (fun e => by have := (HF5.out.row _ e).1; simp at this; omega) (.slice D5 (i + 1) d5)
                        have hU6 := (HU5.out.snoc (x := ⟨p.a, s'⟩) ⟨HN5.out.1, HI64.out, HN5.out.2⟩).grown hg6 (fun j hj => by cases hj; exact .inl hgG1)
                        have hG6 := HG.out.andThen hg6 (fun j hj => .inr hj)
                        have hSn := hS.grown hg6 (by simp; omega)
                        go_simp
                        clear m0 m1 mf
                        refine hK.out _ _ hSn (fun hS => ?_)
                        clear hK K hSn
                        refine wpAnyH_done (by kernel_rfl) ?_ _
                        have HX6 := Lib.hid hX6
                        have HF6 := Lib.hid hF6
                        have HU6 := Lib.hid hU6
                        have HG6 := Lib.hid hG6
                        clear hX6 hF6 hU6 hG6 hg6 HX HF5 HU5 HN5 HG hS
                        go_wp2
                        go_roundw
                        case rel => exact ⟨i + 1, D5, d5, us ++ [⟨p.a, s'⟩], by omega, by simp, HX6.out, HF6.out, by rw [List.length_append, HUL.out]; rfl, by rw [List.map_append, ← HCC.out]; simp [Wt.c, HSL.out], HU6.out, HG6.out⟩
                        case measure => simp [intOf]; omega
                      exact AllReadyH.nil
                    exact AllReadyH.nil
                  exact AllReadyH.nil
                refine all_consH rfl (fun K hK => ?_) ?_
                · skip
                  obtain ⟨b9, hb9⟩ : ∃ b, b = w3.heap.size := ⟨_, rfl⟩
                  obtain ⟨w4, hw4⟩ : ∃ W, W = w3.alloc (.cells #[.int .i64 p.a, .slice s'.A s'.n s'.c] 54) := ⟨_, rfl⟩
                  refine stp_run (v := .slice (some ⟨b9, 0, none⟩) 1 1) (w' := w4) rfl (by rw [hb9, hw4]; go_simp) ?_
                  have hr9 := Rd.made w3 54 2 1 [.int .i64 p.a, .slice s'.A s'.n s'.c] rfl
                  have hb4 := below_new' w3 (.cells #[.int .i64 p.a, .slice s'.A s'.n s'.c] 54)
                  rw [show ([.int .i64 p.a, .slice s'.A s'.n s'.c] : List Value).toArray = #[.int .i64 p.a, .slice s'.A s'.n s'.c] from rfl, ← hb9, ← hw4] at hr9
                  rw [← hw4] at hb4
                  have HR9 := Lib.hid (show Rd w4 (b9 + 1) 2 (some ⟨b9, 0, none⟩) 1 (wcs [⟨p.a, s'⟩]) from hr9)
                  have hSn := hS.below hb4 hS.lt
                  replace HX := Lib.hid (HX.out.below hb4 HX.out.lt)
                  replace HF := Lib.hid (HF.out.below hb4 (Nat.le_refl _))
                  replace HU := Lib.hid (HU.out.below hb4)
                  replace HG := Lib.hid (HG.out.andThen (grown_of_below hb4 none) (fun j hj => by cases hj))
                  replace HN := Lib.hid (show s'.came w4 ∧ Own w4 v2.heap.size s' from ⟨HN.out.1.below hb4, HN.out.2.below hb4⟩)
                  have HZ4 := Lib.hid (Nat.le_trans HZ3.out hb4.size)
                  clear hr9 hb4 hb9 hw4 HZ3
                  refine hK.out _ _ hSn (fun hS => ?_)
                  clear hK K hSn
                  refine wpAnyH_ready (rs := [1]) (by kernel_rfl) (by simp) ?_
                  refine all_consH rfl (fun K hK => ?_) ?_
                  · skip
                    refine Stp.mk ?_
                    obtain ⟨m0, m1⟩ := HX.out.cells
                    go_simp
                    have hSn := hS
                    clear m0 m1
                    refine hK.out _ _ hSn (fun hS => ?_)
                    clear hK K hSn
                    refine wpAnyH_ready (rs := [9]) (by kernel_rfl) (by simp) ?_
                    refine all_consH rfl (fun K hK => ?_) ?_
                    · skip
                      refine stp_append_to (c := d3) (c' := 1) rfl (.tmp 50) (.tmp 57) rfl okW (by simp [Act.eval, Act.put]) HF.out (by simp [Act.eval, Act.put]) HR9.out (wcs_one [⟨p.a, s'⟩]) (i + 1) rfl (wcs (us ++ [⟨p.a, s'⟩])) (wcs_app us [⟨p.a, s'⟩]).symm (by unfold maxLen; omega) (by omega) (by have := HZ4.out; omega) ?_
                      intro D5 d5 w5 f5 g5
                      have hSn := hS.grown g5.out (fun e => by have := (HROWS.out _ e.symm).2; omega)
                      replace HX := Lib.hid (HX.out.grown g5.out (fun e => by have := (HROWS.out _ e.symm).1; omega))
                      have HU5 := Lib.hid (HU.out.grown g5.out (fun j hj => .inr (HF.out.other (by decide) j hj)))
                      have HN5 := Lib.hid (own_came HN.out.1 HN.out.2 g5.out (fun j hj => .inr (HF.out.other (by decide) j hj)))
                      have HF5 := Lib.hid f5.out
                      replace HG := Lib.hid (HG.out.andThen g5.out (fun j hj => .inl (HROWS.out j hj).1))
                      clear f5 g5 HF HU HN HR9 HZ4
                      refine hK.out _ _ hSn (fun hS => ?_)
                      clear hK K hSn
                      refine wpAnyH_take (i := 10) (v := ?_) rfl (by kernel_rfl) (by kernel_rfl) (by kernel_rfl) (fun _ _ _ h => h) (Or.inl ⟨by rfl, ?hyq⟩) hS ?_
                      case hyq =>
                        intro w hw
                        go_simp
                        try (with_reducible rfl)
                      refine wpAnyH_ready (rs := [11]) (by kernel_rfl) (by simp) ?_
                      refine all_consH rfl (fun K hK => ?_) ?_
                      · skip
                        refine Stp.mk ?_
                        obtain ⟨m0, m1⟩ := HX.out.cells
                        have mf := HX.out.frozen
                        have hX6 := HX.out.put1 (.slice D5 (i + 1) d5)
                        have hg6 := grown_setCell w5 ⟨w.heap.size + 1, 1, none⟩ (.slice D5 (i + 1) d5)
                        have hF6 := HF5.out.setCell (p := ⟨w.heap.size + 1, 1, none⟩) (fun e => by have := (HF5.out.row _ e).1; simp at this; omega) (.slice D5 (i + 1) d5)
                        have hU6 := (HU5.out.snoc (x := ⟨p.a, s'⟩) ⟨HN5.out.1, HI64.out, HN5.out.2⟩).grown hg6 (fun j hj => by cases hj; exact .inl hgG1)
                        have hG6 := HG.out.andThen hg6 (fun j hj => .inr hj)
                        have hSn := hS.grown hg6 (by simp; omega)
                        go_simp
                        clear m0 m1 mf
                        refine hK.out _ _ hSn (fun hS => ?_)
                        clear hK K hSn
                        refine wpAnyH_done (by kernel_rfl) ?_ _
                        have HX6 := Lib.hid hX6
                        have HF6 := Lib.hid hF6
                        have HU6 := Lib.hid hU6
                        have HG6 := Lib.hid hG6
                        clear hX6 hF6 hU6 hG6 hg6 HX HF5 HU5 HN5 HG hS
                        go_wp2
                        go_roundw
                        case rel => exact ⟨i + 1, D5, d5, us ++ [⟨p.a, s'⟩], by omega, by simp, HX6.out, HF6.out, by rw [List.length_append, HUL.out]; rfl, by rw [List.map_append, ← HCC.out]; simp [Wt.c, HSL.out], HU6.out, HG6.out⟩
                        case measure => simp [intOf]; omega
                      exact AllReadyH.nil
                    exact AllReadyH.nil
                  exact AllReadyH.nil
                exact AllReadyH.nil
              exact AllReadyH.nil
            · obtain rfl : nW = i := by omega
              have hb3 : Below w.heap.size w wr := HB.out.grown hg3 HB.out.size (by intro q hq; cases hq; omega)
              obtain ⟨x0, x1⟩ := hx3.cells
              have HF3 := Lib.hid hf3
              have HUS := Lib.hid hus
              have HG3 := Lib.hid hg3
              have HB3 := Lib.hid hb3
              have HUC := Lib.hid huc
              have HUL := Lib.hid hul
              clear hf3 hus hg3 hb3 huc hul hx3
              go_wp2
              have hrow := (HG3.out.block g hg2 (by simp; omega)).trans HROW.out
              have hfp := HFP.out.kept HG3.out (.inr (fun e => by have := (HFP.out.row _ e).1; omega))
              have hla := HLA.out
              rw [← hll] at hla
              have hlsc : ls = c0.b := by rw [HC0.out, HLS.out]
              have hmp := hla.ls
              have hBv := HB.out.size
              have hfl : ls.flatten.length ≤ maxLen := by unfold maxLen; omega
              refine bodyPost_ret (v := .agg #[.slice Dp nB dp, .slice D3 nW d3]) (by simp [results, Try.results28, go_sem, x0, x1]) rfl ?_
              refine ⟨⟨Dp, nB, dp, ps, D3, nW, d3, us⟩, rfl, ⟨?_, ?_, hfp.mono (by omega), HF3.out.mono hBv, ?_, ?_, g, by omega, ?_, ?_, ?_⟩, HB3.out⟩
              · exact ⟨HLA.out.1, hfp.rd, hla.came hrow hfl, HUL.out, HF3.out.rd, fun x hx => ⟨(HUS.out x hx).1, (HUS.out x hx).2.1⟩, ⟨hfp.nc, hfp.cm⟩, ⟨HF3.out.nc, HF3.out.cm⟩⟩
              · rw [HC0.out]
                simp only [Dk.c]
                rw [hmp, HUC.out, List.take_of_length_le (by omega), ← HLB.out]
              · exact hla.own (by omega) hrow (by simp [bvs_len])
              · exact fun x hx => ((HUS.out x hx).2.2).mono hBv
              · rw [← hlsc]
                exact HLA.out
              · rw [← hlsc]
                exact hrow
              · intro x hx hn a ha e
                have := (HUS.out x hx).2.2.block hn ha
                omega
end Go.Proofs.Ytkaklppkmokffaa
