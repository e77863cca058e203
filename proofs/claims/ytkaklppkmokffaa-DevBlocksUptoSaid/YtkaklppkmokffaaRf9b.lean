/-
  Contract of charterhouselaw09.wipe.
-/
import Derived.Test.YtkaklppkmokffaaDevL
namespace Go.Proofs.Ytkaklppkmokffaa
open Go.RowKit
set_option linter.unusedVariables false
set_option linter.unusedSimpArgs false
set_option maxRecDepth 100000

/-- A slice of bytes that may be written to. -/
def WpS (w : World) (base : Nat) (s : Sl) : Prop := 0 < s.n → ∃ g off cur fz, s.A = some ⟨g, off, none⟩ ∧ base ≤ g ∧ w.heap[g]? = some (.cells cur 5 fz) ∧ (∀ i, i < cur.size → (decide (fz.1 ≤ i) && decide (i < fz.2)) = false) ∧ off + s.n ≤ cur.size ∧ ∀ k, k < s.n → ∃ x : UInt8, cur[off + k]? = some (bv x)
theorem WpS.of {w : World} {base : Nat} {s : Sl} (h : s.came w) (o : Own w base s) : WpS w base s := by
  intro hn
  obtain ⟨g, off, cur, fz, hA, hb, hh, hf, hs⟩ := o hn
  refine ⟨g, off, cur, fz, hA, hb, hh, hf, hs, fun k hk => ?_⟩
  obtain ⟨b', o', u, e, _, hu, hc⟩ := h.2.1.at_ hk
  rw [hA] at e
  cases e
  have hkl : k < s.l.length := by rw [h.1]; exact hk
  rw [bvs_get, List.getElem?_eq_getElem hkl] at hu
  rw [cell_of_row w g (off + k) _ _ _ hh] at hc
  exact ⟨s.l[k], by rw [hc, ← hu]; rfl⟩
theorem WpS.below {w w' : World} {base : Nat} {s : Sl} (h : WpS w base s) (hb : Below w.heap.size w w') : WpS w' base s := by
  intro hn
  obtain ⟨g, off, cur, fz, h1, h2, h3, h4⟩ := h hn
  exact ⟨g, off, cur, fz, h1, h2, (hb.block g (Array.getElem?_eq_some_iff.1 h3).1).trans h3, h4⟩
theorem WpS.put {w : World} {base : Nat} {s : Sl} (h : WpS w base s) {g i : Nat} {cur : Array Value} {fz : Nat × Nat} (hg : w.heap[g]? = some (.cells cur 5 fz)) (y : UInt8) : WpS (w.setCell ⟨g, i, none⟩ (bv y)) base s := by
  intro hn
  obtain ⟨g2, off, cur2, fz2, h1, h2, h3, h4, h5, h6⟩ := h hn
  by_cases e : g = g2
  · subst e
    rw [hg] at h3
    cases h3
    refine ⟨g, off, cur.setIfInBounds i (bv y), fz, h1, h2, ?_, by simpa using h4, by simpa using h5, fun k hk => ?_⟩
    · rw [setCell_eq_setRow w g i cur _ fz _ hg]
      exact setRow_heap w g _ _ _ _ hg
    · obtain ⟨x, hx⟩ := h6 k hk
      rw [Array.getElem?_setIfInBounds]
      by_cases e2 : i = off + k
      · subst e2
        rw [if_pos rfl, if_pos (by have := (Array.getElem?_eq_some_iff.1 hx).1; exact this)]
        exact ⟨y, rfl⟩
      · rw [if_neg e2]
        exact ⟨x, hx⟩
  · exact ⟨g2, off, cur2, fz2, h1, h2, (Below.heap_setCell _ _ _ _ (fun e2 => e e2.symm)).trans h3, h4, h5, h6⟩
/-- What is known of one byte of it. -/
theorem WpS.at_ {w : World} {base : Nat} {s : Sl} (h : WpS w base s) {k : Nat} (hk : k < s.n) : ∃ (g off : Nat) (x : UInt8) (cur : Array Value) (fz : Nat × Nat), s.A = some ⟨g, off, none⟩ ∧ base ≤ g ∧ w.heap[g]? = some (.cells cur 5 fz) ∧ w.cell? ⟨g, off + k, none⟩ = some (.int .u8 (x.toNat : Int)) ∧ w.frozen? ⟨g, off + k, none⟩ = false := by
  obtain ⟨g, off, cur, fz, h1, h2, h3, h4, h5, h6⟩ := h (by omega)
  obtain ⟨x, hx⟩ := h6 k hk
  have hi := (Array.getElem?_eq_some_iff.1 hx).1
  refine ⟨g, off, x, cur, fz, h1, h2, h3, by rw [cell_of_row w g _ _ _ _ h3, hx]; rfl, ?_⟩
  have := h4 _ hi
  obtain ⟨lo, hi'⟩ := fz
  simp only [World.frozen?, h3]
  exact this
structure Wp (base : Nat) (d : Dk) (w : World) : Prop where
  lb : d.bs.length = d.nB
  lw : d.ws.length = d.nW
  fb : Fr w base 41 1 d.A d.nB d.cB (d.bs.map Sl.v)
  fw : Fr w base 54 2 d.W d.nW d.cW (wcs d.ws)
  bs : ∀ s ∈ d.bs, WpS w base s
  ws : ∀ x ∈ d.ws, WpS w base x.s
theorem Nw.wp {c : Ct} {base : Nat} {d : Dk} {w : World} (h : Nw c base d w) : Wp base d w :=
  ⟨h.ok.lb, h.ok.lw, h.fb, h.fw, fun s hs => WpS.of (h.ok.sb s hs) (h.ob s hs), fun x hx => WpS.of (h.ok.sw x hx).1 (h.ow x hx)⟩
theorem Wp.below {base : Nat} {d : Dk} {w w' : World} (h : Wp base d w) (hb : Below w.heap.size w w') : Wp base d w' :=
  ⟨h.lb, h.lw, h.fb.below hb (Nat.le_refl _), h.fw.below hb (Nat.le_refl _), fun s hs => (h.bs s hs).below hb, fun x hx => (h.ws x hx).below hb⟩
theorem fr_put {w : World} {base sz n c g i : Nat} {e : TypeId} {A : Option Addr} {xs : List Value} (h : Fr w base e sz A n c xs) {cur : Array Value} {fz : Nat × Nat} (hg : w.heap[g]? = some (.cells cur 5 fz)) (hne : e ≠ 5) (u : Value) : Fr (w.setCell ⟨g, i, none⟩ u) base e sz A n c xs :=
  h.setCell (fun e1 => by
    obtain ⟨cur', fz', hc⟩ := h.cells_ g e1
    rw [hg] at hc
    cases hc
    exact hne rfl) u
theorem Wp.put {base : Nat} {d : Dk} {w : World} (h : Wp base d w) {g i : Nat} {cur : Array Value} {fz : Nat × Nat} (hg : w.heap[g]? = some (.cells cur 5 fz)) (y : UInt8) : Wp base d (w.setCell ⟨g, i, none⟩ (bv y)) :=
  ⟨h.lb, h.lw, fr_put h.fb hg (by decide) _, fr_put h.fw hg (by decide) _, fun s hs => (h.bs s hs).put hg y, fun x hx => (h.ws x hx).put hg y⟩
theorem box_ne {w : World} {g G : Nat} {X Y : Value} {cur : Array Value} {fz : Nat × Nat} (h : DkBox w G X Y) (hg : w.heap[g]? = some (.cells cur 5 fz)) : g ≠ G := by
  rintro rfl
  unfold DkBox at h
  rw [hg] at h
  cases h
/-- What a wipe keeps. -/
structure BKp (base : Nat) (w wr : World) : Prop where
  b : Below base w wr
  k : ∀ b d', Wp b d' w → Wp b d' wr
  s : ∀ b s, WpS w b s → WpS wr b s
  x : ∀ G X Y, DkBox w G X Y → DkBox wr G X Y
theorem BKp.new (w : World) (o : Obj) {base : Nat} (h : base ≤ w.heap.size) : BKp base w (w.alloc o) :=
  ⟨(below_new' w o).mono h, fun _ _ k => k.below (below_new' w o), fun _ _ k => k.below (below_new' w o), fun _ _ _ k => k.alloc o⟩
theorem BKp.put {base : Nat} {w wr : World} (h : BKp base w wr) {g i : Nat} {cur : Array Value} {fz : Nat × Nat} (hb : base ≤ g) (hg : wr.heap[g]? = some (.cells cur 5 fz)) (y : UInt8) : BKp base w (wr.drew.setCell ⟨g, i, none⟩ (bv y)) :=
  ⟨h.b.drew.setCell hb _, fun b d k => Wp.put (w := wr.drew) ((h.k b d k).below ((Below.refl _ _).drew)) hg y, fun b s k => WpS.put (w := wr.drew) ((h.s b s k).below ((Below.refl _ _).drew)) hg y, fun G X Y k => DkBox.set (w := wr.drew) (h.x G X Y k) ⟨g, i, none⟩ (box_ne (h.x G X Y k) hg) _⟩
def WiR (n base G : Nat) (X Y : Value) (d : Dk) (w : World) (x : Value) (wr : World) : Prop :=
  ∃ k : Nat, k ≤ n ∧ x = .int .i64 (k : Int) ∧ DkBox wr G X Y ∧ Wp base d wr ∧ BKp base w wr
set_option maxHeartbeats 4000000 in
theorem l_wipeK (d : Dk) (base : Nat) (w : World) (hd : Wp base d w) (hbase : base ≤ w.heap.size) (hB6 : (d.nB : Int) ≤ 1000000) (hW6 : (d.nW : Int) ≤ 1000000) (hs6 : ∀ s ∈ d.bs, (s.n : Int) ≤ 1000000000) (hx6 : ∀ x ∈ d.ws, (x.s.n : Int) ≤ 1000000000) :
    Calls Try.prog 21 #[d.v] w fun e w' => (∃ v, e = .returned v) ∧ BKp base w w' := by
  have hx := DkBox.new w (.slice d.A d.nB d.cB) (.slice d.W d.nW d.cW)
  have hb := below_new' w (.cells #[.slice d.A d.nB d.cB, .slice d.W d.nW d.cW] 25)
  have HX := Lib.hid hx
  have HB := Lib.hid (BKp.new w (.cells #[.slice d.A d.nB d.cB, .slice d.W d.nW d.cW] 25) hbase)
  have HD := Lib.hid (hd.below hb)
  have HS6 := Lib.hid hs6
  have HX6 := Lib.hid hx6
  have HBASE := Lib.hid hbase
  clear hx hb hd hs6 hx6 hbase
  simp only [Dk.v] at *
  go_enter Try.func21, Try.ntmps21
  go_wp2
  go_loopw [2] (fun q wr => WiR d.nB base w.heap.size (.slice d.A d.nB d.cB) (.slice d.W d.nW d.cW) d w q wr) (fun q _ => d.nB - (intOf q).toNat)
  case atStart => exact ⟨0, Nat.zero_le _, rfl, HX.out, HD.out, HB.out⟩
  case round =>
    obtain ⟨i, hi, rfl, hx, hw, hbr⟩ := hrel
    have HXr := Lib.hid hx
    have HWr := Lib.hid hw
    have HBr := Lib.hid hbr
    obtain ⟨x0, x1⟩ := hx.cells
    clear hx hw hbr
    by_cases hlt : i < d.nB
    · have h0 : ¬ ((i : Int) < 0) := by omega
      have h1 : (i : Int) < (d.nB : Int) := by omega
      have hlb := HD.out.lb
      obtain ⟨s, hs⟩ : ∃ s, s = d.bs[i]'(by omega) := ⟨_, rfl⟩
      have hsm : s ∈ d.bs := by rw [hs]; exact List.getElem_mem _
      have hs9 := HS6.out s hsm
      have HSM := Lib.hid hsm
      have HS := Lib.hid hs
      have HLB := Lib.hid hlb
      clear hsm hs
      go_wp2
      clear x0 x1
      go_loopw [3] (fun q wr => WiR s.n base w.heap.size (.slice d.A d.nB d.cB) (.slice d.W d.nW d.cW) d w q wr) (fun q _ => s.n - (intOf q).toNat)
      case atStart => exact ⟨0, Nat.zero_le _, rfl, HXr.out, HWr.out, HBr.out⟩
      case round =>
        obtain ⟨k, hk, rfl, hx, hw, hbr⟩ := hrel
        obtain ⟨x0, x1⟩ := hx.cells
        obtain ⟨bA, oA, hA, hAl, hc⟩ := hw.fb.rd.atS hlt HLB.out
        rw [← HS.out] at hc
        rw [hA] at x0
        by_cases hlk : k < s.n
        · obtain ⟨g, off, x, cur, fz, hsA, hgb, hgh, hgc, hgf⟩ := (hw.bs s HSM.out).at_ hlk
          rw [hsA] at hc
          have k0 : ¬ ((k : Int) < 0) := by omega
          have k1 : (k : Int) < (s.n : Int) := by omega
          have HXR := Lib.hid (show bits .xor .u8 (x.toNat : Int) 255 = ((x ^^^ 255).toNat : Int) from xor_u8 x 255)
          have hgl := (Array.getElem?_eq_some_iff.1 hgh).1
          have hne := box_ne hx hgh
          have HX5 := Lib.hid (show DkBox (wr.drew.setCell ⟨g, off + k, none⟩ (bv (x ^^^ 255))) w.heap.size _ _ from DkBox.set (w := wr.drew) hx ⟨g, off + k, none⟩ hne _)
          have HW5 := Lib.hid (show Wp base d (wr.drew.setCell ⟨g, off + k, none⟩ (bv (x ^^^ 255))) from Wp.put (w := wr.drew) (hw.below ((Below.refl _ _).drew)) hgh _)
          have HB5 := Lib.hid (show BKp base w (wr.drew.setCell ⟨g, off + k, none⟩ (bv (x ^^^ 255))) from hbr.put hgb hgh _)
          clear hx hw hbr hsA hgb hgh hAl hne hA
          go_wp2
          go_still_tail 16, (by kernel_rfl)
          obtain ⟨w5, hw5⟩ : ∃ V, V = wr.drew.setCell ⟨g, off + k, none⟩ (bv (x ^^^ 255)) := ⟨_, rfl⟩
          rw [← hw5] at HX5 HW5 HB5
          refine wpList_skip (w' := w5) rfl (by
            rw [hw5]
            unfold bv
            rw [← HXR.out]
            clear HXR hw5
            generalize bits .xor .u8 (x.toNat : Int) 255 = z
            have hcx' : wr.drew.cell? ⟨g, off + k, none⟩ = some (.int .u8 (x.toNat : Int)) := hgc
            have hfx' : wr.drew.frozen? ⟨g, off + k, none⟩ = false := hgf
            clear hgc hgf
            rw [show ({ heap := wr.heap, tape := wr.tape, drawn := wr.drawn + 1, os := wr.os, output := wr.output } : World) = wr.drew from rfl]
            generalize wr.drew = W4 at *
            go_simp) ?_
          clear hw5 HXR x0 x1 hc hgc hgf
          go_wp2
          go_roundw
          case rel => exact ⟨k + 1, by omega, by simp, HX5.out, HW5.out, HB5.out⟩
          case measure => simp [intOf]; omega
        · obtain rfl : k = s.n := by omega
          have HX7 := Lib.hid hx
          have HW7 := Lib.hid hw
          have HB7 := Lib.hid hbr
          clear hx hw hbr hA hAl
          go_wp2
          go_roundw
          case rel => exact ⟨i + 1, by omega, by simp, HX7.out, HW7.out, HB7.out⟩
          case measure => simp [intOf]; omega
    · obtain rfl : i = d.nB := by omega
      go_wp2
      clear x0 x1
      go_loopw [4] (fun q wr => WiR d.nW base w.heap.size (.slice d.A d.nB d.cB) (.slice d.W d.nW d.cW) d w q wr) (fun q _ => d.nW - (intOf q).toNat)
      case atStart => exact ⟨0, Nat.zero_le _, rfl, HXr.out, HWr.out, HBr.out⟩
      case round =>
        clear HXr HWr HBr
        obtain ⟨i, hi, rfl, hx, hw, hbr⟩ := hrel
        have HXr := Lib.hid hx
        have HWr := Lib.hid hw
        have HBr := Lib.hid hbr
        obtain ⟨x0, x1⟩ := hx.cells
        clear hx hw hbr
        by_cases hlt : i < d.nW
        · have h0 : ¬ ((i : Int) < 0) := by omega
          have h1 : (i : Int) < (d.nW : Int) := by omega
          have hlw := HD.out.lw
          obtain ⟨s, hs⟩ : ∃ s, s = (d.ws[i]'(by omega)).s := ⟨_, rfl⟩
          have hsm : ∃ x ∈ d.ws, s = x.s := ⟨_, List.getElem_mem _, hs⟩
          have hs9 : (s.n : Int) ≤ 1000000000 := by
            rw [hs]
            exact HX6.out _ (List.getElem_mem _)
          have HSM := Lib.hid hsm
          have HS := Lib.hid hs
          clear hsm hs
          go_wp2
          clear x0 x1
          go_loopw [5] (fun q wr => WiR s.n base w.heap.size (.slice d.A d.nB d.cB) (.slice d.W d.nW d.cW) d w q wr) (fun q _ => s.n - (intOf q).toNat)
          case atStart => exact ⟨0, Nat.zero_le _, rfl, HXr.out, HWr.out, HBr.out⟩
          case round =>
            obtain ⟨k, hk, rfl, hx, hw, hbr⟩ := hrel
            obtain ⟨x0, x1⟩ := hx.cells
            obtain ⟨bA, oA, hA, hAl, hc0, hc⟩ := hw.fw.rd.at2 hlt hlw
            rw [← HS.out] at hc
            rw [hA] at x1
            clear hc0
            by_cases hlk : k < s.n
            · obtain ⟨xx, hxm, hxs⟩ := HSM.out
              obtain ⟨g, off, x, cur, fz, hsA, hgb, hgh, hgc, hgf⟩ := (show WpS wr base s from by rw [hxs]; exact hw.ws xx hxm).at_ hlk
              rw [hsA] at hc
              have k0 : ¬ ((k : Int) < 0) := by omega
              have k1 : (k : Int) < (s.n : Int) := by omega
              have HXR := Lib.hid (show bits .xor .u8 (x.toNat : Int) 255 = ((x ^^^ 255).toNat : Int) from xor_u8 x 255)
              have hne := box_ne hx hgh
              have HX5 := Lib.hid (show DkBox (wr.drew.setCell ⟨g, off + k, none⟩ (bv (x ^^^ 255))) w.heap.size _ _ from DkBox.set (w := wr.drew) hx ⟨g, off + k, none⟩ hne _)
              have HW5 := Lib.hid (show Wp base d (wr.drew.setCell ⟨g, off + k, none⟩ (bv (x ^^^ 255))) from Wp.put (w := wr.drew) (hw.below ((Below.refl _ _).drew)) hgh _)
              have HB5 := Lib.hid (show BKp base w (wr.drew.setCell ⟨g, off + k, none⟩ (bv (x ^^^ 255))) from hbr.put hgb hgh _)
              clear hx hw hbr hsA hgb hgh hAl hne hA hxm hxs
              go_wp2
              go_still_tail 18, (by kernel_rfl)
              obtain ⟨w5, hw5⟩ : ∃ V, V = wr.drew.setCell ⟨g, off + k, none⟩ (bv (x ^^^ 255)) := ⟨_, rfl⟩
              rw [← hw5] at HX5 HW5 HB5
              refine wpList_skip (w' := w5) rfl (by
                rw [hw5]
                unfold bv
                rw [← HXR.out]
                clear HXR hw5
                generalize bits .xor .u8 (x.toNat : Int) 255 = z
                have hcx' : wr.drew.cell? ⟨g, off + k, none⟩ = some (.int .u8 (x.toNat : Int)) := hgc
                have hfx' : wr.drew.frozen? ⟨g, off + k, none⟩ = false := hgf
                clear hgc hgf
                rw [show ({ heap := wr.heap, tape := wr.tape, drawn := wr.drawn + 1, os := wr.os, output := wr.output } : World) = wr.drew from rfl]
                generalize wr.drew = W4 at *
                go_simp) ?_
              clear hw5 HXR x0 x1 hc hgc hgf
              go_wp2
              go_roundw
              case rel => exact ⟨k + 1, by omega, by simp, HX5.out, HW5.out, HB5.out⟩
              case measure => simp [intOf]; omega
            · obtain rfl : k = s.n := by omega
              have HX7 := Lib.hid hx
              have HW7 := Lib.hid hw
              have HB7 := Lib.hid hbr
              clear hx hw hbr hA hAl
              go_wp2
              go_roundw
              case rel => exact ⟨i + 1, by omega, by simp, HX7.out, HW7.out, HB7.out⟩
              case measure => simp [intOf]; omega
        · obtain rfl : i = d.nW := by omega
          go_wp2
          refine bodyPost_end (v := .tuple #[]) ?_ rfl ?_
          · simp [results, Try.results21, go_sem]
          · exact ⟨⟨_, rfl⟩, HBr.out⟩
theorem l_wipe (d : Dk) (base : Nat) (w : World) (hd : Wp base d w) (hbase : base ≤ w.heap.size) (hB6 : (d.nB : Int) ≤ 1000000) (hW6 : (d.nW : Int) ≤ 1000000) (hs6 : ∀ s ∈ d.bs, (s.n : Int) ≤ 1000000000) (hx6 : ∀ x ∈ d.ws, (x.s.n : Int) ≤ 1000000000) :
    Calls Try.prog 21 #[d.v] w fun e w' => (∃ v, e = .returned v) ∧ Below base w w' :=
  (l_wipeK d base w hd hbase hB6 hW6 hs6 hx6).mono fun e w' ⟨h1, h2⟩ => ⟨h1, h2.b⟩
end Go.Proofs.Ytkaklppkmokffaa
