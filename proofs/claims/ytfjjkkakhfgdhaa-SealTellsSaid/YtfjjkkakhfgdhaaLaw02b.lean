/-
  Walks of the statements of package mix: MixParts, MixNames.
-/
import Derived.Test.YtfjjkkakhfgdhaaKey
namespace Go.Proofs.Ytfjjkkakhfgdhaa
open Go.RowKit
set_option linter.unusedVariables false
set_option linter.unusedSimpArgs false
set_option maxRecDepth 100000

theorem keepBelow {W w1 w2 : World} (h : Below W.heap.size W w1) (hb : Below w1.heap.size w1 w2) : Below W.heap.size W w2 := h.trans (below_mono hb h.size)
/-- A byte of the key. -/
theorem key_byte (x : W4) : ∀ i : Nat, i < 16 → (bvs (keyOf x))[i]? = some (.int .u8 (wi (match i / 4 with | 0 => x.a | 1 => x.b | 2 => x.c | _ => x.d) / 256 ^ (i % 4) % 256)) := by
  intro i hi
  obtain ⟨a0, a1⟩ := wi_lt x.a
  obtain ⟨b0, b1⟩ := wi_lt x.b
  obtain ⟨c0, c1⟩ := wi_lt x.c
  obtain ⟨d0, d1⟩ := wi_lt x.d
  unfold keyOf
  rcases (show i = 0 ∨ i = 1 ∨ i = 2 ∨ i = 3 ∨ i = 4 ∨ i = 5 ∨ i = 6 ∨ i = 7 ∨ i = 8 ∨ i = 9 ∨ i = 10 ∨ i = 11 ∨ i = 12 ∨ i = 13 ∨ i = 14 ∨ i = 15 by omega) with rfl | rfl | rfl | rfl | rfl | rfl | rfl | rfl | rfl | rfl | rfl | rfl | rfl | rfl | rfl | rfl <;>
    (simp [bvs, bv, le]; omega)

def PartsRel (w : World) (i : Value) (wr : World) : Prop := ∃ k : Nat, k ≤ 16 ∧ i = .int .i64 k ∧ Below w.heap.size w wr
theorem Fr.cell_at {w : World} {base n c g i : Nat} {e : TypeId} {xs : List Value} {u : Value} (h : Fr w base e 1 (some ⟨g, 0, none⟩) n c xs) (hu : xs[i]? = some u) : w.cell? ⟨g, i, none⟩ = some u := by
  have hi : i < n := by
    have := (List.getElem?_eq_some_iff.1 hu).1
    rw [h.len] at this
    omega
  obtain ⟨v, hv, hc⟩ := h.cell hi
  rw [hc, ← hv, hu]
theorem mixParts_walk (A : Option Addr) (n c : Nat) (l : List UInt8) (w : World) (hl : l.length = n) (hcap : n ≤ c) (hr : Rd w w.heap.size 1 A n (bvs l)) :
    Calls Try.prog 6 #[.slice A n c] w fun e w' => e = .returned (.bool true) ∧ Below w.heap.size w w' := by
  by_cases hn : n ≤ 10000
  · have h1 : ¬ ((10000 : Int) < (n : Int)) := by omega
    go_enter Try.func6, Try.ntmps6
    go_wp2_with fail
    refine (alive02 _).mono ?_
    rintro e w1 ⟨rfl, b1⟩
    have HB1 := Lib.hid b1
    have hc1 := fun W (h : Below w.heap.size w W) => x_four A n c l W hl (by omega) hcap ((hr.below h).more h.size)
    have hc2 := fun W (h : Below w.heap.size w W) => x_key A n c l W hl (by omega) hcap ((hr.below h).more h.size)
    have hc3 := fun W (h : Below w.heap.size w W) => x_sum A n c l W hl (by omega) hcap ((hr.below h).more h.size)
    have HC1 := Lib.hid hc1
    have HC2 := Lib.hid hc2
    have HC3 := Lib.hid hc3
    clear b1 hc1 hc2 hc3 hr
    generalize fourOf l = X at *
    go_wp2_with fail
    refine (HC1.out _ HB1.out).mono ?_
    rintro e w2 ⟨rfl, b2⟩
    have hb2 := HB1.out.trans (below_mono b2 HB1.out.size)
    have hx2 := Box4.new w2 23 X
    have hb3 : Below w.heap.size w (w2.alloc (.cells #[.int .u32 (wi X.a), .int .u32 (wi X.b), .int .u32 (wi X.c), .int .u32 (wi X.d)] 23)) := hb2.alloc hb2.size _
    have HX2 := Lib.hid hx2
    have HB3 := Lib.hid hb3
    clear b2 hb2 hx2 hb3
    go_wp2_with fail
    refine (HC2.out _ HB3.out).mono ?_
    rintro e w3 ⟨A3, c3, rfl, f3, b3⟩
    obtain ⟨g, rfl, hg1, hg2⟩ := f3.form (by have := f3.nc; omega)
    have hx3 := HX2.out.below b3 HX2.out.lt
    have hb4 := HB3.out.trans (below_mono b3 HB3.out.size)
    obtain ⟨c0, c1, c2, c3'⟩ := hx3.cells
    have hgx := hx3.lt
    have HX3 := Lib.hid hx3
    have HF3 := Lib.hid f3
    have HB4 := Lib.hid hb4
    clear hx3 f3 b3 hb4 HX2 HB3
    go_wp2_with fail
    have hrefl : Below w3.heap.size w3 w3 := Below.refl _ _
    go_region_held3 (fun w' => w'.cell? ⟨w2.heap.size, 0, none⟩ = some (.int .u32 (wi X.a)) ∧ Below w3.heap.size w3 w')
      (first
        | exact ⟨c0, ⟨hrefl.os, hrefl.tape, hrefl.output, hrefl.size, hrefl.block⟩⟩
        | (have hq := keepBelow (W := w3) (w1 := w3.drew) ⟨hrefl.os, hrefl.tape, hrefl.output, hrefl.size, hrefl.block⟩ hbb; exact ⟨(hq.cell (by show w2.heap.size < _; omega)).trans c0, hq⟩)
        | assumption)
      (first
        | (go_at_call 26; refine (HC3.out w3.drew ⟨HB4.out.os, HB4.out.tape, HB4.out.output, HB4.out.size, HB4.out.block⟩).mono ?_; rintro e w' ⟨rfl, hbb⟩))
    rename_i hh
    have hbel := hh.2
    have hcell := HF3.out.rd
    have HL := Lib.hid hcell
    clear hh hcell c0 c1 c2 c3'
    go_wp2
    go_loopw [6] (fun i wr => PartsRel w3 i wr) (fun i _ => 16 - (intOf i).toNat)
    case atStart => exact ⟨0, by omega, rfl, hbel⟩
    case round =>
      clear hbel
      obtain ⟨k, hk, rfl, hbel⟩ := hrel
      obtain ⟨c0, c1, c2, c3'⟩ := (HX3.out.below hbel hgx).cells
      obtain ⟨i0, i1⟩ := wi_lt X.a
      obtain ⟨i2, i3⟩ := wi_lt X.b
      obtain ⟨i4, i5⟩ := wi_lt X.c
      obtain ⟨i6, i7⟩ := wi_lt X.d
      by_cases hlt : k < 16
      · have hky : wr.cell? ⟨g, k, none⟩ = _ := (hbel.cell (by show g < _; exact hg2)).trans (HF3.out.cell_at (key_byte X k hlt))
        rcases (show k = 0 ∨ k = 1 ∨ k = 2 ∨ k = 3 ∨ k = 4 ∨ k = 5 ∨ k = 6 ∨ k = 7 ∨ k = 8 ∨ k = 9 ∨ k = 10 ∨ k = 11 ∨ k = 12 ∨ k = 13 ∨ k = 14 ∨ k = 15 by omega) with rfl | rfl | rfl | rfl | rfl | rfl | rfl | rfl | rfl | rfl | rfl | rfl | rfl | rfl | rfl | rfl
        · have hk2 : wr.cell? ⟨g, 0, none⟩ = some (.int .u8 (wi X.a / 1 % 256)) := hky
          clear hky
          go_wp2
          go_quiet (fail)
          go_wp2
          go_roundw
          case rel => exact ⟨1, by omega, rfl, below_drewN hbel _⟩
          case measure => simp [intOf]
        · have hk2 : wr.cell? ⟨g, 1, none⟩ = some (.int .u8 (wi X.a / 256 % 256)) := hky
          clear hky
          go_wp2
          go_quiet (fail)
          go_wp2
          go_roundw
          case rel => exact ⟨2, by omega, rfl, below_drewN hbel _⟩
          case measure => simp [intOf]
        · have hk2 : wr.cell? ⟨g, 2, none⟩ = some (.int .u8 (wi X.a / 65536 % 256)) := hky
          clear hky
          go_wp2
          go_quiet (fail)
          go_wp2
          go_roundw
          case rel => exact ⟨3, by omega, rfl, below_drewN hbel _⟩
          case measure => simp [intOf]
        · have hk2 : wr.cell? ⟨g, 3, none⟩ = some (.int .u8 (wi X.a / 16777216 % 256)) := hky
          clear hky
          have e3 : wi X.a / 16777216 % 256 = wi X.a / 16777216 := by omega
          have e4 : wi X.a / 16777216 < 256 := by omega
          have e5 : 0 ≤ wi X.a / 16777216 := by omega
          rw [e3] at hk2
          go_wp2
          go_quiet (fail)
          go_wp2
          go_roundw
          case rel => exact ⟨4, by omega, rfl, below_drewN hbel _⟩
          case measure => simp [intOf]
        · have hk2 : wr.cell? ⟨g, 4, none⟩ = some (.int .u8 (wi X.b / 1 % 256)) := hky
          clear hky
          go_wp2
          go_quiet (fail)
          go_wp2
          go_roundw
          case rel => exact ⟨5, by omega, rfl, below_drewN hbel _⟩
          case measure => simp [intOf]
        · have hk2 : wr.cell? ⟨g, 5, none⟩ = some (.int .u8 (wi X.b / 256 % 256)) := hky
          clear hky
          go_wp2
          go_quiet (fail)
          go_wp2
          go_roundw
          case rel => exact ⟨6, by omega, rfl, below_drewN hbel _⟩
          case measure => simp [intOf]
        · have hk2 : wr.cell? ⟨g, 6, none⟩ = some (.int .u8 (wi X.b / 65536 % 256)) := hky
          clear hky
          go_wp2
          go_quiet (fail)
          go_wp2
          go_roundw
          case rel => exact ⟨7, by omega, rfl, below_drewN hbel _⟩
          case measure => simp [intOf]
        · have hk2 : wr.cell? ⟨g, 7, none⟩ = some (.int .u8 (wi X.b / 16777216 % 256)) := hky
          clear hky
          have e3 : wi X.b / 16777216 % 256 = wi X.b / 16777216 := by omega
          have e4 : wi X.b / 16777216 < 256 := by omega
          have e5 : 0 ≤ wi X.b / 16777216 := by omega
          rw [e3] at hk2
          go_wp2
          go_quiet (fail)
          go_wp2
          go_roundw
          case rel => exact ⟨8, by omega, rfl, below_drewN hbel _⟩
          case measure => simp [intOf]
        · have hk2 : wr.cell? ⟨g, 8, none⟩ = some (.int .u8 (wi X.c / 1 % 256)) := hky
          clear hky
          go_wp2
          go_quiet (fail)
          go_wp2
          go_roundw
          case rel => exact ⟨9, by omega, rfl, below_drewN hbel _⟩
          case measure => simp [intOf]
        · have hk2 : wr.cell? ⟨g, 9, none⟩ = some (.int .u8 (wi X.c / 256 % 256)) := hky
          clear hky
          go_wp2
          go_quiet (fail)
          go_wp2
          go_roundw
          case rel => exact ⟨10, by omega, rfl, below_drewN hbel _⟩
          case measure => simp [intOf]
        · have hk2 : wr.cell? ⟨g, 10, none⟩ = some (.int .u8 (wi X.c / 65536 % 256)) := hky
          clear hky
          go_wp2
          go_quiet (fail)
          go_wp2
          go_roundw
          case rel => exact ⟨11, by omega, rfl, below_drewN hbel _⟩
          case measure => simp [intOf]
        · have hk2 : wr.cell? ⟨g, 11, none⟩ = some (.int .u8 (wi X.c / 16777216 % 256)) := hky
          clear hky
          have e3 : wi X.c / 16777216 % 256 = wi X.c / 16777216 := by omega
          have e4 : wi X.c / 16777216 < 256 := by omega
          have e5 : 0 ≤ wi X.c / 16777216 := by omega
          rw [e3] at hk2
          go_wp2
          go_quiet (fail)
          go_wp2
          go_roundw
          case rel => exact ⟨12, by omega, rfl, below_drewN hbel _⟩
          case measure => simp [intOf]
        · have hk2 : wr.cell? ⟨g, 12, none⟩ = some (.int .u8 (wi X.d / 1 % 256)) := hky
          clear hky
          go_wp2
          go_quiet (fail)
          go_wp2
          go_roundw
          case rel => exact ⟨13, by omega, rfl, below_drewN hbel _⟩
          case measure => simp [intOf]
        · have hk2 : wr.cell? ⟨g, 13, none⟩ = some (.int .u8 (wi X.d / 256 % 256)) := hky
          clear hky
          go_wp2
          go_quiet (fail)
          go_wp2
          go_roundw
          case rel => exact ⟨14, by omega, rfl, below_drewN hbel _⟩
          case measure => simp [intOf]
        · have hk2 : wr.cell? ⟨g, 14, none⟩ = some (.int .u8 (wi X.d / 65536 % 256)) := hky
          clear hky
          go_wp2
          go_quiet (fail)
          go_wp2
          go_roundw
          case rel => exact ⟨15, by omega, rfl, below_drewN hbel _⟩
          case measure => simp [intOf]
        · have hk2 : wr.cell? ⟨g, 15, none⟩ = some (.int .u8 (wi X.d / 16777216 % 256)) := hky
          clear hky
          have e3 : wi X.d / 16777216 % 256 = wi X.d / 16777216 := by omega
          have e4 : wi X.d / 16777216 < 256 := by omega
          have e5 : 0 ≤ wi X.d / 16777216 := by omega
          rw [e3] at hk2
          go_wp2
          go_quiet (fail)
          go_wp2
          go_roundw
          case rel => exact ⟨16, by omega, rfl, below_drewN hbel _⟩
          case measure => simp [intOf]
      · have hk16 : k = 16 := by omega
        subst k
        go_wp2
        go_ret
        exact ⟨rfl, HB4.out.trans (below_mono hbel HB4.out.size)⟩
  · have h1 : (10000 : Int) < (n : Int) := by omega
    go_enter Try.func6, Try.ntmps6
    go_wp2_with fail
    refine (alive02 _).mono ?_
    rintro e w1 ⟨rfl, b1⟩
    have HB1 := Lib.hid b1
    clear b1
    go_wp2
    go_ret
    exact ⟨rfl, HB1.out⟩
end Go.Proofs.Ytfjjkkakhfgdhaa
