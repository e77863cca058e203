/-
  Walk of the statement MixNames.
-/
import Derived.Test.YtfjjkkakhfgdhaaLaw02b
namespace Go.Proofs.Ytfjjkkakhfgdhaa
open Go.RowKit
set_option linter.unusedVariables false
set_option linter.unusedSimpArgs false
set_option maxRecDepth 100000

/-- Four cells that nobody turns. -/
theorem keepFour {W w1 w2 : World} {B : Nat} {a b c d : Addr} {p0 p1 p2 p3 : Value} (h : (w1.cell? a = some p0 ∧ w1.cell? b = some p1 ∧ w1.cell? c = some p2 ∧ w1.cell? d = some p3) ∧ Below B W w1) (hb : Below w1.heap.size w1 w2) (ha : a.block < B) (hb' : b.block < B) (hc : c.block < B) (hd : d.block < B) (hB : B ≤ W.heap.size) :
    (w2.cell? a = some p0 ∧ w2.cell? b = some p1 ∧ w2.cell? c = some p2 ∧ w2.cell? d = some p3) ∧ Below B W w2 := by
  have hs := h.2.size
  have hk : ∀ x : Addr, x.block < B → w2.cell? x = w1.cell? x := fun x hx => hb.cell (by omega)
  rw [hk _ ha, hk _ hb', hk _ hc, hk _ hd]
  exact ⟨h.1, h.2.trans (below_mono hb (by omega))⟩

theorem mixNames_walk (w : World) : Calls Try.prog 7 #[] w fun e w' => e = .returned (.bool true) ∧ Below w.heap.size w w' := by
  have hq := run_four_in
  have hq' := run_four_eq
  have q0 : ∀ w, Calls Try.prog 22 #[.agg #[.int .u32 67108864, .int .u32 1075839489, .int .u32 16809992, .int .u32 16777224]] w fun e w' =>
      e = .returned (.agg #[.int .u32 0, .int .u32 0, .int .u32 0, .int .u32 1]) ∧ Below w.heap.size w w' := fun w => x_unturn ⟨67108864, 1075839489, 16809992, 16777224⟩ w
  have hc1 := fun W => x_four none 0 0 [] W rfl (by omega) (Nat.le_refl _) Rd.nil_
  have hc2 := fun W => x_key none 0 0 [] W rfl (by omega) (Nat.le_refl _) Rd.nil_
  have hc3 := fun W => x_sum none 0 0 [] W rfl (by omega) (Nat.le_refl _) Rd.nil_
  have HC1 := Lib.hid hc1
  have HC2 := Lib.hid hc2
  have HC3 := Lib.hid hc3
  clear hc1 hc2 hc3
  generalize fourOf [] = X at *
  go_enter Try.func7, Try.ntmps7
  go_wp2_with fail
  refine (HC1.out _).mono ?_
  rintro e w2 ⟨rfl, b2⟩
  have hx2 := Box4.new w2 23 X
  have hb3 : Below w.heap.size w (w2.alloc (.cells #[.int .u32 (wi X.a), .int .u32 (wi X.b), .int .u32 (wi X.c), .int .u32 (wi X.d)] 23)) := b2.alloc b2.size _
  have HX2 := Lib.hid hx2
  have HB3 := Lib.hid hb3
  clear b2 hx2 hb3
  go_wp2_with fail
  refine (HC2.out _).mono ?_
  rintro e w3 ⟨A3, c3, rfl, f3, b3⟩
  obtain ⟨g, rfl, hg1, hg2⟩ := f3.form (by have := f3.nc; omega)
  have hx3 := HX2.out.below b3 HX2.out.lt
  have hb4 := HB3.out.trans (below_mono b3 HB3.out.size)
  obtain ⟨c0, c1, c2, c3'⟩ := hx3.cells
  have hgx := hx3.lt
  obtain ⟨i0, i1⟩ := wi_lt X.a
  obtain ⟨i6, i7⟩ := wi_lt X.d
  have e3 : wi X.d / 16777216 % 256 = wi X.d / 16777216 := by omega
  have e4 : wi X.d / 16777216 < 256 := by omega
  have e5 : 0 ≤ wi X.d / 16777216 := by omega
  have k0 : w3.cell? ⟨g, 0, none⟩ = some (.int .u8 (wi X.a / 1 % 256)) := f3.cell_at (key_byte X 0 (by omega))
  have k15 : w3.cell? ⟨g, 15, none⟩ = some (.int .u8 (wi X.d / 16777216 % 256)) := f3.cell_at (key_byte X 15 (by omega))
  rw [e3] at k15
  rw [Int.ediv_one] at k0
  have u0 : IntKind.u8.wrap (wi X.a) = wi X.a % 256 := by simp [IntKind.wrap, IntKind.signed, IntKind.bits]
  have u3 : IntKind.u8.wrap (wi X.d / 16777216) = wi X.d / 16777216 := by
    have : IntKind.u8.wrap (wi X.d / 16777216) = wi X.d / 16777216 % 256 := by simp [IntKind.wrap, IntKind.signed, IntKind.bits]
    rw [this, e3]
  have HB4 := Lib.hid hb4
  clear hx3 f3 b3 hb4 HX2 HB3 c1 c2
  go_wp2_with fail
  have hrefl : Below w3.heap.size w3 w3 := Below.refl _ _
  have hgg : g < w3.heap.size := hg2
  go_region_held3 (fun w' => (w'.cell? ⟨w2.heap.size, 0, none⟩ = some (.int .u32 (wi X.a)) ∧ w'.cell? ⟨w2.heap.size, 3, none⟩ = some (.int .u32 (wi X.d)) ∧ w'.cell? ⟨g, 0, none⟩ = some (.int .u8 (wi X.a % 256)) ∧ w'.cell? ⟨g, 15, none⟩ = some (.int .u8 (wi X.d / 16777216))) ∧ Below w3.heap.size w3 w')
    (first
      | exact ⟨⟨c0, c3', k0, k15⟩, ⟨hrefl.os, hrefl.tape, hrefl.output, hrefl.size, hrefl.block⟩⟩
      | exact keepFour (by assumption) hbb hgx hgx hgg hgg (Nat.le_refl _)
      | assumption)
    (first
      | (go_at_call 21; refine (alive02 _).mono ?_; rintro e w' ⟨rfl, hbb⟩)
      | (go_at_call 22; refine (q0 _).mono ?_; rintro e w' ⟨rfl, hbb⟩)
      | (go_at_call 26; refine (HC3.out _).mono ?_; rintro e w' ⟨rfl, hbb⟩))
  rename_i hh
  have h := HB4.out.trans (below_mono hh.2 HB4.out.size)
  go_wp2
  go_ret
  exact ⟨rfl, h⟩
end Go.Proofs.Ytfjjkkakhfgdhaa
