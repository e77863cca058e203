/-
  charterhouseref02: contracts of byteAt, word, Four, Sum.
-/
import Derived.Test.YtfjjkkakhfgdhaaRef02T
import Derived.Deep.RegionWith
namespace Go.Proofs.Ytfjjkkakhfgdhaa
open Go.RowKit
set_option linter.unusedVariables false
set_option linter.unusedSimpArgs false
set_option maxRecDepth 100000

theorem Rd.byteR {w : World} {B n k : Nat} {A : Option Addr} {l : List UInt8} (h : Rd w B 1 A n (bvs l)) (hl : l.length = n) (hk : k < n) : ∃ b off, A = some ⟨b, off, none⟩ ∧ b < B ∧ w.cell? ⟨b, off + k, none⟩ = some (.int .u8 ((l[k]'(by omega)).toNat : Int)) := by
  obtain ⟨b, off, u, rfl, hb, hu, hc⟩ := h.at_ hk
  refine ⟨b, off, rfl, hb, ?_⟩
  rw [hc, ← hu, bvs_get, List.getElem?_eq_getElem (by omega)]
  rfl
theorem byteB_in (l : List UInt8) {i : Nat} (h : i < l.length) : (padded l).getD i 0 = l[i] := by
  rw [padded, List.append_assoc, List.getD_eq_getElem?_getD, List.getElem?_append_left h, List.getElem?_eq_getElem h]
  rfl
theorem byteB_one (l : List UInt8) : (padded l).getD l.length 0 = 1 := by
  rw [padded, List.append_assoc, List.getD_eq_getElem?_getD, List.getElem?_append_right (Nat.le_refl _), Nat.sub_self]
  rfl
theorem byteB_out (l : List UInt8) {i : Nat} (h : l.length < i) : (padded l).getD i 0 = 0 := by
  rw [padded, List.append_assoc, List.getD_eq_getElem?_getD, List.getElem?_append_right (by omega), List.getElem?_append_right (by simp; omega), List.getElem?_replicate]
  split <;> rfl
theorem take4_getD (l : List UInt8) (k : Nat) (h : k + 4 ≤ l.length) : (l.drop k).take 4 = [l.getD k 0, l.getD (k + 1) 0, l.getD (k + 2) 0, l.getD (k + 3) 0] := by
  apply List.ext_getElem (by simp; omega)
  intro j h1 h2
  have hj : j < 4 := by simpa using h2
  simp only [List.getElem_take, List.getElem_drop]
  rcases (show j = 0 ∨ j = 1 ∨ j = 2 ∨ j = 3 by omega) with rfl | rfl | rfl | rfl <;>
    simp [List.getD_eq_getElem?_getD, List.getElem?_eq_getElem, show k < l.length by omega, show k + 1 < l.length by omega, show k + 2 < l.length by omega, show k + 3 < l.length by omega]
theorem r_byteAt (A : Option Addr) (n c : Nat) (l : List UInt8) (i : Nat) (w : World) (hl : l.length = n) (hr : Rd w w.heap.size 1 A n (bvs l)) :
    Calls Try.prog 72 #[.slice A n c, .int .i64 (i : Int)] w fun e w' => e = .returned (.int .u32 (((padded l).getD i 0).toNat : Int)) ∧ w = w' := by
  rcases Nat.lt_trichotomy i n with h | h | h
  · rw [byteB_in l (by omega)]
    obtain ⟨b, o, rfl, hb, hc⟩ := hr.byteR hl h
    have h0 : ¬ ((i : Int) < 0) := by omega
    have h1 : (i : Int) < (n : Int) := by omega
    generalize (l[i]'(by omega)) = x at *
    have hx := x.toNat_lt
    have hw : (x.toNat : Int) % 4294967296 = (x.toNat : Int) := by omega
    go_enter Try.func72, Try.ntmps72
    go_wp2
    go_ret
    first | exact ⟨rfl, rfl⟩ | exact ⟨by rw [hw], rfl⟩
  · subst h
    subst hl
    rw [byteB_one]
    go_enter Try.func72, Try.ntmps72
    go_wp2
    go_ret
    exact ⟨rfl, rfl⟩
  · rw [byteB_out l (by omega)]
    have h1 : ¬ (i : Int) < (n : Int) := by omega
    have h2 : ((i : Int) == (n : Int)) = false := by simp; omega
    go_enter Try.func72, Try.ntmps72
    go_wp2
    go_ret
    exact ⟨rfl, rfl⟩
theorem r_word (A : Option Addr) (n c : Nat) (l : List UInt8) (at_ : Nat) (w : World) (hl : l.length = n) (hn : n ≤ 1000000) (ha : at_ + 4 ≤ (padded l).length) (hr : Rd w w.heap.size 1 A n (bvs l)) :
    Calls Try.prog 49 #[.slice A n c, .int .i64 (at_ : Int)] w fun e w' => e = .returned (.int .u32 (wi (word ((padded l).drop at_)))) ∧ w = w' := by
  have hB := fun i => r_byteAt A n c l i w hl hr
  have ha9 : at_ ≤ 2000000 := by rw [padded_len] at ha; omega
  have hv : wi (word ((padded l).drop at_)) = (((padded l).getD at_ 0).toNat : Int) + 256 * (((padded l).getD (at_ + 1) 0).toNat : Int) + 65536 * (((padded l).getD (at_ + 2) 0).toNat : Int) + 16777216 * (((padded l).getD (at_ + 3) 0).toNat : Int) := by
    rw [wi_word, take4_getD _ _ ha]
    simp only [num]
    omega
  have hb0 := hB at_
  have hb1 := hB (at_ + 1)
  have hb2 := hB (at_ + 2)
  have hb3 := hB (at_ + 3)
  rw [show ((at_ + 1 : Nat) : Int) = (at_ : Int) + 1 from by omega] at hb1
  rw [show ((at_ + 2 : Nat) : Int) = (at_ : Int) + 2 from by omega] at hb2
  rw [show ((at_ + 3 : Nat) : Int) = (at_ : Int) + 3 from by omega] at hb3
  have HV := Lib.hid hv
  have HB0 := Lib.hid hb0
  have HB1 := Lib.hid hb1
  have HB2 := Lib.hid hb2
  have HB3 := Lib.hid hb3
  clear hb0 hb1 hb2 hb3 hB hv hr
  have y0 := ((padded l).getD at_ 0).toNat_lt
  have y1 := ((padded l).getD (at_ + 1) 0).toNat_lt
  have y2 := ((padded l).getD (at_ + 2) 0).toNat_lt
  have y3 := ((padded l).getD (at_ + 3) 0).toNat_lt
  generalize ((padded l).getD at_ 0).toNat = x0 at *
  generalize ((padded l).getD (at_ + 1) 0).toNat = x1 at *
  generalize ((padded l).getD (at_ + 2) 0).toNat = x2 at *
  generalize ((padded l).getD (at_ + 3) 0).toNat = x3 at *
  go_enter Try.func49, Try.ntmps49
  go_wp2_with fail
  refine HB0.out.mono ?_
  rintro e w1 ⟨rfl, rfl⟩
  go_wp2_with fail
  refine HB1.out.mono ?_
  rintro e w1 ⟨rfl, rfl⟩
  go_wp2_with fail
  refine HB2.out.mono ?_
  rintro e w1 ⟨rfl, rfl⟩
  go_wp2_with fail
  refine HB3.out.mono ?_
  rintro e w1 ⟨rfl, rfl⟩
  go_wp2
  go_ret
  exact ⟨by rw [HV.out]; rfl, rfl⟩
/-! ### Four -/
theorem Box4.setA {w : World} {g : Nat} {t : TypeId} {x : W4} (h : Box4 w g t x) (v : Wd) : Box4 (w.setCell ⟨g, 0, none⟩ (.int .u32 (wi v))) g t ⟨v, x.b, x.c, x.d⟩ := Box4.set h 0 _
theorem Box4.setB {w : World} {g : Nat} {t : TypeId} {x : W4} (h : Box4 w g t x) (v : Wd) : Box4 (w.setCell ⟨g, 1, none⟩ (.int .u32 (wi v))) g t ⟨x.a, v, x.c, x.d⟩ := Box4.set h 1 _
theorem Box4.setC {w : World} {g : Nat} {t : TypeId} {x : W4} (h : Box4 w g t x) (v : Wd) : Box4 (w.setCell ⟨g, 2, none⟩ (.int .u32 (wi v))) g t ⟨x.a, x.b, v, x.d⟩ := Box4.set h 2 _
theorem Box4.other {w : World} {g : Nat} {t : TypeId} {x : W4} (h : Box4 w g t x) {p : Addr} (hp : p.block ≠ g) (v : Value) : Box4 (w.setCell p v) g t x := (Below.heap_setCell _ _ _ _ (by simpa using fun e => hp e.symm)).trans h
theorem often4 (x : W4) : turn (turn (turn (turn x))) = often 4 x := rfl
theorem often8 (x : W4) : often 4 (often 4 x) = often 8 x := rfl
theorem step_eq (l : List UInt8) (i : Nat) (x : W4) : step (((padded l).drop (8 * i)).take 8) x = often 4 ⟨x.a ^^^ word ((padded l).drop (8 * i)), x.b, x.c ^^^ word ((padded l).drop (8 * i + 4)), x.d⟩ := by
  have e1 : word (((padded l).drop (8 * i)).take 8) = word ((padded l).drop (8 * i)) := by
    unfold word
    rw [List.take_take]
    rfl
  have e2 : word ((((padded l).drop (8 * i)).take 8).drop 4) = word ((padded l).drop (8 * i + 4)) := by
    rw [List.drop_take, List.drop_drop]
    exact word_take _
  rw [step, e1, e2]
theorem fourOf_eq (l : List UInt8) : fourOf l = often 8 ⟨(mixed (padded l) ((l.length + 8) / 8)).a, (mixed (padded l) ((l.length + 8) / 8)).b ^^^ BitVec.ofNat 32 l.length, (mixed (padded l) ((l.length + 8) / 8)).c, (mixed (padded l) ((l.length + 8) / 8)).d⟩ := rfl
def FoRel (l : List UInt8) (n : Nat) (w : World) (at_ : Value) (wr : World) : Prop :=
  ∃ i : Nat, i ≤ (n + 8) / 8 ∧ at_ = .int .i64 ((8 * i : Nat) : Int) ∧ Box4 wr (w.heap.size + 1) 23 (mixed (padded l) i) ∧ Box4 wr w.heap.size 23 ⟨0, 0, 0, 0⟩ ∧ Below w.heap.size w wr
set_option maxHeartbeats 4000000 in
theorem r_four (A : Option Addr) (n c : Nat) (l : List UInt8) (w : World) (hl : l.length = n) (hn : n ≤ 1000000) (hr : Rd w w.heap.size 1 A n (bvs l)) :
    Calls Try.prog 27 #[.slice A n c] w fun e w' => e = .returned (.agg #[.int .u32 (wi (fourOf l).a), .int .u32 (wi (fourOf l).b), .int .u32 (wi (fourOf l).c), .int .u32 (wi (fourOf l).d)]) ∧ Below w.heap.size w w' := by
  have hxor := xor_w
  have hr0 := Box4.new w 23 ⟨0, 0, 0, 0⟩
  have hr1 := Box4.new (w.alloc (.cells #[.int .u32 0, .int .u32 0, .int .u32 0, .int .u32 0] 23)) 23 ⟨1, 2, 3, 4⟩
  rw [World.size_alloc] at hr1
  have hr00 := hr0.alloc (.cells #[.int .u32 1, .int .u32 2, .int .u32 3, .int .u32 4] 23)
  have hb0 := below_alloc (below_new w (.cells #[.int .u32 0, .int .u32 0, .int .u32 0, .int .u32 0] 23)) (.cells #[.int .u32 1, .int .u32 2, .int .u32 3, .int .u32 4] 23) (Nat.le_refl _)
  have hW := fun at_ W (ha : at_ + 4 ≤ (padded l).length) (h : Below w.heap.size w W) => r_word A n c l at_ W hl hn ha ((hr.below h).more h.size)
  have hpl := padded_len l
  rw [hl] at hpl
  have HR0 := Lib.hid hr00
  have HR1 := Lib.hid hr1
  have HB0 := Lib.hid hb0
  have HW := Lib.hid hW
  clear hr0 hr1 hb0 hr00 hW hr
  go_enter Try.func27, Try.ntmps27
  go_wp2
  go_loopw [4] (fun at_ wr => FoRel l n w at_ wr) (fun at_ _ => n + 8 - (intOf at_).toNat)
  case atStart => exact ⟨0, Nat.zero_le _, rfl, HR1.out, HR0.out, HB0.out⟩
  case round =>
    obtain ⟨i, hi, rfl, hq, hz, hb⟩ := hrel
    by_cases hlt : i < (n + 8) / 8
    · have h1 : ((8 * i : Nat) : Int) ≤ (n : Int) := by omega
      have hw1 := HW.out (8 * i) wr.drew (by rw [hpl]; omega) hb.drew
      have hstep := step_eq l i (mixed (padded l) i)
      have hmix : mixed (padded l) (i + 1) = step (((padded l).drop (8 * i)).take 8) (mixed (padded l) i) := rfl
      rw [hstep] at hmix
      have HW1 := Lib.hid hw1
      have HM := Lib.hid hmix
      have HQ := Lib.hid hq
      have HZ := Lib.hid hz
      have HB := Lib.hid hb
      obtain ⟨q0, q1, q2, q3⟩ := hq.cells
      have fz := hq.frozen
      clear hw1 hmix hstep hq hz hb
      generalize mixed (padded l) i = x at *
      generalize hE : 8 * i = E at *
      have hcast : ((E + 4 : Nat) : Int) = (E : Int) + 4 := by omega
      have hwE : IntKind.i64.wrap ((E : Int) + 4) = (E : Int) + 4 := by rw [IntKind.wrap_i64]; omega
      have hwE8 : IntKind.i64.wrap ((E : Int) + 8) = (E : Int) + 8 := by rw [IntKind.wrap_i64]; omega
      go_wp2_with fail
      go_region_with (go_at_call 49; refine (HW1.out).mono ?_; rintro e w' ⟨rfl, rfl⟩)
      all_goals
        generalize hv : x.a ^^^ word ((padded l).drop E) = v at *
        have hq1 : Box4 (wr.setCell ⟨w.heap.size + 1, 0, none⟩ (.int .u32 (wi v))).drew (w.heap.size + 1) 23 ⟨v, x.b, x.c, x.d⟩ := HQ.out.setA v
        have hz1 : Box4 (wr.setCell ⟨w.heap.size + 1, 0, none⟩ (.int .u32 (wi v))).drew w.heap.size 23 ⟨0, 0, 0, 0⟩ := HZ.out.other (p := ⟨w.heap.size + 1, 0, none⟩) (by simp) _
        have hb1 : Below w.heap.size w (wr.setCell ⟨w.heap.size + 1, 0, none⟩ (.int .u32 (wi v))).drew := (HB.out.setCell (p := ⟨w.heap.size + 1, 0, none⟩) (by simp) _).drew
        generalize (wr.setCell ⟨w.heap.size + 1, 0, none⟩ (.int .u32 (wi v))).drew = W1 at *
        have hw2 := HW.out (E + 4) W1.drew (by rw [hpl]; omega) hb1.drew
        rw [hcast] at hw2
        have HW2 := Lib.hid hw2
        have HQ1 := Lib.hid hq1
        have HZ1 := Lib.hid hz1
        have HB1 := Lib.hid hb1
        obtain ⟨q0, q1, q2, q3⟩ := hq1.cells
        have fz := hq1.frozen
        clear hw2 hq1 hz1 hb1 HW1 HQ HZ HB
        go_wp2_with fail
        go_region_with (go_at_call 49; refine (HW2.out).mono ?_; rintro e w' ⟨rfl, rfl⟩)
        all_goals
          generalize hv2 : x.c ^^^ word ((padded l).drop (E + 4)) = v2 at *
          have hq1 : Box4 (W1.setCell ⟨w.heap.size + 1, 2, none⟩ (.int .u32 (wi v2))).drew (w.heap.size + 1) 23 ⟨v, x.b, v2, x.d⟩ := HQ1.out.setC v2
          have hz1 : Box4 (W1.setCell ⟨w.heap.size + 1, 2, none⟩ (.int .u32 (wi v2))).drew w.heap.size 23 ⟨0, 0, 0, 0⟩ := HZ1.out.other (p := ⟨w.heap.size + 1, 2, none⟩) (by simp) _
          have hb1 : Below w.heap.size w (W1.setCell ⟨w.heap.size + 1, 2, none⟩ (.int .u32 (wi v2))).drew := (HB1.out.setCell (p := ⟨w.heap.size + 1, 2, none⟩) (by simp) _).drew
          generalize (W1.setCell ⟨w.heap.size + 1, 2, none⟩ (.int .u32 (wi v2))).drew = W2 at *
          have HQ2 := Lib.hid hq1
          have HZ2 := Lib.hid hz1
          have HB2 := Lib.hid hb1
          obtain ⟨q0, q1, q2, q3⟩ := hq1.cells
          clear hq1 hz1 hb1 HW2 HQ1 HZ1 HB1 fz
          go_wp2_with fail
          refine (r_turn ⟨v, x.b, v2, x.d⟩ W2).mono ?_
          rintro e w3 ⟨rfl, b3⟩
          generalize ht1 : turn ⟨v, x.b, v2, x.d⟩ = y1
          go_wp2_with fail
          refine (r_turn y1 w3).mono ?_
          rintro e w4 ⟨rfl, b4⟩
          generalize ht2 : turn y1 = y2
          go_wp2_with fail
          refine (r_turn y2 w4).mono ?_
          rintro e w5 ⟨rfl, b5⟩
          generalize ht3 : turn y2 = y3
          go_wp2_with fail
          refine (r_turn y3 w5).mono ?_
          rintro e w6 ⟨rfl, b6⟩
          generalize ht4 : turn y3 = y4
          have hy4 : mixed (padded l) (i + 1) = y4 := by
            rw [HM.out, ← ht4, ← ht3, ← ht2, ← ht1, often4]
          have b26 := below_to (below_to (below_to b3 b4 b3.size) b5 (Nat.le_trans b3.size b4.size)) b6 (Nat.le_trans b3.size (Nat.le_trans b4.size b5.size))
          have hq6 := HQ2.out.below b26 HQ2.out.lt
          have hz6 := HZ2.out.below b26 HZ2.out.lt
          have HQ6 := Lib.hid hq6
          have HZ6 := Lib.hid hz6
          have HB6 := Lib.hid (below_to HB2.out b26 HB2.out.size)
          have HY4 := Lib.hid hy4
          obtain ⟨q0, q1, q2, q3⟩ := hq6.cells
          have fz := hq6.frozen
          clear ht1 ht2 ht3 ht4 hy4 b26 hq6 hz6 b3 b4 b5 b6 HQ2 HZ2 HB2
          go_wp2
          go_roundw
          case rel =>
            refine ⟨i + 1, by omega, by rw [← hE]; simp; omega, ?_, ?_, ?_⟩
            · rw [HY4.out]
              exact HQ6.out.put y4
            · exact HZ6.out.far (by omega) _ _ _ _
            · exact below_four HB6.out (by omega) _ _ _ _
          case measure => simp [intOf]; omega
    · obtain rfl : i = (n + 8) / 8 := by omega
      have h1 : ¬ ((8 * ((n + 8) / 8) : Nat) : Int) ≤ (n : Int) := by omega
      have hx2 : bits .xor .u32 (wi (mixed (padded l) ((n + 8) / 8)).b) (n : Int) = wi ((mixed (padded l) ((n + 8) / 8)).b ^^^ BitVec.ofNat 32 n) := by
        rw [← xor_w]
        congr 1
        unfold wi
        rw [BitVec.toNat_ofNat]
        omega
      have hfo := fourOf_eq l
      rw [hl] at hfo
      have HFO := Lib.hid hfo
      have hwn : (n : Int) % 4294967296 = (n : Int) := by omega
      have HQ := Lib.hid hq
      have HZ := Lib.hid hz
      have HB := Lib.hid hb
      obtain ⟨q0, q1, q2, q3⟩ := hq.cells
      have fz := hq.frozen
      clear hq hz hb hfo
      generalize mixed (padded l) ((n + 8) / 8) = x at *
      generalize BitVec.ofNat 32 n = N at *
      generalize hv : x.b ^^^ N = v at *
      generalize 8 * ((n + 8) / 8) = E at *
      go_wp2_with fail
      have hq1 : Box4 (wr.setCell ⟨w.heap.size + 1, 1, none⟩ (.int .u32 (wi v))) (w.heap.size + 1) 23 ⟨x.a, v, x.c, x.d⟩ := HQ.out.setB v
      have hz1 : Box4 (wr.setCell ⟨w.heap.size + 1, 1, none⟩ (.int .u32 (wi v))) w.heap.size 23 ⟨0, 0, 0, 0⟩ := HZ.out.other (p := ⟨w.heap.size + 1, 1, none⟩) (by simp) _
      have hb1 : Below w.heap.size w (wr.setCell ⟨w.heap.size + 1, 1, none⟩ (.int .u32 (wi v))) := HB.out.setCell (p := ⟨w.heap.size + 1, 1, none⟩) (by simp) _
      generalize (wr.setCell ⟨w.heap.size + 1, 1, none⟩ (.int .u32 (wi v))) = W2 at *
      have HQ2 := Lib.hid hq1
      have HZ2 := Lib.hid hz1
      have HB2 := Lib.hid hb1
      clear hq1 hz1 hb1 HQ HZ HB fz q0 q1 q2 q3
      refine (r_turn ⟨x.a, v, x.c, x.d⟩ W2).mono ?_
      rintro e w3 ⟨rfl, b3⟩
      generalize ht1 : turn ⟨x.a, v, x.c, x.d⟩ = y1
      go_wp2_with fail
      refine (r_turn y1 w3).mono ?_
      rintro e w4 ⟨rfl, b4⟩
      generalize ht2 : turn y1 = y2
      go_wp2_with fail
      refine (r_turn y2 w4).mono ?_
      rintro e w5 ⟨rfl, b5⟩
      generalize ht3 : turn y2 = y3
      go_wp2_with fail
      refine (r_turn y3 w5).mono ?_
      rintro e w6 ⟨rfl, b6⟩
      generalize ht4 : turn y3 = y4
      have hy4 : often 4 ⟨x.a, v, x.c, x.d⟩ = y4 := by rw [← ht4, ← ht3, ← ht2, ← ht1, often4]
      have b26 := below_to (below_to (below_to b3 b4 b3.size) b5 (Nat.le_trans b3.size b4.size)) b6 (Nat.le_trans b3.size (Nat.le_trans b4.size b5.size))
      have hq6 := HQ2.out.below b26 HQ2.out.lt
      have hz6 := HZ2.out.below b26 HZ2.out.lt
      have HQ6 := Lib.hid hq6
      have HZ6 := Lib.hid hz6
      have HB6 := Lib.hid (below_to HB2.out b26 HB2.out.size)
      have HY4 := Lib.hid hy4
      obtain ⟨q0, q1, q2, q3⟩ := hq6.cells
      have fz := hq6.frozen
      clear ht1 ht2 ht3 ht4 hy4 b26 hq6 hz6 b3 b4 b5 b6 HQ2 HZ2 HB2
      go_wp2_with fail
      have hz7 := HZ6.out.far (b := w.heap.size + 1) (by omega) (.int .u32 (wi y4.a)) (.int .u32 (wi y4.b)) (.int .u32 (wi y4.c)) (.int .u32 (wi y4.d))
      have hb7 := below_four HB6.out (b := w.heap.size + 1) (by omega) (.int .u32 (wi y4.a)) (.int .u32 (wi y4.b)) (.int .u32 (wi y4.c)) (.int .u32 (wi y4.d))
      generalize ((((w6.setCell ⟨w.heap.size + 1, 0, none⟩ (.int .u32 (wi y4.a))).setCell ⟨w.heap.size + 1, 1, none⟩ (.int .u32 (wi y4.b))).setCell ⟨w.heap.size + 1, 2, none⟩ (.int .u32 (wi y4.c))).setCell ⟨w.heap.size + 1, 3, none⟩ (.int .u32 (wi y4.d))) = W7 at *
      have HZ7 := Lib.hid hz7
      have HB7 := Lib.hid hb7
      clear hz7 hb7 HQ6 HZ6 HB6 q0 q1 q2 q3 fz
      refine (r_turn y4 W7).mono ?_
      rintro e w3 ⟨rfl, b3⟩
      generalize ht1 : turn y4 = y5
      go_wp2_with fail
      refine (r_turn y5 w3).mono ?_
      rintro e w4 ⟨rfl, b4⟩
      generalize ht2 : turn y5 = y6
      go_wp2_with fail
      refine (r_turn y6 w4).mono ?_
      rintro e w5 ⟨rfl, b5⟩
      generalize ht3 : turn y6 = y7
      go_wp2_with fail
      refine (r_turn y7 w5).mono ?_
      rintro e w8 ⟨rfl, b6⟩
      generalize ht4 : turn y7 = y8
      have hy8 : fourOf l = y8 := by rw [HFO.out, ← often8, HY4.out, ← often4, ht1, ht2, ht3, ht4]
      have b26 := below_to (below_to (below_to b3 b4 b3.size) b5 (Nat.le_trans b3.size b4.size)) b6 (Nat.le_trans b3.size (Nat.le_trans b4.size b5.size))
      have hz8 := HZ7.out.below b26 HZ7.out.lt
      have HB8 := Lib.hid (below_to HB7.out b26 HB7.out.size)
      obtain ⟨q0, q1, q2, q3⟩ := hz8.cells
      have fz := hz8.frozen
      obtain ⟨e0, e1, e2, e3⟩ := hz8.four (.int .u32 (wi y8.a)) (.int .u32 (wi y8.b)) (.int .u32 (wi y8.c)) (.int .u32 (wi y8.d))
      clear ht1 ht2 ht3 ht4 b26 hz8 b3 b4 b5 b6 HZ7 HB7
      go_wp2
      refine bodyPost_ret (v := .agg #[.int .u32 (wi y8.a), .int .u32 (wi y8.b), .int .u32 (wi y8.c), .int .u32 (wi y8.d)]) (by simp [results, Try.results27, go_sem, e0, e1, e2, e3]) rfl ⟨by rw [hy8], ?_⟩
      exact below_four HB8.out (Nat.le_refl _) _ _ _ _
theorem r_sum (A : Option Addr) (n c : Nat) (l : List UInt8) (w : World) (hl : l.length = n) (hn : n ≤ 1000000) (hr : Rd w w.heap.size 1 A n (bvs l)) :
    Calls Try.prog 28 #[.slice A n c] w fun e w' => e = .returned (.int .u32 (wi (fourOf l).a)) ∧ Below w.heap.size w w' := by
  have hc := r_four A n c l w hl hn hr
  have HC := Lib.hid hc
  clear hc hr
  have hix := fun W => (run_index_four W (wi (fourOf l).a) (wi (fourOf l).b) (wi (fourOf l).c) (wi (fourOf l).d)).1
  go_enter Try.func28, Try.ntmps28
  go_wp2_with fail
  refine HC.out.mono ?_
  rintro e w1 ⟨rfl, b1⟩
  have HB := Lib.hid b1
  clear b1
  go_wp2
  go_ret
  exact ⟨rfl, HB.out⟩
end Go.Proofs.Ytfjjkkakhfgdhaa
