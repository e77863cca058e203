/-
  charterhouseref10: contracts of Get, Bytes, Write.
-/
import Derived.Test.YtgcagenhfddpgaaRef10a
import Derived.Test.YtgcagenhfddpgaaObjC
import Derived.Deep.RegionLaw
namespace Go.Proofs.Ytgcagenhfddpgaa
open Go.RowKit
set_option linter.unusedVariables false
set_option linter.unusedSimpArgs false
set_option maxRecDepth 100000

def GeRel (l : List UInt8) (w0 : World) (v i : Value) (wr : World) : Prop :=
  ∃ k : Nat, k ≤ l.length ∧ i = .int .i64 ((k : Int) - 1) ∧ v = .int .u32 (num (l.drop k) : Int) ∧ Below w0.heap.size w0 wr
theorem q_get (A : Option Addr) (n c : Nat) (l : List UInt8) (w : World) (hl : l.length = n) (hn : n ≤ 4) (hr : Rd w w.heap.size 1 A n (bvs l)) :
    Calls Try.prog 58 #[.slice A n c] w fun e w' => e = .returned (.int .u32 (num l : Int)) ∧ Below w.heap.size w w' := by
  go_enter Try.func58, Try.ntmps58
  go_wp2
  go_loopw [3, 4] (fun v i wr => GeRel l w v i wr) (fun _ i _ => (intOf i + 1).toNat)
  case atStart => exact ⟨n, by omega, rfl, by rw [List.drop_of_length_le (by omega)]; rfl, Below.refl _ _⟩
  case round =>
    obtain ⟨k, hk, rfl, rfl, hbel⟩ := hrel
    replace hr := hr.below hbel
    by_cases hlt : 0 < k
    · obtain ⟨j, rfl⟩ : ∃ j, k = j + 1 := ⟨k - 1, by omega⟩
      obtain ⟨b, off, rfl, _, hc⟩ := hr.2 (by omega)
      have hj : j < l.length := by omega
      have hcell : wr.cell? ⟨b, off + j, none⟩ = some (.int .u8 (l[j].toNat : Int)) := hc j _ (by rw [bvs_get, List.getElem?_eq_getElem hj]; rfl)
      have hstep : num (l.drop j) = l[j].toNat + 256 * num (l.drop (j + 1)) := by
        rw [List.drop_eq_getElem_cons hj]
        rfl
      have hlo := num_lt (l.drop (j + 1))
      rw [List.length_drop] at hlo
      have hp : 256 ^ (l.length - (j + 1)) ≤ 256 ^ 3 := Nat.pow_le_pow_right (by omega) (by omega)
      have hlt8 := (l[j]).toNat_lt
      have hstepI : ((num (l.drop j) : Nat) : Int) = 256 * (num (l.drop (j + 1)) : Int) + (l[j].toNat : Int) := by rw [hstep]; omega
      have HS := Lib.hid hstepI
      have hv1 : (num (l.drop (j + 1)) : Int) ≤ 16777215 := by omega
      have hv0 : 0 ≤ (num (l.drop (j + 1)) : Int) := by omega
      have hc0 : 0 ≤ (l[j].toNat : Int) := by omega
      have hc1 : (l[j].toNat : Int) < 256 := by omega
      clear hstep hstepI hc hlo hp hlt8
      generalize (num (l.drop (j + 1)) : Int) = V at *
      generalize (l[j].toNat : Int) = C at *
      have e1 : ((j + 1 : Nat) : Int) - 1 = (j : Int) := by omega
      rw [e1]
      clear e1
      have h0 : 0 ≤ (j : Int) := by omega
      have h1 : (j : Int) < (n : Int) := by omega
      have HB := Lib.hid hbel
      clear hbel
      go_wp2
      go_roundw
      case rel => exact ⟨j, by omega, rfl, by rw [HS.out], HB.out⟩
      case measure => simp [intOf]
    · obtain rfl : k = 0 := by omega
      go_wp2
      go_ret
      exact ⟨rfl, hbel⟩

theorem q_numberI (n : Int) (S : Nat) (h0 : 0 ≤ n) (h1 : n ≤ 4294967295) (hS : S ≤ 4) (w : World) :
    Calls Try.prog 67 #[.int .u32 n, .int .i64 (S : Int)] w fun e w' => ∃ A c, e = .returned (.slice A S c) ∧ Fr w' w.heap.size 5 1 A S c (bvs (le S n.toNat)) ∧ Below w.heap.size w w' := by
  obtain ⟨m, rfl⟩ := Int.eq_ofNat_of_zero_le h0
  exact q_number m S h1 hS w
theorem one_byte (a : Int) (h0 : 0 ≤ a) (h1 : a ≤ 255) : [Value.int .u8 (IntKind.u8.wrap a)] = bvs (le 1 a.toNat) := by
  rw [IntKind.wrap_u8]
  obtain ⟨m, rfl⟩ := Int.eq_ofNat_of_zero_le h0
  simp only [le, bvs, bv, List.map_cons, List.map_nil, Int.toNat_natCast, UInt8.toNat_ofNat']
  congr 2
set_option maxHeartbeats 2000000 in
theorem q_pbytes (p : Pt) (hm : p.May) (hu : p.U) (w : World) :
    Calls Try.prog 57 #[.agg #[.int .i64 p.a, .int .u32 p.b, .int .u32 p.i, .int .u32 p.t, .int .u32 p.s]] w fun e w' => ∃ A c, e = .returned (.slice A 16 c) ∧ Fr w' w.heap.size 5 1 A 16 c (bvs p.bytes) ∧ Below w.heap.size w w' := by
  obtain ⟨r0, r1, r2, r3⟩ := ptMay_range hm
  have HN3 := Lib.hid (fun W => q_numberI p.b 3 hu.1.1 hu.1.2 (by omega) W)
  have HNi := Lib.hid (fun W => q_numberI p.i 4 hu.2.1.1 hu.2.1.2 (by omega) W)
  have HNt := Lib.hid (fun W => q_numberI p.t 4 hu.2.2.1.1 hu.2.2.1.2 (by omega) W)
  have HNs := Lib.hid (fun W => q_numberI p.s 4 hu.2.2.2.1 hu.2.2.2.2 (by omega) W)
  have HB := Lib.hid (below_new w (.cells #[.int .i64 p.a, .int .u32 p.b, .int .u32 p.i, .int .u32 p.t, .int .u32 p.s] 31))
  have HX := Lib.hid (PtBox.new w p)
  have H1 := Lib.hid (one_byte p.a r0 r1)
  have hbs : p.bytes = le 1 p.a.toNat ++ le 3 p.b.toNat ++ le 4 p.i.toNat ++ le 4 p.t.toNat ++ le 4 p.s.toNat := by
    unfold Pt.bytes pb
    simp only [List.append_assoc]
  rw [hbs]
  clear hm hu r2 r3 hbs
  obtain ⟨d0, d1, d2, d3, d4⟩ := HX.out.cells
  obtain ⟨y0, y1, y2, y3, y4⟩ := (HX.out.alloc (.cells [Value.int .u8 (IntKind.u8.wrap p.a)].toArray 5)).cells
  generalize le 1 p.a.toNat = L1 at *
  generalize le 3 p.b.toNat = L3 at *
  generalize le 4 p.i.toNat = Li at *
  generalize le 4 p.t.toNat = Lt at *
  generalize le 4 p.s.toNat = Ls at *
  have hl1 : L1.length = 1 := by have := congrArg List.length H1.out; rw [bvs_len] at this; exact this.symm
  go_enter Try.func57, Try.ntmps57
  go_wp2_with fail
  generalize hW0 : w.alloc (.cells #[.int .i64 p.a, .int .u32 p.b, .int .u32 p.i, .int .u32 p.t, .int .u32 p.s] 31) = W0 at *
  clear hW0
  go_region_law (first
    | (go_loud (refine step_append_more rfl (.tmp 7) (.tmp 10) rfl okB (by simp [Act.eval, Act.put] <;> rfl) ((Rd.made W0 5 1 1 [Value.int .u8 (IntKind.u8.wrap p.a)] rfl).drew.belowH HB1.out (by show _ ≤ (W0.alloc _).heap.size; rw [World.size_alloc]; exact Nat.le_refl _)) (by simp [Act.eval, Act.put] <;> rfl) HF1.out.rd (by omega) 4 rfl (by unfold maxLen; omega) (by omega) (bvs (L1 ++ L3)) (by rw [bvs_app, H1.out]) ?_; intro q4 w4 f4 b4 v4; have HB0 := Lib.hid ((Below.refl W0.heap.size W0).alloc (Nat.le_refl _) (.cells [Value.int .u8 (IntKind.u8.wrap p.a)].toArray 5)).drew; have HBx := Lib.hid (below_to HB0.out HB1.out HB0.out.size); have HB4 := Lib.hid (below_to HBx.out b4.out HBx.out.size); have HF4 := Lib.hid (f4.out.mono (base' := W0.heap.size) HBx.out.size); clear f4 b4 v4 HB0 HBx HB1 HF1))
    | (go_loud (refine step_append_more rfl (.tmp 7) (.tmp 10) rfl okB (by simp [Act.eval, Act.put] <;> rfl) (Rd.made w1 5 1 1 [Value.int .u8 (IntKind.u8.wrap p.a)] rfl) (by simp [Act.eval, Act.put] <;> rfl) (HF1.out.rd.alloc (Nat.le_refl _) (.cells [Value.int .u8 (IntKind.u8.wrap p.a)].toArray 5)) (by omega) 4 rfl (by unfold maxLen; omega) (by omega) (bvs (L1 ++ L3)) (by rw [bvs_app, H1.out]) ?_; intro q4 w4 f4 b4 v4; have HB0 := Lib.hid ((Below.refl W0.heap.size W0).drew.trans HB1.out); have HBx := Lib.hid (below_alloc HB0.out (.cells [Value.int .u8 (IntKind.u8.wrap p.a)].toArray 5) (Nat.le_refl _)); have HB4 := Lib.hid (below_to HBx.out b4.out HBx.out.size); have hf4 := f4.out.mono (base' := W0.heap.size) HBx.out.size; rw [World.size_alloc] at hf4; have HF4 := Lib.hid hf4; clear hf4 f4 b4 v4 HB0 HBx HB1 HF1))
    | (go_simp; go_at_call 67; refine (HN3.out _).mono ?_; rintro e w1 ⟨A1, c1, rfl, f1, b1⟩; have HF1 := Lib.hid f1; have HB1 := Lib.hid b1; try (obtain ⟨z0, z1, z2, z3, z4⟩ := ((show PtBox W0.drew w.heap.size p from HX.out).below b1 HX.out.lt).cells); clear f1 b1))
  all_goals
    try clear z0 z1 z2 z3 z4
    clear d0 d1 d2 d3 d4 y0 y1 y2 y3 y4
    obtain ⟨m0, m1, m2, m3, m4⟩ := (HX.out.below HB4.out HX.out.lt).cells
    go_wp2_with fail
    refine (HNi.out _).mono ?_
    rintro e w5 ⟨A5, c5, rfl, f5, b5⟩
    have HF5 := Lib.hid (HF4.out.below b5 (Nat.le_refl _))
    have HB5 := Lib.hid (below_to HB4.out b5 HB4.out.size)
    have HR5 := Lib.hid f5.rd
    clear f5 b5 m0 m1 m2 m3 m4
    go_wp2_with (at_builtin; refine wpList_append_to rfl (.tmp 12) (.tmp 15) rfl okB rfl HF5.out rfl HR5.out (bvs_one _) 8 rfl (bvs (L1 ++ L3 ++ Li)) (bvs_app _ _).symm (by unfold maxLen; omega) (by omega) HB5.out.size ?_; intro D6 d6 w6 f6 g6 _; have HB6 := Lib.hid (HB5.out.grown g6 HB5.out.size (fun g hg => (HF5.out.row g hg).1)); have HF6 := Lib.hid f6; clear f6 g6; obtain ⟨m0, m1, m2, m3, m4⟩ := (HX.out.below HB6.out HX.out.lt).cells)
    refine (HNt.out _).mono ?_
    rintro e w7 ⟨A7, c7, rfl, f7, b7⟩
    have HF7 := Lib.hid (HF6.out.below b7 (Nat.le_refl _))
    have HB7 := Lib.hid (below_to HB6.out b7 HB6.out.size)
    have HR7 := Lib.hid f7.rd
    clear f7 b7 m0 m1 m2 m3 m4
    go_wp2_with (at_builtin; refine wpList_append_to rfl (.tmp 17) (.tmp 20) rfl okB rfl HF7.out rfl HR7.out (bvs_one _) 12 rfl (bvs (L1 ++ L3 ++ Li ++ Lt)) (bvs_app _ _).symm (by unfold maxLen; omega) (by omega) HB7.out.size ?_; intro D8 d8 w8 f8 g8 _; have HB8 := Lib.hid (HB7.out.grown g8 HB7.out.size (fun g hg => (HF7.out.row g hg).1)); have HF8 := Lib.hid f8; clear f8 g8; obtain ⟨m0, m1, m2, m3, m4⟩ := (HX.out.below HB8.out HX.out.lt).cells)
    refine (HNs.out _).mono ?_
    rintro e w9 ⟨A9, c9, rfl, f9, b9⟩
    have HF9 := Lib.hid (HF8.out.below b9 (Nat.le_refl _))
    have HB9 := Lib.hid (below_to HB8.out b9 HB8.out.size)
    have HR9 := Lib.hid f9.rd
    clear f9 b9 m0 m1 m2 m3 m4
    go_wp2_with (at_builtin; refine wpList_append_to rfl (.tmp 22) (.tmp 25) rfl okB rfl HF9.out rfl HR9.out (bvs_one _) 16 rfl (bvs (L1 ++ L3 ++ Li ++ Lt ++ Ls)) (bvs_app _ _).symm (by unfold maxLen; omega) (by omega) HB9.out.size ?_; intro D10 d10 w10 f10 g10 _; have HB10 := Lib.hid (HB9.out.grown g10 HB9.out.size (fun g hg => (HF9.out.row g hg).1)); have HF10 := Lib.hid f10; clear f10 g10)
    go_wp2
    go_ret
    exact ⟨_, _, rfl, HF10.out.mono HB.out.size, below_to HB.out HB10.out HB.out.size⟩
end Go.Proofs.Ytgcagenhfddpgaa
