/-
  charterhouseref02: contracts of Turn, byteAt, word, Four, Sum, Key.
-/
import Derived.Test.YtfjjkkakhfgdhaaRef02
import Derived.Test.YtfjjkkakhfgdhaaMac
namespace Go.Proofs.Ytfjjkkakhfgdhaa
open Go.RowKit
set_option linter.unusedVariables false
set_option linter.unusedSimpArgs false
set_option maxRecDepth 100000

theorem r_turn (x : W4) (w : World) : Calls Try.prog 30 #[.agg #[.int .u32 (wi x.a), .int .u32 (wi x.b), .int .u32 (wi x.c), .int .u32 (wi x.d)]] w fun e w' =>
    e = .returned (.agg #[.int .u32 (wi (turn x).a), .int .u32 (wi (turn x).b), .int .u32 (wi (turn x).c), .int .u32 (wi (turn x).d)]) ∧ Below w.heap.size w w' := by
  have hxor := xor_w
  have hb0 := below_alloc (below_new w (.cells #[.int .u32 (wi x.a), .int .u32 (wi x.b), .int .u32 (wi x.c), .int .u32 (wi x.d)] 23)) (.cells #[.int .u32 0, .int .u32 0, .int .u32 0, .int .u32 0] 23) (Nat.le_refl _)
  have hrs := Box4.new (w.alloc (.cells #[.int .u32 (wi x.a), .int .u32 (wi x.b), .int .u32 (wi x.c), .int .u32 (wi x.d)] 23)) 23 ⟨0, 0, 0, 0⟩
  change Box4 ((w.alloc (.cells #[.int .u32 (wi x.a), .int .u32 (wi x.b), .int .u32 (wi x.c), .int .u32 (wi x.d)] 23)).alloc (.cells #[.int .u32 0, .int .u32 0, .int .u32 0, .int .u32 0] 23)) _ 23 ⟨0, 0, 0, 0⟩ at hrs
  rw [World.size_alloc] at hrs
  have HX := Lib.hid hrs
  have HB := Lib.hid hb0
  clear hrs hb0
  go_enter Try.func30, Try.ntmps30
  go_wp2_with fail
  refine (r_plus x.a x.b _).mono ?_
  rintro e w1 ⟨rfl, hw1⟩
  rw [hw1] at HX HB
  clear hw1
  generalize ha1 : x.a + x.b = a1
  go_wp2_with fail
  refine (r_left (x.d ^^^ a1) 15 (by omega) w1).mono ?_
  rintro e w2 ⟨rfl, rfl⟩
  generalize hd1 : rl 15 (x.d ^^^ a1) = d1
  go_wp2_with fail
  refine (r_plus x.c d1 w1).mono ?_
  rintro e w2 ⟨rfl, rfl⟩
  generalize hc1 : x.c + d1 = c1
  go_wp2_with fail
  refine (r_left (x.b ^^^ c1) 11 (by omega) w1).mono ?_
  rintro e w2 ⟨rfl, rfl⟩
  generalize hb1 : rl 11 (x.b ^^^ c1) = b1
  go_wp2_with fail
  refine (r_plus a1 b1 w1).mono ?_
  rintro e w2 ⟨rfl, rfl⟩
  generalize ha2 : a1 + b1 = a2
  go_wp2_with fail
  refine (r_left (d1 ^^^ a2) 9 (by omega) w1).mono ?_
  rintro e w2 ⟨rfl, rfl⟩
  generalize hd2 : rl 9 (d1 ^^^ a2) = d2
  go_wp2_with fail
  refine (r_plus c1 d2 w1).mono ?_
  rintro e w2 ⟨rfl, rfl⟩
  generalize hc2 : c1 + d2 = c2
  go_wp2_with fail
  refine (r_left (b1 ^^^ c2) 6 (by omega) w1).mono ?_
  rintro e w2 ⟨rfl, rfl⟩
  generalize hb2 : rl 6 (b1 ^^^ c2) = b2
  have htt : turn x = ⟨a2, b2, c2, d2⟩ := by
    subst hb2 hc2 hd2 ha2 hb1 hc1 hd1 ha1
    rfl
  have HTT := Lib.hid htt
  clear htt hb2 hc2 hd2 ha2 hb1 hc1 hd1 ha1 hxor
  have hs1 := HX.out
  obtain ⟨q0, q1, q2, q3⟩ := hs1.cells
  have fz := hs1.frozen
  obtain ⟨e0, e1, e2, e3⟩ := hs1.four (.int .u32 (wi a2)) (.int .u32 (wi b2)) (.int .u32 (wi c2)) (.int .u32 (wi d2))
  clear hs1
  go_wp2
  refine bodyPost_ret (v := .agg #[.int .u32 (wi a2), .int .u32 (wi b2), .int .u32 (wi c2), .int .u32 (wi d2)]) (by simp [results, Try.results30, go_sem, e0, e1, e2, e3]) rfl ⟨by rw [HTT.out], ?_⟩
  exact below_four HB.out (by omega) _ _ _ _
end Go.Proofs.Ytfjjkkakhfgdhaa
