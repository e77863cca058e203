/-
  The walks of layer 5's statements: alive, CipherNames, CipherTwice.
-/
import Derived.Test.YtfjjkkakhfgdhaaTurnC
import Derived.Test.YtfjjkkakhfgdhaaLaw03
import Derived.Lib.SlBytesConst
namespace Go.Proofs.Ytfjjkkakhfgdhaa
open Go.RowKit
set_option linter.unusedVariables false
set_option linter.unusedSimpArgs false
set_option maxRecDepth 100000
attribute [local go_sem] str_toList toList_mk

theorem alive05 (w : World) : Calls Try.prog 37 #[] w fun e w' => e = .returned (.bool true) ∧ Below w.heap.size w w' := by
  have hmk : ∀ W, (Instr.makeSlice 28 (.int .i64 16) (.int .i64 16)).run Try.prog W = .ok (.slice (some ⟨W.heap.size, 0, none⟩) 16 16) (W.alloc (.cells (bvs (noughts 16)).toArray 5)) := fun W => run_mkN .i64 .i64 16 (by omega) W
  have f0 := (fr_mkN w 16 (by omega) (Nat.le_refl w.heap.size)).alloc (.cells #[.int .u8 97, .int .u8 98, .int .u8 99] 5 (3, 4))
  have hnew := heap_alloc_new (w.alloc (.cells (bvs (noughts 16)).toArray 5)) (.cells #[.int .u8 97, .int .u8 98, .int .u8 99] 5 (3, 4))
  rw [World.size_alloc] at hnew
  have r1 := Rd.ofRow (n := 3) (cs := bvs [97, 98, 99]) hnew rfl
  clear hnew
  have hb0 := below_alloc (below_new w (.cells (bvs (noughts 16)).toArray 5)) (.cells #[.int .u8 97, .int .u8 98, .int .u8 99] 5 (3, 4)) (Nat.le_refl _)
  have hz : ((w.alloc (.cells (bvs (noughts 16)).toArray 5)).alloc (.cells #[.int .u8 97, .int .u8 98, .int .u8 99] 5 (3, 4))).heap.size = w.heap.size + 2 := by rw [World.size_alloc, World.size_alloc]
  have hcv := Go.Lib.run_convert_bytes_const (w.alloc (.cells (bvs (noughts 16)).toArray 5)) 28 5 #[.int .u8 97, .int .u8 98, .int .u8 99] 3 3 Try.underlying28 Try.underlying5
  rw [World.size_alloc, show (#[Value.int .u8 97, Value.int .u8 98, Value.int .u8 99] : Array Value).size = 3 from rfl] at hcv
  have F0 := Lib.hid f0
  have R1 := Lib.hid r1
  have B0 := Lib.hid hb0
  have HZ := Lib.hid hz
  clear f0 r1 hb0 hz
  go_enter Try.func37, Try.ntmps37
  go_wp2_with fail
  have hr1' := R1.out
  refine (c_turn (some ⟨w.heap.size, 0, none⟩) 16 (noughts 16) 1 (by decide) (some ⟨w.heap.size + 1, 0, none⟩) 3 3 [97, 98, 99] _ (noughts_len 16) F0.out.rd rfl (by decide) hr1').mono ?_
  rintro e w1 ⟨D, d, rfl, f1, b1⟩
  have B1 := below_to B0.out b1 B0.out.size
  have rk1 := (F0.out.rd.below b1).more b1.size
  have hlen : (turnL (noughts 16) 1 [97, 98, 99]).length = 3 := turnL_len _ _ _
  have htw : turnL (noughts 16) 1 (turnL (noughts 16) 1 [97, 98, 99]) = [97, 98, 99] := by
    unfold turnL
    rw [xorL_len, streamL_len]
    exact xorL_twice _ _ (by rw [streamL_len])
  have hr2 := f1.rd
  have HT := c_turn (some ⟨w.heap.size, 0, none⟩) 16 (noughts 16) 1 (by decide) D 3 d (turnL (noughts 16) 1 [97, 98, 99]) w1 (noughts_len 16) rk1 hlen (by decide) hr2
  rw [htw] at HT
  have HTH := Lib.hid HT
  have HB1 := Lib.hid B1
  clear HT htw hlen hr2 rk1 B1 f1 b1 hr1' F0 R1 B0 HZ hmk hcv
  go_wp2_with fail
  refine HTH.out.mono ?_
  rintro e w2 ⟨D2, d2, rfl, f2, b2⟩
  have k1 := conv f2.rd d2
  have q1 : (str [97, 98, 99] == ⟨#[97, 98, 99]⟩) = true := by decide
  go_wp2
  go_ret
  exact ⟨rfl, below_to HB1.out b2 HB1.out.size⟩

theorem cipherNames_walk (w : World) : Calls Try.prog 13 #[] w fun e w' => e = .returned (.bool true) ∧ Below w.heap.size w w' := by
  have hmk : ∀ W, (Instr.makeSlice 28 (.int .i64 16) (.int .i64 16)).run Try.prog W = .ok (.slice (some ⟨W.heap.size, 0, none⟩) 16 16) (W.alloc (.cells (bvs (noughts 16)).toArray 5)) := fun W => run_mkN .i64 .i64 16 (by omega) W
  have hmk2 : ∀ W, (Instr.makeSlice 28 (.int .i64 4097) (.int .i64 4097)).run Try.prog W = .ok (.slice (some ⟨W.heap.size, 0, none⟩) 4097 4097) (W.alloc (.cells (bvs (noughts 4097)).toArray 5)) := fun W => run_mkN .i64 .i64 4097 (by omega) W
  have f0 := fr_mkN w 16 (by omega) (Nat.le_refl w.heap.size)
  have hb0 := below_new w (.cells (bvs (noughts 16)).toArray 5)
  have F0 := Lib.hid f0
  have B0 := Lib.hid hb0
  clear f0 hb0
  go_enter Try.func13, Try.ntmps13
  go_wp2_with fail
  refine (c_stream (some ⟨w.heap.size, 0, none⟩) 16 (noughts 16) 1 0 (by decide) (by decide) _ (noughts_len 16) F0.out.rd).mono ?_
  rintro e w1 ⟨D1, d1, rfl, f1, b1⟩
  have B1 := below_to B0.out b1 B0.out.size
  clear f1 b1
  go_wp2_with fail
  refine (c_stream_h (some ⟨w.heap.size, 0, none⟩) 16 16 1 4097 _ rfl (by decide) (by decide)).mono ?_
  rintro e w2 ⟨rfl, b2⟩
  have B2 := below_to B1 b2 B1.size
  clear b2
  go_wp2_with fail
  refine (c_stream_k (some ⟨w.heap.size, 0, none⟩) 15 16 1 1 _ (by decide)).mono ?_
  rintro e w3 ⟨rfl, b3⟩
  have B3 := below_to B2 b3 B2.size
  clear b3
  go_wp2_with fail
  refine (c_turn_h (some ⟨w.heap.size, 0, none⟩) 16 16 1 (some ⟨w3.heap.size, 0, none⟩) 4097 4097 _ rfl (by decide)).mono ?_
  rintro e w4 ⟨rfl, hw4⟩
  have B4 := below_alloc B3 (.cells (bvs (noughts 4097)).toArray 5) (Nat.le_refl _)
  rw [hw4] at B4
  clear hw4 hmk hmk2
  go_wp2_with fail
  refine (alive05 w4).mono ?_
  rintro e w5 ⟨rfl, b5⟩
  go_wp2
  go_ret
  exact ⟨rfl, below_to B4 b5 B4.size⟩
end Go.Proofs.Ytfjjkkakhfgdhaa
