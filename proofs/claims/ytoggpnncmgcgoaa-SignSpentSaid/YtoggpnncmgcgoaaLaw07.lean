/-
  The walks of layer 7's statements: alive, ChainNames, ChainBack, ChainSame.
-/
import Derived.Test.YtoggpnncmgcgoaaChainF
import Derived.Lib.SlBytesConst
namespace Go.Proofs.Ytoggpnncmgcgoaa
open Go.RowKit
set_option linter.unusedVariables false
set_option linter.unusedSimpArgs false
set_option maxRecDepth 100000
attribute [local go_sem] str_toList toList_mk

theorem conv {w : World} {B n : Nat} {A : Option Addr} {l : List UInt8} (h : Rd w B 1 A n (bvs l)) (c : Nat) : (convert 22 9 (.slice A n c)).run Try.prog w = .ok (.string (str l)) w :=
  run_conv Try.underlying22 Try.underlying5 Try.underlying9 h c
theorem sigN_part (seed : List UInt8) (leaf : Nat) (ds : List Nat) (m k : Nat) (hk : k < m) : ((sigN seed leaf ds m).drop (16 * k)).take 16 = onN leaf k (firstL seed leaf k) 0 (ds.getD k 0) := by
  induction m with
  | zero => omega
  | succ m ih =>
    have hl := sigN_len seed leaf ds m
    rw [sigN]
    by_cases h : k < m
    · rw [List.drop_append_of_le_length (by omega), List.take_append_of_le_length (by rw [List.length_drop]; omega), ih h]
    · obtain rfl : k = m := by omega
      rw [List.drop_left' hl]
      exact List.take_of_length_le (by rw [onN_len (firstL_len _ _ _)]; exact Nat.le_refl _)
theorem full_at (k : Nat) (hk : k < 10) : full.getD k 0 = 15 := by
  rw [full, List.getD_eq_getElem?_getD, List.getElem?_replicate, if_pos hk]
  rfl
theorem recN_sig (seed : List UInt8) (leaf : Nat) (ds : List Nat) (hd : ∀ k, k < 10 → ds.getD k 0 ≤ 15) (k : Nat) (hk : k ≤ 10) : recN leaf (sigN seed leaf ds 10) ds k = sigN seed leaf full k := by
  induction k with
  | zero => rfl
  | succ k ih =>
    have h15 := hd k (by omega)
    have e : sigN seed leaf full (k + 1) = sigN seed leaf full k ++ onN leaf k (firstL seed leaf k) 0 (full.getD k 0) := rfl
    rw [e, recN, ih (by omega), sigN_part seed leaf ds 10 k (by omega), full_at k (by omega)]
    have := onN_add leaf k (firstL seed leaf k) 0 (ds.getD k 0) (15 - ds.getD k 0)
    rw [show ds.getD k 0 + (15 - ds.getD k 0) = 15 by omega, Nat.zero_add] at this
    rw [this]
theorem getD_le {ds : List Nat} (h10 : ds.length = 10) (h : ∀ x ∈ ds, x ≤ 15) (k : Nat) (hk : k < 10) : ds.getD k 0 ≤ 15 := by
  rw [List.getD_eq_getElem?_getD, List.getElem?_eq_getElem (by omega)]
  exact h _ (List.getElem_mem _)
theorem recL_right (seed : List UInt8) (leaf : Nat) (text : List UInt8) : recL leaf text (sigL seed leaf text) = pubL seed leaf := by
  rw [recL, sigL, recN_sig seed leaf _ (getD_le (digL_len _) (digL_le _)) 10 (Nat.le_refl _), pubL]
theorem sigL_sum (seed : List UInt8) (leaf : Nat) {a b : List UInt8} (h : sumN a = sumN b) : sigL seed leaf a = sigL seed leaf b := by rw [sigL, sigL, h]
theorem recL_sum (leaf : Nat) {a b : List UInt8} (h : sumN a = sumN b) (s : List UInt8) : recL leaf a s = recL leaf b s := by rw [recL, recL, h]

theorem c_recover_leaf (leaf : Int) (T : Option Addr) (n t : Nat) (A : Option Addr) (m c : Nat) (w : World) (h : isB leaf = false) :
    Calls Try.prog 21 #[.int .i64 leaf, .slice T n t, .slice A m c] w fun e w' => e = .returned (.tuple #[.slice none 0 0, .int .i64 2]) ∧ w = w' := by
  have hi := c_is_any leaf w
  rw [h] at hi
  have HI := Lib.hid hi
  clear hi
  go_enter Try.func21, Try.ntmps21
  go_wp2_with fail
  refine HI.out.mono ?_
  rintro e w1 ⟨rfl, rfl⟩
  go_wp2
  go_ret2
  exact ⟨rfl, rfl⟩
theorem c_recover_len (leaf : Int) (T : Option Addr) (n t : Nat) (A : Option Addr) (m c : Nat) (w : World) (h : isB leaf = true) (hm : ((m : Int) != 160) = true) :
    Calls Try.prog 21 #[.int .i64 leaf, .slice T n t, .slice A m c] w fun e w' => e = .returned (.tuple #[.slice none 0 0, .int .i64 8]) ∧ w = w' := by
  have hi := c_is_any leaf w
  rw [h] at hi
  have HI := Lib.hid hi
  clear hi
  go_enter Try.func21, Try.ntmps21
  go_wp2_with fail
  refine HI.out.mono ?_
  rintro e w1 ⟨rfl, rfl⟩
  go_wp2
  go_ret2
  exact ⟨rfl, rfl⟩

def seed16 : List UInt8 := [97, 32, 115, 101, 101, 100, 32, 111, 102, 32, 115, 105, 120, 116, 101, 101]
theorem alive07 (w : World) : Calls Try.prog 22 #[] w fun e w' => e = .returned (.bool true) ∧ Below w.heap.size w w' := by
  have hnew := heap_alloc_new w (.cells #[.int .u8 97, .int .u8 32, .int .u8 115, .int .u8 101, .int .u8 101, .int .u8 100, .int .u8 32, .int .u8 111, .int .u8 102, .int .u8 32, .int .u8 115, .int .u8 105, .int .u8 120, .int .u8 116, .int .u8 101, .int .u8 101] 5 (16, 17))
  have r1 := Rd.ofRow (n := 16) (cs := bvs seed16) hnew rfl
  have hb0 := below_new w (.cells #[.int .u8 97, .int .u8 32, .int .u8 115, .int .u8 101, .int .u8 101, .int .u8 100, .int .u8 32, .int .u8 111, .int .u8 102, .int .u8 32, .int .u8 115, .int .u8 105, .int .u8 120, .int .u8 116, .int .u8 101, .int .u8 101] 5 (16, 17))
  have hcv := Go.Lib.run_convert_bytes_const (P := Try.prog) w 22 5 #[.int .u8 97, .int .u8 32, .int .u8 115, .int .u8 101, .int .u8 101, .int .u8 100, .int .u8 32, .int .u8 111, .int .u8 102, .int .u8 32, .int .u8 115, .int .u8 105, .int .u8 120, .int .u8 116, .int .u8 101, .int .u8 101] 16 16 Try.underlying22 Try.underlying5
  rw [show (#[.int .u8 97, .int .u8 32, .int .u8 115, .int .u8 101, .int .u8 101, .int .u8 100, .int .u8 32, .int .u8 111, .int .u8 102, .int .u8 32, .int .u8 115, .int .u8 105, .int .u8 120, .int .u8 116, .int .u8 101, .int .u8 101] : Array Value).size = 16 from rfl] at hcv
  have hcv2 := fun W => Go.Lib.run_convert_bytes_const (P := Try.prog) W 22 5 #[.int .u8 97, .int .u8 98, .int .u8 99] 3 3 Try.underlying22 Try.underlying5
  rw [show (#[.int .u8 97, .int .u8 98, .int .u8 99] : Array Value).size = 3 from rfl] at hcv2
  have hrr := recL_right seed16 3 [97, 98, 99]
  have hP := fun (W : World) hr => c_public (some ⟨w.heap.size, 0, none⟩) 16 seed16 3 W rfl hr (by decide)
  have hS := fun (T : Option Addr) (W : World) hr hrt => c_sign (some ⟨w.heap.size, 0, none⟩) 16 seed16 3 T 3 3 [97, 98, 99] W rfl hr (by decide) rfl (by decide) (by decide) hrt
  have hV := fun (T : Option Addr) (A : Option Addr) (c : Nat) (W : World) hrt hc hr => c_recover 3 T 3 3 [97, 98, 99] A c (sigL seed16 3 [97, 98, 99]) W (by decide) rfl (by decide) (by decide) hrt (sigL_len _ _ _) hc hr
  rw [hrr] at hV
  have HP := Lib.hid hP
  have HS := Lib.hid hS
  have HV := Lib.hid hV
  have R1 := Lib.hid r1
  have B0 := Lib.hid hb0
  clear hP hS hV hnew r1 hb0 hrr
  generalize pubL seed16 3 = PL at *
  generalize sigL seed16 3 [97, 98, 99] = SL at *
  generalize seed16 = SD at *
  go_enter Try.func22, Try.ntmps22
  go_wp2_with fail
  refine (HP.out _ R1.out).mono ?_
  rintro e w1 ⟨D, d, rfl, f1, b1⟩
  have rs1 := (R1.out.below b1).more b1.size
  have B1 := below_to B0.out b1 B0.out.size
  have RS := Lib.hid rs1
  have HB1 := Lib.hid B1
  have HF1 := Lib.hid f1
  clear rs1 B1 f1 b1 R1
  have ra := Rd.ofRow (n := 3) (cs := bvs [97, 98, 99]) (heap_alloc_new w1 (.cells #[.int .u8 97, .int .u8 98, .int .u8 99] 5 (3, 4))) rfl
  have ba := below_new w1 (.cells #[.int .u8 97, .int .u8 98, .int .u8 99] 5 (3, 4))
  have RA := Lib.hid ra
  have BA := Lib.hid ba
  clear ra ba
  go_wp2_with fail
  refine (HS.out _ _ ((RS.out.below BA.out).more BA.out.size) RA.out).mono ?_
  rintro e w2 ⟨D2, d2, rfl, f2, b2⟩
  have ba2 := below_to BA.out b2 BA.out.size
  have HB2 := Lib.hid (below_to HB1.out ba2 HB1.out.size)
  have HF2 := Lib.hid f2
  have HF12 := Lib.hid (HF1.out.below ba2 (Nat.le_refl _))
  clear b2 f2 ba2 RA BA RS HF1
  have ra := Rd.ofRow (n := 3) (cs := bvs [97, 98, 99]) (heap_alloc_new w2 (.cells #[.int .u8 97, .int .u8 98, .int .u8 99] 5 (3, 4))) rfl
  have ba := below_new w2 (.cells #[.int .u8 97, .int .u8 98, .int .u8 99] 5 (3, 4))
  have RA := Lib.hid ra
  have BA := Lib.hid ba
  clear ra ba
  go_wp2_with fail
  refine (HV.out _ D2 d2 _ RA.out HF2.out.nc ((HF2.out.rd.below BA.out).more BA.out.size)).mono ?_
  rintro e w3 ⟨D3, d3, rfl, f3, b3⟩
  have ba3 := below_to BA.out b3 BA.out.size
  have HB3 := below_to HB2.out ba3 HB2.out.size
  have k1 := conv (HF12.out.rd.below ba3) d
  have k2 := conv f3.rd d3
  clear f3 b3 ba3 HF12 HF2 RA BA
  go_wp2
  go_ret
  exact ⟨rfl, HB3⟩

theorem run_mk (n : Nat) (hn : n ≤ 1000) : ∀ W, (Instr.makeSlice 22 (.int .i64 (n : Int)) (.int .i64 (n : Int))).run Try.prog W = .ok (.slice (some ⟨W.heap.size, 0, none⟩) n n) (W.alloc (.cells (bvs (noughts n)).toArray 5)) := fun W => run_mkN .i64 .i64 n (by omega) W
theorem chainNames_walk (w : World) : Calls Try.prog 4 #[] w fun e w' => e = .returned (.bool true) ∧ Below w.heap.size w w' := by
  have hmk15 : ∀ W, (Instr.makeSlice 22 (.int .i64 15) (.int .i64 15)).run Try.prog W = .ok (.slice (some ⟨W.heap.size, 0, none⟩) 15 15) (W.alloc (.cells (bvs (noughts 15)).toArray 5)) := run_mk 15 (by omega)
  have hmk16 : ∀ W, (Instr.makeSlice 22 (.int .i64 16) (.int .i64 16)).run Try.prog W = .ok (.slice (some ⟨W.heap.size, 0, none⟩) 16 16) (W.alloc (.cells (bvs (noughts 16)).toArray 5)) := run_mk 16 (by omega)
  have hmk159 : ∀ W, (Instr.makeSlice 22 (.int .i64 159) (.int .i64 159)).run Try.prog W = .ok (.slice (some ⟨W.heap.size, 0, none⟩) 159 159) (W.alloc (.cells (bvs (noughts 159)).toArray 5)) := run_mk 159 (by omega)
  go_enter Try.func4, Try.ntmps4
  go_wp2_with fail
  refine (c_sign_bad _ 16 16 8 none 0 0 [] _ (.inr ⟨rfl, by decide⟩) rfl (by decide) (by decide) Rd.nil_).mono ?_
  rintro e w1 ⟨rfl, b1⟩
  have B1 := below_to (below_new w _) b1 (by rw [World.size_alloc]; omega)
  clear b1
  go_wp2_with fail
  refine (c_sign_bad _ 15 15 0 none 0 0 [] _ (.inl (by decide)) rfl (by decide) (by decide) Rd.nil_).mono ?_
  rintro e w2 ⟨rfl, b2⟩
  have B2 := below_to (below_alloc B1 _ (Nat.le_refl _)) b2 (by rw [World.size_alloc]; have := B1.size; omega)
  clear b2 B1
  go_wp2_with fail
  refine (c_recover_len 0 none 0 0 _ 159 159 _ (by decide) (by decide)).mono ?_
  rintro e w3 ⟨rfl, hw3⟩
  have B3 : Below w.heap.size w w3 := by rw [← hw3]; exact below_alloc B2 _ (Nat.le_refl _)
  clear hw3 B2
  go_wp2_with fail
  refine (c_recover_leaf (-1) none 0 0 none 0 0 w3 (by decide)).mono ?_
  rintro e w4 ⟨rfl, rfl⟩
  go_wp2_with fail
  refine (alive07 w3).mono ?_
  rintro e w5 ⟨rfl, b5⟩
  go_wp2
  go_ret
  exact ⟨rfl, below_to B3 b5 B3.size⟩

/-! ### ChainBack -/
theorem cback_sb (A : Option Addr) (n c : Nat) (leaf : Int) (T : Option Addr) (m t : Nat) (w : World)
    (h : 10000 < (n : Int)) : Calls Try.prog 6 #[.slice A n c, .int .i64 leaf, .slice T m t] w fun e w' => e = .returned (.bool true) ∧ Below w.heap.size w w' := by
  go_enter Try.func6, Try.ntmps6
  go_wp2_with fail
  refine (alive07 _).mono ?_
  rintro e w1 ⟨rfl, b1⟩
  go_wp2
  go_ret
  exact ⟨rfl, b1⟩
theorem cback_tb (A : Option Addr) (n c : Nat) (leaf : Int) (T : Option Addr) (m t : Nat) (w : World)
    (h1 : decide (10000 < (n : Int)) = false)
    (h : 10000 < (m : Int)) : Calls Try.prog 6 #[.slice A n c, .int .i64 leaf, .slice T m t] w fun e w' => e = .returned (.bool true) ∧ Below w.heap.size w w' := by
  go_enter Try.func6, Try.ntmps6
  go_wp2_with fail
  refine (alive07 _).mono ?_
  rintro e w1 ⟨rfl, b1⟩
  go_wp2
  go_ret
  exact ⟨rfl, b1⟩
theorem cback_bad (A : Option Addr) (n c : Nat) (leaf : Int) (T : Option Addr) (m t : Nat) (text : List UInt8) (w : World) (h1 : decide (10000 < (n : Int)) = false) (h2 : decide (10000 < (m : Int)) = false) (h : badSeed n leaf)
    (hl : text.length = m) (hm : (m : Int) ≤ 1000000) (hnt : m ≤ t) (hrt : Rd w w.heap.size 1 T m (bvs text)) : Calls Try.prog 6 #[.slice A n c, .int .i64 leaf, .slice T m t] w fun e w' => e = .returned (.bool true) ∧ Below w.heap.size w w' := by
  have HRT := Lib.hid hrt
  clear hrt
  go_enter Try.func6, Try.ntmps6
  go_wp2_with fail
  refine (alive07 _).mono ?_
  rintro e w1 ⟨rfl, b1⟩
  go_wp2_with fail
  refine (c_public_bad A n c leaf w1 h).mono ?_
  rintro e w2 ⟨rfl, b2⟩
  have B2 := below_to b1 b2 b1.size
  clear b1 b2
  go_wp2_with fail
  refine (c_sign_bad A n c leaf T m t text w2 h hl hm hnt ((HRT.out.below B2).more B2.size)).mono ?_
  rintro e w3 ⟨rfl, b3⟩
  have B3 := below_to B2 b3 B2.size
  clear B2 b3
  go_wp2
  go_ret
  exact ⟨rfl, B3⟩
theorem cback_ok (A : Option Addr) (c : Nat) (seed : List UInt8) (leaf : Nat) (T : Option Addr) (m t : Nat) (text : List UInt8) (w : World) (h2 : decide (10000 < (m : Int)) = false) (hs : seed.length = 16) (hr : Rd w w.heap.size 1 A 16 (bvs seed)) (hlf : leaf < 8)
    (hl : text.length = m) (hm : (m : Int) ≤ 1000000) (hnt : m ≤ t) (hrt : Rd w w.heap.size 1 T m (bvs text)) : Calls Try.prog 6 #[.slice A 16 c, .int .i64 (leaf : Int), .slice T m t] w fun e w' => e = .returned (.bool true) ∧ Below w.heap.size w w' := by
  have hrr := recL_right seed leaf text
  have hP := fun (W : World) (h : Below w.heap.size w W) => c_public A c seed leaf W hs ((hr.below h).more h.size) hlf
  have hS := fun (W : World) (h : Below w.heap.size w W) => c_sign A c seed leaf T m t text W hs ((hr.below h).more h.size) hlf hl hm hnt ((hrt.below h).more h.size)
  have hV := fun (A : Option Addr) (c : Nat) (W : World) (h : Below w.heap.size w W) hc hr => c_recover leaf T m t text A c (sigL seed leaf text) W hlf hl hm hnt ((hrt.below h).more h.size) (sigL_len _ _ _) hc hr
  rw [hrr] at hV
  have HP := Lib.hid hP
  have HS := Lib.hid hS
  have HV := Lib.hid hV
  clear hP hS hV hrr hr hrt
  generalize pubL seed leaf = PL at *
  generalize sigL seed leaf text = SL at *
  go_enter Try.func6, Try.ntmps6
  go_wp2_with fail
  refine (alive07 _).mono ?_
  rintro e w1 ⟨rfl, b1⟩
  go_wp2_with fail
  refine (HP.out w1 b1).mono ?_
  rintro e w2 ⟨D2, d2, rfl, f2, b2⟩
  have B2 := below_to b1 b2 b1.size
  have HF2 := Lib.hid f2
  clear b1 b2 f2
  go_wp2_with fail
  refine (HS.out w2 B2).mono ?_
  rintro e w3 ⟨D3, d3, rfl, f3, b3⟩
  have B3 := below_to B2 b3 B2.size
  have HF23 := Lib.hid (HF2.out.below b3 (Nat.le_refl _))
  have HF3 := Lib.hid f3
  clear B2 b3 f3 HF2
  go_wp2_with fail
  refine (HV.out D3 d3 w3 B3 HF3.out.nc HF3.out.rd).mono ?_
  rintro e w4 ⟨D4, d4, rfl, f4, b4⟩
  have B4 := below_to B3 b4 B3.size
  have k1 := conv (HF23.out.rd.below b4) d2
  have k2 := conv f4.rd d4
  clear b4 f4 B3 HF23 HF3
  go_wp2
  go_ret
  exact ⟨rfl, B4⟩
theorem seed_cases (n : Nat) (leaf : Int) : badSeed n leaf ∨ (n = 16 ∧ ∃ k : Nat, k < 8 ∧ leaf = (k : Int)) := by
  by_cases hn : n = 16
  · by_cases hi : isB leaf = true
    · simp only [isB, Bool.and_eq_true, decide_eq_true_eq] at hi
      exact .inr ⟨hn, leaf.toNat, by omega, by omega⟩
    · exact .inl (.inr ⟨hn, by simpa using hi⟩)
  · exact .inl (.inl (by simp; omega))
theorem chainBack_walk (A : Option Addr) (n c : Nat) (seed : List UInt8) (leaf : Int) (T : Option Addr) (m t : Nat) (text : List UInt8) (w : World) (hs : seed.length = n) (hr : Rd w w.heap.size 1 A n (bvs seed))
    (hl : text.length = m) (hnt : m ≤ t) (hrt : Rd w w.heap.size 1 T m (bvs text)) : Calls Try.prog 6 #[.slice A n c, .int .i64 leaf, .slice T m t] w fun e w' => e = .returned (.bool true) ∧ Below w.heap.size w w' := by
  by_cases h1 : 10000 < (n : Int)
  · exact cback_sb A n c leaf T m t w h1
  by_cases h2 : 10000 < (m : Int)
  · exact cback_tb A n c leaf T m t w (by simp; omega) h2
  rcases seed_cases n leaf with hb | ⟨rfl, k, hk, rfl⟩
  · exact cback_bad A n c leaf T m t text w (by simp; omega) (by simp; omega) hb hl (by omega) hnt hrt
  · exact cback_ok A c seed k T m t text w (by simp; omega) hs hr hk hl (by omega) hnt hrt
end Go.Proofs.Ytoggpnncmgcgoaa
