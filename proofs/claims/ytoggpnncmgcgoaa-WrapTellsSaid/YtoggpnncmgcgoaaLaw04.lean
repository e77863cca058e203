/-
  The walks of layer 4's statements: what is wrapped is unwrapped; alive, WrapNames, WrapGreat.
-/
import Derived.Test.YtoggpnncmgcgoaaWrapD
import Derived.Deep.RegionLaw
import Derived.Lib.SlBytesConst
namespace Go.Proofs.Ytoggpnncmgcgoaa
open Go.RowKit
set_option linter.unusedVariables false
set_option linter.unusedSimpArgs false
set_option maxRecDepth 100000
attribute [local go_sem] str_toList toList_mk

theorem conv {w : World} {B n : Nat} {A : Option Addr} {l : List UInt8} (h : Rd w B 1 A n (bvs l)) (c : Nat) : (convert 22 9 (.slice A n c)).run Try.prog w = .ok (.string (str l)) w :=
  run_conv Try.underlying22 Try.underlying5 Try.underlying9 h c
theorem wrapL_app (p k : List UInt8) (salt : Nat) : wrapL p k salt = le 4 salt ++ (xorL k (maskL (stretchL p salt)) ++ le 4 (tagOf (stretchL p salt) (le 4 salt ++ xorL k (maskL (stretchL p salt)))).toNat) := by
  rw [wrapL, sealL, List.append_assoc]
theorem wrapL_salt (p k : List UInt8) (salt : Nat) : (wrapL p k salt).take 4 = le 4 salt := by
  rw [wrapL_app]
  exact List.take_left' (le_len 4 salt)
theorem wrapL_key (p k : List UInt8) (salt : Nat) (hk : k.length = 16) : ((wrapL p k salt).drop 4).take 16 = xorL k (maskL (stretchL p salt)) := by
  rw [wrapL_app, List.drop_left' (le_len 4 salt)]
  exact List.take_left' (by rw [xorL_len, hk])
theorem wrapL_20 (p k : List UInt8) (salt : Nat) (hk : k.length = 16) : (wrapL p k salt).take 20 = le 4 salt ++ xorL k (maskL (stretchL p salt)) := by
  rw [wrapL, sealL]
  exact List.take_left' (by rw [List.length_append, le_len, xorL_len, hk])
theorem wrapL_num (p k : List UInt8) (salt : Nat) (hs : salt < 4294967296) : num ((wrapL p k salt).take 4) = salt := by
  rw [wrapL_salt, num_le]
  exact Nat.mod_eq_of_lt hs
theorem wrapL_right (p k : List UInt8) (salt : Nat) (hs : salt < 4294967296) (hk : k.length = 16) : sealL (stretchL p (num ((wrapL p k salt).take 4))) ((wrapL p k salt).take 20) = wrapL p k salt := by
  rw [wrapL_num p k salt hs, wrapL_20 p k salt hk, wrapL]
theorem xorL_back (k m : List UInt8) (h : m.length = k.length) : xorL (xorL k m) m = k := by
  refine List.ext_getElem (by rw [xorL_len, xorL_len]) fun i h1 h2 => ?_
  rw [xorL_get _ m i (by rw [xorL_len]; exact h2) (by omega), xorL_get k m i h2 (by omega)]
  rw [UInt8.xor_assoc, UInt8.xor_self, UInt8.xor_zero]
theorem wrapL_back (p k : List UInt8) (salt : Nat) (hs : salt < 4294967296) (hk : k.length = 16) : xorL (((wrapL p k salt).drop 4).take 16) (maskL (stretchL p (num ((wrapL p k salt).take 4)))) = k := by
  rw [wrapL_num p k salt hs, wrapL_key p k salt hk, xorL_back _ _ (by rw [maskL_len, hk])]
/-- What unwraps is what its key is wrapped as. -/
theorem wrapL_of (p l : List UInt8) (hl : l.length = 24) (h : sealL (stretchL p (num (l.take 4))) (l.take 20) = l) : wrapL p (xorL ((l.drop 4).take 16) (maskL (stretchL p (num (l.take 4))))) (num (l.take 4)) = l := by
  have h4 : le 4 (num (l.take 4)) = l.take 4 := by
    have := le_num (l.take 4)
    rw [List.length_take, hl] at this
    exact this
  rw [wrapL, xorL_back _ _ (by rw [maskL_len, List.length_take, List.length_drop, hl]; rfl), h4]
  have : l.take 4 ++ (l.drop 4).take 16 = l.take 20 := (List.take_add (l := l) (i := 4) (j := 16)).symm
  rw [this, h]
theorem wrapL_inj {p a b : List UInt8} {salt : Nat} (ha : a.length = 16) (hb : b.length = 16) (hs : salt < 4294967296) (h : wrapL p a salt = wrapL p b salt) : a = b := by
  rw [← wrapL_back p a salt hs ha, ← wrapL_back p b salt hs hb, h]
theorem w_unwrap_wrapped (s : ByteArray) (B : Option Addr) (d : Nat) (k : List UInt8) (salt : Nat) (w : World) (h : s.size ≤ 64) (hs : (salt : Int) < 4294967296) (hk : k.length = 16) (hd : 24 ≤ d) (hr : Rd w w.heap.size 1 B 24 (bvs (wrapL s.data.toList k salt))) : Calls Try.prog 38 #[.string s, .slice B 24 d] w fun e w' =>
    ∃ D c, e = .returned (.tuple #[.slice D 16 c, .int .i64 0]) ∧ Fr w' w.heap.size 5 1 D 16 c (bvs k) ∧ Below w.heap.size w w' := by
  have := w_unwrap_ok s B d _ w h (wrapL_len hk) hd hr (wrapL_right _ k salt (by omega) hk)
  rwa [wrapL_back _ k salt (by omega) hk] at this

def key16 : List UInt8 := [115, 105, 120, 116, 101, 101, 110, 32, 98, 121, 116, 101, 115, 32, 111, 107]
theorem alive04 (w : World) : Calls Try.prog 39 #[] w fun e w' => e = .returned (.bool true) ∧ Below w.heap.size w w' := by
  have hnew := heap_alloc_new w (.cells #[.int .u8 115, .int .u8 105, .int .u8 120, .int .u8 116, .int .u8 101, .int .u8 101, .int .u8 110, .int .u8 32, .int .u8 98, .int .u8 121, .int .u8 116, .int .u8 101, .int .u8 115, .int .u8 32, .int .u8 111, .int .u8 107] 5 (16, 17))
  have r1 := Rd.ofRow (n := 16) (cs := bvs key16) hnew rfl
  have hb0 := below_new w (.cells #[.int .u8 115, .int .u8 105, .int .u8 120, .int .u8 116, .int .u8 101, .int .u8 101, .int .u8 110, .int .u8 32, .int .u8 98, .int .u8 121, .int .u8 116, .int .u8 101, .int .u8 115, .int .u8 32, .int .u8 111, .int .u8 107] 5 (16, 17))
  have hcv := Go.Lib.run_convert_bytes_const (P := Try.prog) w 22 5 #[.int .u8 115, .int .u8 105, .int .u8 120, .int .u8 116, .int .u8 101, .int .u8 101, .int .u8 110, .int .u8 32, .int .u8 98, .int .u8 121, .int .u8 116, .int .u8 101, .int .u8 115, .int .u8 32, .int .u8 111, .int .u8 107] 16 16 Try.underlying22 Try.underlying5
  rw [show (#[.int .u8 115, .int .u8 105, .int .u8 120, .int .u8 116, .int .u8 101, .int .u8 101, .int .u8 110, .int .u8 32, .int .u8 98, .int .u8 121, .int .u8 116, .int .u8 101, .int .u8 115, .int .u8 32, .int .u8 111, .int .u8 107] : Array Value).size = 16 from rfl] at hcv
  have h4 := wrapL_salt [112] key16 7
  have hq4 : (le 4 7 == [7, 0, 0, 0]) = true := by decide
  have hqk : (key16 == [115, 105, 120, 116, 101, 101, 110, 32, 98, 121, 116, 101, 115, 32, 111, 107]) = true := by decide
  have hW := fun (W : World) hr => w_wrap ⟨#[112]⟩ (some ⟨w.heap.size, 0, none⟩) 16 key16 7 W (by decide) (by decide) rfl (by decide) hr
  have hU := fun (D : Option Addr) (d : Nat) (W : World) hd hr => w_unwrap_wrapped ⟨#[112]⟩ D d key16 7 W (by decide) (by decide) rfl hd hr
  have HW := Lib.hid hW
  have HU := Lib.hid hU
  have R1 := Lib.hid r1
  have B0 := Lib.hid hb0
  have H4 := Lib.hid h4
  clear hW hU hnew r1 hb0 h4
  generalize hwl : wrapL [112] key16 7 = WL at *
  clear hwl
  generalize key16 = K at *
  generalize le 4 7 = S at *
  go_enter Try.func39, Try.ntmps39
  go_wp2_with fail
  refine (HW.out _ R1.out).mono ?_
  rintro e w1 ⟨D, d, rfl, f1, b1⟩
  have B1 := below_to B0.out b1 B0.out.size
  have hd := f1.nc
  have r1 := f1.rd
  clear f1 b1
  go_wp2_with fail
  refine (HU.out D d w1 hd r1).mono ?_
  rintro e w2 ⟨D2, d2, rfl, f2, b2⟩
  have B2 := below_to B1 b2 B1.size
  have r4 := (r1.below b2).take (k := 4) (by omega)
  rw [Nat.mul_one, ← bvs_take, H4.out] at r4
  have hd4 : (4 : Int) ≤ (d : Int) := by omega
  have k1 := conv f2.rd d2
  have k2 := conv r4 d
  clear f2 b2 r1 r4
  go_wp2
  go_ret
  exact ⟨rfl, B2⟩

theorem run_mk15 : ∀ W, (Instr.makeSlice 22 (.int .i64 15) (.int .i64 15)).run Try.prog W = .ok (.slice (some ⟨W.heap.size, 0, none⟩) 15 15) (W.alloc (.cells (bvs (noughts 15)).toArray 5)) := fun W => run_mkN .i64 .i64 15 (by omega) W
theorem run_mk16 : ∀ W, (Instr.makeSlice 22 (.int .i64 16) (.int .i64 16)).run Try.prog W = .ok (.slice (some ⟨W.heap.size, 0, none⟩) 16 16) (W.alloc (.cells (bvs (noughts 16)).toArray 5)) := fun W => run_mkN .i64 .i64 16 (by omega) W
theorem run_mk65 : ∀ W, (Instr.makeSlice 22 (.int .i64 65) (.int .i64 65)).run Try.prog W = .ok (.slice (some ⟨W.heap.size, 0, none⟩) 65 65) (W.alloc (.cells (bvs (noughts 65)).toArray 5)) := fun W => run_mkN .i64 .i64 65 (by omega) W
theorem wrapNames_walk (w : World) : Calls Try.prog 13 #[] w fun e w' => e = .returned (.bool true) ∧ Below w.heap.size w w' := by
  have hmk15 := run_mk15
  have hmk16 := run_mk16
  have hmk65 := run_mk65
  have f0 := fr_mkN w 16 (by omega) (Nat.le_refl w.heap.size)
  have hb0 := below_new w (.cells (bvs (noughts 16)).toArray 5)
  have hW := fun (W : World) hr => w_wrap ⟨#[112]⟩ (some ⟨w.heap.size, 0, none⟩) 16 (noughts 16) 7 W (by decide) (by decide) rfl (by decide) hr
  have F0 := Lib.hid f0
  have B0 := Lib.hid hb0
  have HW := Lib.hid hW
  clear f0 hb0 hW
  generalize wrapL (ByteArray.mk #[112]).data.toList (noughts 16) 7 = WL at *
  have hs65 : ((str (noughts 65)).size : Int) > 64 := by decide
  have HS65 := Lib.hid hs65
  clear hs65
  go_enter Try.func13, Try.ntmps13
  go_wp2_with fail
  refine (HW.out _ F0.out.rd).mono ?_
  rintro e w1 ⟨D, d, rfl, f1, b1⟩
  have B1 := below_to B0.out b1 B0.out.size
  have hd := f1.nc
  have hd23 : (23 : Int) ≤ (d : Int) := by omega
  clear f1 b1 F0
  go_wp2_with fail
  refine (w_unwrap_bad ⟨#[112]⟩ D 23 d w1 (by decide) (by decide)).mono ?_
  rintro e w2 ⟨rfl, rfl⟩
  have r65 := (fr_mkN w1 65 (by omega) (Nat.le_refl w1.heap.size)).rd
  have k65 := conv r65 65
  have B65 := below_alloc B1 (.cells (bvs (noughts 65)).toArray 5) (Nat.le_refl _)
  clear r65
  generalize hn65 : bvs (noughts 65) = N65 at *
  generalize str (noughts 65) = S65 at *
  go_wp2_with fail
  refine (w_unwrap_long S65 D 24 d _ HS65.out).mono ?_
  rintro e w3 ⟨rfl, hw3⟩
  rw [hw3] at B65
  clear hw3
  go_wp2_with fail
  refine (w_wrap_arg ⟨#[112]⟩ _ 15 15 7 _ (by decide) (by decide) (by decide)).mono ?_
  rintro e w4 ⟨rfl, b4⟩
  have B4 := below_to (below_alloc B65 _ (Nat.le_refl _)) b4 (by rw [World.size_alloc]; have := B65.size; omega)
  clear b4
  go_wp2_with fail
  refine (alive04 w4).mono ?_
  rintro e w5 ⟨rfl, b5⟩
  go_wp2
  go_ret
  exact ⟨rfl, below_to B4 b5 B4.size⟩
end Go.Proofs.Ytoggpnncmgcgoaa
