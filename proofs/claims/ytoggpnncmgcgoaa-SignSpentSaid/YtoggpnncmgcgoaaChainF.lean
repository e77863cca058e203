/-
  Contracts of package chain: Public, Sign, Recover.
-/
import Derived.Test.YtoggpnncmgcgoaaChainE
import Derived.Test.YtoggpnncmgcgoaaChainD
namespace Go.Proofs.Ytoggpnncmgcgoaa
open Go.RowKit
set_option linter.unusedVariables false
set_option linter.unusedSimpArgs false
set_option maxRecDepth 100000

theorem c_signed_len (A : Option Addr) (n c : Nat) (leaf : Int) (D : Option Addr) (m d : Nat) (w : World) (h : ((n : Int) != 16) = true) :
    Calls Try.prog 48 #[.slice A n c, .int .i64 leaf, .slice D m d] w fun e w' => e = .returned (.tuple #[.slice none 0 0, .int .i64 2]) ∧ w = w' := by
  go_enter Try.func48, Try.ntmps48
  go_wp2_with fail
  go_ret2
  exact ⟨rfl, rfl⟩
theorem c_signed_leaf (A : Option Addr) (c : Nat) (leaf : Int) (D : Option Addr) (m d : Nat) (w : World) (h : isB leaf = false) :
    Calls Try.prog 48 #[.slice A 16 c, .int .i64 leaf, .slice D m d] w fun e w' => e = .returned (.tuple #[.slice none 0 0, .int .i64 2]) ∧ w = w' := by
  have hi := c_is_any leaf w
  rw [h] at hi
  have HI := Lib.hid hi
  clear hi
  go_enter Try.func48, Try.ntmps48
  go_wp2_with fail
  refine HI.out.mono ?_
  rintro e w1 ⟨rfl, rfl⟩
  go_wp2_with fail
  go_ret2
  exact ⟨rfl, rfl⟩
/-- What stands for: no seed, or no leaf. -/
def badSeed (n : Nat) (leaf : Int) : Prop := ((n : Int) != 16) = true ∨ (n = 16 ∧ isB leaf = false)
theorem c_signed_bad (A : Option Addr) (n c : Nat) (leaf : Int) (D : Option Addr) (m d : Nat) (w : World) (h : badSeed n leaf) :
    Calls Try.prog 48 #[.slice A n c, .int .i64 leaf, .slice D m d] w fun e w' => e = .returned (.tuple #[.slice none 0 0, .int .i64 2]) ∧ w = w' := by
  rcases h with h | ⟨rfl, h⟩
  · exact c_signed_len A n c leaf D m d w h
  · exact c_signed_leaf A c leaf D m d w h

/-! ### Public -/
def full : List Nat := List.replicate 10 15
theorem full_le : ∀ x ∈ full, x ≤ 15 := fun x h => by rw [List.eq_of_mem_replicate h]; exact Nat.le_refl _
def pubL (seed : List UInt8) (leaf : Nat) : List UInt8 := lastL leaf (sigN seed leaf full 10)
theorem pubL_len (seed : List UInt8) (leaf : Nat) : (pubL seed leaf).length = 16 := keyB_len _
theorem c_public (A : Option Addr) (c : Nat) (seed : List UInt8) (leaf : Nat) (w : World) (hs : seed.length = 16) (hr : Rd w w.heap.size 1 A 16 (bvs seed)) (hlf : leaf < 8) :
    Calls Try.prog 23 #[.slice A 16 c, .int .i64 (leaf : Int)] w fun e w' => ∃ A' c', e = .returned (.tuple #[.slice A' 16 c', .int .i64 0]) ∧ Fr w' w.heap.size 5 1 A' 16 c' (bvs (pubL seed leaf)) ∧ Below w.heap.size w w' := by
  have hx := heap_alloc_new w (.cells #[.int .i64 15] 3)
  have hb := below_new w (.cells #[.int .i64 15] 3)
  have hc : (w.alloc (.cells #[.int .i64 15] 3)).cell? ⟨w.heap.size, 0, none⟩ = some (.int .i64 15) := by
    rw [cell_of_row _ _ 0 _ _ _ hx]
    rfl
  have hrep := r_repeat w.heap.size 0 1 _ hc (by rw [World.size_alloc]; omega)
  have HREP := Lib.hid hrep
  have HB := Lib.hid hb
  have HR := Lib.hid hr
  clear hx hb hc hrep hr
  go_enter Try.func23, Try.ntmps23
  go_wp2_with fail
  refine HREP.out.mono ?_
  rintro e w1 ⟨D1, d1, rfl, f1, b1⟩
  have hb1 := below_to HB.out b1 HB.out.size
  have HF1 := Lib.hid f1
  have HB1 := Lib.hid hb1
  clear f1 b1 hb1
  go_wp2_with fail
  refine (c_signed A c seed leaf D1 d1 full w1 hs ((HR.out.below HB1.out).more HB1.out.size) hlf rfl full_le HF1.out.rd).mono ?_
  rintro e w2 ⟨A2, c2, rfl, f2, b2⟩
  have hb2 := below_to HB1.out b2 HB1.out.size
  have HF2 := Lib.hid (f2.mono (base' := w.heap.size) HB1.out.size)
  have HB2 := Lib.hid hb2
  clear f2 b2 hb2
  go_wp2_with fail
  refine (c_key leaf A2 160 c2 _ w.heap.size w2 (sigN_len _ _ _ _) (by decide) HB2.out.size HF2.out).mono ?_
  rintro e w3 ⟨A3, c3, rfl, f3, b3⟩
  have hb3 := HB2.out.trans b3
  clear b3
  go_wp2
  go_ret2
  exact ⟨_, _, rfl, f3, hb3⟩
theorem c_public_bad (A : Option Addr) (n c : Nat) (leaf : Int) (w : World) (h : badSeed n leaf) :
    Calls Try.prog 23 #[.slice A n c, .int .i64 leaf] w fun e w' => e = .returned (.tuple #[.slice none 0 0, .int .i64 2]) ∧ Below w.heap.size w w' := by
  have hx := heap_alloc_new w (.cells #[.int .i64 15] 3)
  have hb := below_new w (.cells #[.int .i64 15] 3)
  have hc : (w.alloc (.cells #[.int .i64 15] 3)).cell? ⟨w.heap.size, 0, none⟩ = some (.int .i64 15) := by
    rw [cell_of_row _ _ 0 _ _ _ hx]
    rfl
  have hrep := r_repeat w.heap.size 0 1 _ hc (by rw [World.size_alloc]; omega)
  have HREP := Lib.hid hrep
  have HB := Lib.hid hb
  clear hx hb hc hrep
  go_enter Try.func23, Try.ntmps23
  go_wp2_with fail
  refine HREP.out.mono ?_
  rintro e w1 ⟨D1, d1, rfl, f1, b1⟩
  have hb1 := below_to HB.out b1 HB.out.size
  clear f1 b1
  go_wp2_with fail
  refine (c_signed_bad A n c leaf D1 10 d1 w1 h).mono ?_
  rintro e w2 ⟨rfl, rfl⟩
  go_wp2
  go_ret2
  exact ⟨rfl, hb1⟩

/-! ### Sign -/
def sigL (seed : List UInt8) (leaf : Nat) (text : List UInt8) : List UInt8 := sigN seed leaf (digL (sumN text)) 10
theorem sigL_len (seed : List UInt8) (leaf : Nat) (text : List UInt8) : (sigL seed leaf text).length = 160 := sigN_len _ _ _ _
theorem c_sign (A : Option Addr) (c : Nat) (seed : List UInt8) (leaf : Nat) (T : Option Addr) (n t : Nat) (text : List UInt8) (w : World) (hs : seed.length = 16) (hr : Rd w w.heap.size 1 A 16 (bvs seed)) (hlf : leaf < 8)
    (hl : text.length = n) (hn : (n : Int) ≤ 1000000) (hnt : n ≤ t) (hrt : Rd w w.heap.size 1 T n (bvs text)) :
    Calls Try.prog 20 #[.slice A 16 c, .int .i64 (leaf : Int), .slice T n t] w fun e w' => ∃ A' c', e = .returned (.tuple #[.slice A' 160 c', .int .i64 0]) ∧ Fr w' w.heap.size 5 1 A' 160 c' (bvs (sigL seed leaf text)) ∧ Below w.heap.size w w' := by
  have hdg := c_digits T n t text w hl hn hnt hrt
  have HDG := Lib.hid hdg
  have HR := Lib.hid hr
  clear hdg hr
  go_enter Try.func20, Try.ntmps20
  go_wp2_with fail
  refine HDG.out.mono ?_
  rintro e w1 ⟨D1, d1, rfl, f1, b1⟩
  have HF1 := Lib.hid f1
  have HB1 := Lib.hid b1
  clear f1 b1
  go_wp2_with fail
  refine (c_signed A c seed leaf D1 d1 _ w1 hs ((HR.out.below HB1.out).more HB1.out.size) hlf (digL_len _) (digL_le _) HF1.out.rd).mono ?_
  rintro e w2 ⟨A2, c2, rfl, f2, b2⟩
  have hb2 := below_to HB1.out b2 HB1.out.size
  have hf2 := f2.mono (base' := w.heap.size) HB1.out.size
  clear f2 b2
  go_wp2
  go_ret2
  exact ⟨_, _, rfl, hf2, hb2⟩
theorem c_sign_bad (A : Option Addr) (m c : Nat) (leaf : Int) (T : Option Addr) (n t : Nat) (text : List UInt8) (w : World) (h : badSeed m leaf)
    (hl : text.length = n) (hn : (n : Int) ≤ 1000000) (hnt : n ≤ t) (hrt : Rd w w.heap.size 1 T n (bvs text)) :
    Calls Try.prog 20 #[.slice A m c, .int .i64 leaf, .slice T n t] w fun e w' => e = .returned (.tuple #[.slice none 0 0, .int .i64 2]) ∧ Below w.heap.size w w' := by
  have hdg := c_digits T n t text w hl hn hnt hrt
  have HDG := Lib.hid hdg
  clear hdg
  go_enter Try.func20, Try.ntmps20
  go_wp2_with fail
  refine HDG.out.mono ?_
  rintro e w1 ⟨D1, d1, rfl, f1, b1⟩
  clear f1
  go_wp2_with fail
  refine (c_signed_bad A m c leaf D1 10 d1 w1 h).mono ?_
  rintro e w2 ⟨rfl, rfl⟩
  go_wp2
  go_ret2
  exact ⟨rfl, b1⟩

/-! ### Recover -/
def recN (leaf : Nat) (sig : List UInt8) (ds : List Nat) : Nat → List UInt8
  | 0 => []
  | k + 1 => recN leaf sig ds k ++ onN leaf k ((sig.drop (16 * k)).take 16) (ds.getD k 0) (15 - ds.getD k 0)
theorem part_len {sig : List UInt8} {k : Nat} (hs : sig.length = 160) (hk : k < 10) : ((sig.drop (16 * k)).take 16).length = 16 := by
  rw [List.length_take, List.length_drop]
  omega
theorem recN_len {leaf : Nat} {sig : List UInt8} {ds : List Nat} (hs : sig.length = 160) (k : Nat) (hk : k ≤ 10) : (recN leaf sig ds k).length = 16 * k := by
  induction k with
  | zero => rfl
  | succ k ih =>
    rw [recN, List.length_append, ih (by omega), onN_len (part_len hs (by omega))]
    omega
def recL (leaf : Nat) (text sig : List UInt8) : List UInt8 := lastL leaf (recN leaf sig (digL (sumN text)) 10)
theorem recL_len (leaf : Nat) (text sig : List UInt8) : (recL leaf text sig).length = 16 := keyB_len _
def RecRel (leaf : Nat) (sig : List UInt8) (ds : List Nat) (w : World) (out i : Value) (wr : World) : Prop :=
  ∃ k A c, k ≤ 10 ∧ i = .int .i64 (k : Nat) ∧ out = .slice A (16 * k) c ∧ Fr wr w.heap.size 5 1 A (16 * k) c (bvs (recN leaf sig ds k)) ∧ Below w.heap.size w wr
set_option maxHeartbeats 8000000 in
theorem c_recover (leaf : Nat) (T : Option Addr) (n t : Nat) (text : List UInt8) (A : Option Addr) (c : Nat) (sig : List UInt8) (w : World) (hlf : leaf < 8) (hl : text.length = n) (hn : (n : Int) ≤ 1000000) (hnt : n ≤ t) (hrt : Rd w w.heap.size 1 T n (bvs text))
    (hs : sig.length = 160) (hc : 160 ≤ c) (hr : Rd w w.heap.size 1 A 160 (bvs sig)) :
    Calls Try.prog 21 #[.int .i64 (leaf : Int), .slice T n t, .slice A 160 c] w fun e w' => ∃ A' c', e = .returned (.tuple #[.slice A' 16 c', .int .i64 0]) ∧ Fr w' w.heap.size 5 1 A' 16 c' (bvs (recL leaf text sig)) ∧ Below w.heap.size w w' := by
  have hi16 : (Try.prog.info? 75).map (·.size) = some 16 := by kernel_rfl
  have hdg := c_digits T n t text w hl hn hnt hrt
  have hd10 := digL_len (sumN text)
  have hd15 := digL_le (sumN text)
  have hrec : lastL leaf (recN leaf sig (digL (sumN text)) 10) = recL leaf text sig := rfl
  have HREC := Lib.hid hrec
  have HI := Lib.hid hi16
  have HDG := Lib.hid hdg
  have HR := Lib.hid hr
  have H15 := Lib.hid hd15
  obtain ⟨g, o, rfl, hg, -⟩ := hr.2 (by omega)
  clear hi16 hdg hr hd15 hrec hrt hl hn hnt
  generalize recL leaf text sig = RL at *
  generalize digL (sumN text) = ds at *
  go_enter Try.func21, Try.ntmps21
  go_wp2_with fail
  refine (c_is (leaf : Int) _ (by omega) (by omega)).mono ?_
  rintro e w1 ⟨rfl, rfl⟩
  go_wp2_with fail
  refine HDG.out.mono ?_
  rintro e w1 ⟨D1, d1, rfl, f1, b1⟩
  have HF1 := Lib.hid f1
  have HB1 := Lib.hid b1
  clear f1 b1 HDG
  go_wp2
  go_loopw [9, 25] (fun out i wr => RecRel leaf sig ds w1 out i wr) (fun _ i _ => 10 - (intOf i).toNat)
  case atStart => exact ⟨0, none, 0, by omega, rfl, rfl, Fr.none_, Below.refl _ _⟩
  case round =>
    obtain ⟨k, A3, c3, hk, rfl, rfl, hf, hb⟩ := hrel
    by_cases hlt : k < 10
    · obtain ⟨g1, o1, rfl, hg1, hcell⟩ := ((HF1.out.rd.below hb).num hlt)
      have hx15 : ds.getD k 0 ≤ 15 := by
        rw [List.getD_eq_getElem?_getD, List.getElem?_eq_getElem (by omega)]
        exact H15.out _ (List.getElem_mem _)
      have hnext : recN leaf sig ds (k + 1) = recN leaf sig ds k ++ onN leaf k ((sig.drop (16 * k)).take 16) (ds.getD k 0) (15 - ds.getD k 0) := rfl
      have hpl := part_len hs hlt
      have hir : (Try.prog.info? 75).map (·.size) = some (bvs ((sig.drop (16 * k)).take 16)).length := by rw [bvs_len, hpl]; exact HI.out
      have hrg := (HR.out.below (below_to HB1.out hb HB1.out.size)).range (16 * k) 16
      have har := run_arrayAt_slice (P := Try.prog) Try.underlying75 (some ⟨g, o + 16 * k, none⟩) 16 (c - 16 * k) (by omega)
      have HRG := Lib.hid hrg
      have HIR := Lib.hid hir
      have HPL := Lib.hid hpl
      have HNEXT := Lib.hid hnext
      have HF := Lib.hid hf
      have HB := Lib.hid hb
      have H15k := Lib.hid hx15
      clear hnext hf hb hx15 hrg hpl hir
      generalize ds.getD k 0 = x at *
      generalize (sig.drop (16 * k)).take 16 = v at *
      have hcc : 160 ≤ (c : Int) := by omega
      rcases (show k = 0 ∨ k = 1 ∨ k = 2 ∨ k = 3 ∨ k = 4 ∨ k = 5 ∨ k = 6 ∨ k = 7 ∨ k = 8 ∨ k = 9 by omega) with rfl | rfl | rfl | rfl | rfl | rfl | rfl | rfl | rfl | rfl
      · have hc0 : ¬ c = 0 := by omega
        have hc1 : (0 : Int) ≤ (c : Int) := by omega
        have hc2 : (16 : Int) ≤ ((c - 0 : Nat) : Int) := by omega
        simp only [Nat.reduceMul, Nat.reduceAdd, Nat.add_zero, Nat.sub_zero] at har HRG HF HNEXT hcell
        have hol := onN_len (leaf := leaf) (place := 0) (f := x) HPL.out (15 - x)
        have HOL := Lib.hid hol
        clear hol
        go_wp2_with (first
          | (refine wpList_load_mid rfl 75 (.tmp 35) rfl g _ rfl (bvs v) _ HRG.out Try.underlying75 rfl HIR.out ?_))
        refine (c_on leaf 0 v x 15 wr H15k.out (by decide) HPL.out).mono ?_
        rintro e w3 ⟨rfl, b3⟩
        have f3 := (HF.out.below b3 (Nat.le_refl _)).alloc (.cells (bvs (onN leaf 0 v x (15 - x))).toArray 75)
        have B3 := below_alloc (below_to HB.out b3 HB.out.size) (.cells (bvs (onN leaf 0 v x (15 - x))).toArray 75) (Nat.le_refl _)
        have hxr := heap_alloc_new w3 (.cells (bvs (onN leaf 0 v x (15 - x))).toArray 75)
        have rx := Rd.ofRow (n := 16) hxr (by rw [bvs_len, HOL.out])
        have HF3 := Lib.hid f3
        have HB3 := Lib.hid B3
        have HRX := Lib.hid rx
        clear b3 f3 B3 hxr rx HF HB HRG HIR har
        generalize onN leaf 0 v x (15 - x) = L at *
        go_wp2_with (first
          | (refine wpList_store_new rfl 75 (.tmp 12) (.tmp 41) rfl _ L rfl rfl (by rw [HOL.out]; exact HI.out) (by rw [HOL.out]; rfl) ?_)
          | (at_builtin; go_loud (refine wpList_append_to rfl (.tmp 42) (.tmp 43) rfl okB rfl HF3.out rfl HRX.out (bvs_one _) (16 * (0 + 1)) (by omega) (bvs (recN leaf sig ds (0 + 1))) (by rw [HNEXT.out, bvs_app]) (by unfold maxLen; omega) (by omega) HB3.out.size ?_; intro D6 d6 w6 f6 g6 _)))
        have b6 := HB3.out.grown g6 HB3.out.size (fun g hg => (HF3.out.row g hg).1)
        clear g6
        go_roundw
        case rel => exact ⟨0 + 1, _, _, by omega, by simp, rfl, f6, b6⟩
        case measure => simp [intOf]
      · have hc0 : ¬ c = 16 := by omega
        have hc1 : (16 : Int) ≤ (c : Int) := by omega
        have hc2 : (16 : Int) ≤ ((c - 16 : Nat) : Int) := by omega
        simp only [Nat.reduceMul, Nat.reduceAdd, Nat.add_zero, Nat.sub_zero] at har HRG HF HNEXT hcell
        have hol := onN_len (leaf := leaf) (place := 1) (f := x) HPL.out (15 - x)
        have HOL := Lib.hid hol
        clear hol
        go_wp2_with (first
          | (refine wpList_load_mid rfl 75 (.tmp 35) rfl g _ rfl (bvs v) _ HRG.out Try.underlying75 rfl HIR.out ?_))
        refine (c_on leaf 1 v x 15 wr H15k.out (by decide) HPL.out).mono ?_
        rintro e w3 ⟨rfl, b3⟩
        have f3 := (HF.out.below b3 (Nat.le_refl _)).alloc (.cells (bvs (onN leaf 1 v x (15 - x))).toArray 75)
        have B3 := below_alloc (below_to HB.out b3 HB.out.size) (.cells (bvs (onN leaf 1 v x (15 - x))).toArray 75) (Nat.le_refl _)
        have hxr := heap_alloc_new w3 (.cells (bvs (onN leaf 1 v x (15 - x))).toArray 75)
        have rx := Rd.ofRow (n := 16) hxr (by rw [bvs_len, HOL.out])
        have HF3 := Lib.hid f3
        have HB3 := Lib.hid B3
        have HRX := Lib.hid rx
        clear b3 f3 B3 hxr rx HF HB HRG HIR har
        generalize onN leaf 1 v x (15 - x) = L at *
        go_wp2_with (first
          | (refine wpList_store_new rfl 75 (.tmp 12) (.tmp 41) rfl _ L rfl rfl (by rw [HOL.out]; exact HI.out) (by rw [HOL.out]; rfl) ?_)
          | (at_builtin; go_loud (refine wpList_append_to rfl (.tmp 42) (.tmp 43) rfl okB rfl HF3.out rfl HRX.out (bvs_one _) (16 * (1 + 1)) (by omega) (bvs (recN leaf sig ds (1 + 1))) (by rw [HNEXT.out, bvs_app]) (by unfold maxLen; omega) (by omega) HB3.out.size ?_; intro D6 d6 w6 f6 g6 _)))
        have b6 := HB3.out.grown g6 HB3.out.size (fun g hg => (HF3.out.row g hg).1)
        clear g6
        go_roundw
        case rel => exact ⟨1 + 1, _, _, by omega, by simp, rfl, f6, b6⟩
        case measure => simp [intOf]
      · have hc0 : ¬ c = 32 := by omega
        have hc1 : (32 : Int) ≤ (c : Int) := by omega
        have hc2 : (16 : Int) ≤ ((c - 32 : Nat) : Int) := by omega
        simp only [Nat.reduceMul, Nat.reduceAdd, Nat.add_zero, Nat.sub_zero] at har HRG HF HNEXT hcell
        have hol := onN_len (leaf := leaf) (place := 2) (f := x) HPL.out (15 - x)
        have HOL := Lib.hid hol
        clear hol
        go_wp2_with (first
          | (refine wpList_load_mid rfl 75 (.tmp 35) rfl g _ rfl (bvs v) _ HRG.out Try.underlying75 rfl HIR.out ?_))
        refine (c_on leaf 2 v x 15 wr H15k.out (by decide) HPL.out).mono ?_
        rintro e w3 ⟨rfl, b3⟩
        have f3 := (HF.out.below b3 (Nat.le_refl _)).alloc (.cells (bvs (onN leaf 2 v x (15 - x))).toArray 75)
        have B3 := below_alloc (below_to HB.out b3 HB.out.size) (.cells (bvs (onN leaf 2 v x (15 - x))).toArray 75) (Nat.le_refl _)
        have hxr := heap_alloc_new w3 (.cells (bvs (onN leaf 2 v x (15 - x))).toArray 75)
        have rx := Rd.ofRow (n := 16) hxr (by rw [bvs_len, HOL.out])
        have HF3 := Lib.hid f3
        have HB3 := Lib.hid B3
        have HRX := Lib.hid rx
        clear b3 f3 B3 hxr rx HF HB HRG HIR har
        generalize onN leaf 2 v x (15 - x) = L at *
        go_wp2_with (first
          | (refine wpList_store_new rfl 75 (.tmp 12) (.tmp 41) rfl _ L rfl rfl (by rw [HOL.out]; exact HI.out) (by rw [HOL.out]; rfl) ?_)
          | (at_builtin; go_loud (refine wpList_append_to rfl (.tmp 42) (.tmp 43) rfl okB rfl HF3.out rfl HRX.out (bvs_one _) (16 * (2 + 1)) (by omega) (bvs (recN leaf sig ds (2 + 1))) (by rw [HNEXT.out, bvs_app]) (by unfold maxLen; omega) (by omega) HB3.out.size ?_; intro D6 d6 w6 f6 g6 _)))
        have b6 := HB3.out.grown g6 HB3.out.size (fun g hg => (HF3.out.row g hg).1)
        clear g6
        go_roundw
        case rel => exact ⟨2 + 1, _, _, by omega, by simp, rfl, f6, b6⟩
        case measure => simp [intOf]
      · have hc0 : ¬ c = 48 := by omega
        have hc1 : (48 : Int) ≤ (c : Int) := by omega
        have hc2 : (16 : Int) ≤ ((c - 48 : Nat) : Int) := by omega
        simp only [Nat.reduceMul, Nat.reduceAdd, Nat.add_zero, Nat.sub_zero] at har HRG HF HNEXT hcell
        have hol := onN_len (leaf := leaf) (place := 3) (f := x) HPL.out (15 - x)
        have HOL := Lib.hid hol
        clear hol
        go_wp2_with (first
          | (refine wpList_load_mid rfl 75 (.tmp 35) rfl g _ rfl (bvs v) _ HRG.out Try.underlying75 rfl HIR.out ?_))
        refine (c_on leaf 3 v x 15 wr H15k.out (by decide) HPL.out).mono ?_
        rintro e w3 ⟨rfl, b3⟩
        have f3 := (HF.out.below b3 (Nat.le_refl _)).alloc (.cells (bvs (onN leaf 3 v x (15 - x))).toArray 75)
        have B3 := below_alloc (below_to HB.out b3 HB.out.size) (.cells (bvs (onN leaf 3 v x (15 - x))).toArray 75) (Nat.le_refl _)
        have hxr := heap_alloc_new w3 (.cells (bvs (onN leaf 3 v x (15 - x))).toArray 75)
        have rx := Rd.ofRow (n := 16) hxr (by rw [bvs_len, HOL.out])
        have HF3 := Lib.hid f3
        have HB3 := Lib.hid B3
        have HRX := Lib.hid rx
        clear b3 f3 B3 hxr rx HF HB HRG HIR har
        generalize onN leaf 3 v x (15 - x) = L at *
        go_wp2_with (first
          | (refine wpList_store_new rfl 75 (.tmp 12) (.tmp 41) rfl _ L rfl rfl (by rw [HOL.out]; exact HI.out) (by rw [HOL.out]; rfl) ?_)
          | (at_builtin; go_loud (refine wpList_append_to rfl (.tmp 42) (.tmp 43) rfl okB rfl HF3.out rfl HRX.out (bvs_one _) (16 * (3 + 1)) (by omega) (bvs (recN leaf sig ds (3 + 1))) (by rw [HNEXT.out, bvs_app]) (by unfold maxLen; omega) (by omega) HB3.out.size ?_; intro D6 d6 w6 f6 g6 _)))
        have b6 := HB3.out.grown g6 HB3.out.size (fun g hg => (HF3.out.row g hg).1)
        clear g6
        go_roundw
        case rel => exact ⟨3 + 1, _, _, by omega, by simp, rfl, f6, b6⟩
        case measure => simp [intOf]
      · have hc0 : ¬ c = 64 := by omega
        have hc1 : (64 : Int) ≤ (c : Int) := by omega
        have hc2 : (16 : Int) ≤ ((c - 64 : Nat) : Int) := by omega
        simp only [Nat.reduceMul, Nat.reduceAdd, Nat.add_zero, Nat.sub_zero] at har HRG HF HNEXT hcell
        have hol := onN_len (leaf := leaf) (place := 4) (f := x) HPL.out (15 - x)
        have HOL := Lib.hid hol
        clear hol
        go_wp2_with (first
          | (refine wpList_load_mid rfl 75 (.tmp 35) rfl g _ rfl (bvs v) _ HRG.out Try.underlying75 rfl HIR.out ?_))
        refine (c_on leaf 4 v x 15 wr H15k.out (by decide) HPL.out).mono ?_
        rintro e w3 ⟨rfl, b3⟩
        have f3 := (HF.out.below b3 (Nat.le_refl _)).alloc (.cells (bvs (onN leaf 4 v x (15 - x))).toArray 75)
        have B3 := below_alloc (below_to HB.out b3 HB.out.size) (.cells (bvs (onN leaf 4 v x (15 - x))).toArray 75) (Nat.le_refl _)
        have hxr := heap_alloc_new w3 (.cells (bvs (onN leaf 4 v x (15 - x))).toArray 75)
        have rx := Rd.ofRow (n := 16) hxr (by rw [bvs_len, HOL.out])
        have HF3 := Lib.hid f3
        have HB3 := Lib.hid B3
        have HRX := Lib.hid rx
        clear b3 f3 B3 hxr rx HF HB HRG HIR har
        generalize onN leaf 4 v x (15 - x) = L at *
        go_wp2_with (first
          | (refine wpList_store_new rfl 75 (.tmp 12) (.tmp 41) rfl _ L rfl rfl (by rw [HOL.out]; exact HI.out) (by rw [HOL.out]; rfl) ?_)
          | (at_builtin; go_loud (refine wpList_append_to rfl (.tmp 42) (.tmp 43) rfl okB rfl HF3.out rfl HRX.out (bvs_one _) (16 * (4 + 1)) (by omega) (bvs (recN leaf sig ds (4 + 1))) (by rw [HNEXT.out, bvs_app]) (by unfold maxLen; omega) (by omega) HB3.out.size ?_; intro D6 d6 w6 f6 g6 _)))
        have b6 := HB3.out.grown g6 HB3.out.size (fun g hg => (HF3.out.row g hg).1)
        clear g6
        go_roundw
        case rel => exact ⟨4 + 1, _, _, by omega, by simp, rfl, f6, b6⟩
        case measure => simp [intOf]
      · have hc0 : ¬ c = 80 := by omega
        have hc1 : (80 : Int) ≤ (c : Int) := by omega
        have hc2 : (16 : Int) ≤ ((c - 80 : Nat) : Int) := by omega
        simp only [Nat.reduceMul, Nat.reduceAdd, Nat.add_zero, Nat.sub_zero] at har HRG HF HNEXT hcell
        have hol := onN_len (leaf := leaf) (place := 5) (f := x) HPL.out (15 - x)
        have HOL := Lib.hid hol
        clear hol
        go_wp2_with (first
          | (refine wpList_load_mid rfl 75 (.tmp 35) rfl g _ rfl (bvs v) _ HRG.out Try.underlying75 rfl HIR.out ?_))
        refine (c_on leaf 5 v x 15 wr H15k.out (by decide) HPL.out).mono ?_
        rintro e w3 ⟨rfl, b3⟩
        have f3 := (HF.out.below b3 (Nat.le_refl _)).alloc (.cells (bvs (onN leaf 5 v x (15 - x))).toArray 75)
        have B3 := below_alloc (below_to HB.out b3 HB.out.size) (.cells (bvs (onN leaf 5 v x (15 - x))).toArray 75) (Nat.le_refl _)
        have hxr := heap_alloc_new w3 (.cells (bvs (onN leaf 5 v x (15 - x))).toArray 75)
        have rx := Rd.ofRow (n := 16) hxr (by rw [bvs_len, HOL.out])
        have HF3 := Lib.hid f3
        have HB3 := Lib.hid B3
        have HRX := Lib.hid rx
        clear b3 f3 B3 hxr rx HF HB HRG HIR har
        generalize onN leaf 5 v x (15 - x) = L at *
        go_wp2_with (first
          | (refine wpList_store_new rfl 75 (.tmp 12) (.tmp 41) rfl _ L rfl rfl (by rw [HOL.out]; exact HI.out) (by rw [HOL.out]; rfl) ?_)
          | (at_builtin; go_loud (refine wpList_append_to rfl (.tmp 42) (.tmp 43) rfl okB rfl HF3.out rfl HRX.out (bvs_one _) (16 * (5 + 1)) (by omega) (bvs (recN leaf sig ds (5 + 1))) (by rw [HNEXT.out, bvs_app]) (by unfold maxLen; omega) (by omega) HB3.out.size ?_; intro D6 d6 w6 f6 g6 _)))
        have b6 := HB3.out.grown g6 HB3.out.size (fun g hg => (HF3.out.row g hg).1)
        clear g6
        go_roundw
        case rel => exact ⟨5 + 1, _, _, by omega, by simp, rfl, f6, b6⟩
        case measure => simp [intOf]
      · have hc0 : ¬ c = 96 := by omega
        have hc1 : (96 : Int) ≤ (c : Int) := by omega
        have hc2 : (16 : Int) ≤ ((c - 96 : Nat) : Int) := by omega
        simp only [Nat.reduceMul, Nat.reduceAdd, Nat.add_zero, Nat.sub_zero] at har HRG HF HNEXT hcell
        have hol := onN_len (leaf := leaf) (place := 6) (f := x) HPL.out (15 - x)
        have HOL := Lib.hid hol
        clear hol
        go_wp2_with (first
          | (refine wpList_load_mid rfl 75 (.tmp 35) rfl g _ rfl (bvs v) _ HRG.out Try.underlying75 rfl HIR.out ?_))
        refine (c_on leaf 6 v x 15 wr H15k.out (by decide) HPL.out).mono ?_
        rintro e w3 ⟨rfl, b3⟩
        have f3 := (HF.out.below b3 (Nat.le_refl _)).alloc (.cells (bvs (onN leaf 6 v x (15 - x))).toArray 75)
        have B3 := below_alloc (below_to HB.out b3 HB.out.size) (.cells (bvs (onN leaf 6 v x (15 - x))).toArray 75) (Nat.le_refl _)
        have hxr := heap_alloc_new w3 (.cells (bvs (onN leaf 6 v x (15 - x))).toArray 75)
        have rx := Rd.ofRow (n := 16) hxr (by rw [bvs_len, HOL.out])
        have HF3 := Lib.hid f3
        have HB3 := Lib.hid B3
        have HRX := Lib.hid rx
        clear b3 f3 B3 hxr rx HF HB HRG HIR har
        generalize onN leaf 6 v x (15 - x) = L at *
        go_wp2_with (first
          | (refine wpList_store_new rfl 75 (.tmp 12) (.tmp 41) rfl _ L rfl rfl (by rw [HOL.out]; exact HI.out) (by rw [HOL.out]; rfl) ?_)
          | (at_builtin; go_loud (refine wpList_append_to rfl (.tmp 42) (.tmp 43) rfl okB rfl HF3.out rfl HRX.out (bvs_one _) (16 * (6 + 1)) (by omega) (bvs (recN leaf sig ds (6 + 1))) (by rw [HNEXT.out, bvs_app]) (by unfold maxLen; omega) (by omega) HB3.out.size ?_; intro D6 d6 w6 f6 g6 _)))
        have b6 := HB3.out.grown g6 HB3.out.size (fun g hg => (HF3.out.row g hg).1)
        clear g6
        go_roundw
        case rel => exact ⟨6 + 1, _, _, by omega, by simp, rfl, f6, b6⟩
        case measure => simp [intOf]
      · have hc0 : ¬ c = 112 := by omega
        have hc1 : (112 : Int) ≤ (c : Int) := by omega
        have hc2 : (16 : Int) ≤ ((c - 112 : Nat) : Int) := by omega
        simp only [Nat.reduceMul, Nat.reduceAdd, Nat.add_zero, Nat.sub_zero] at har HRG HF HNEXT hcell
        have hol := onN_len (leaf := leaf) (place := 7) (f := x) HPL.out (15 - x)
        have HOL := Lib.hid hol
        clear hol
        go_wp2_with (first
          | (refine wpList_load_mid rfl 75 (.tmp 35) rfl g _ rfl (bvs v) _ HRG.out Try.underlying75 rfl HIR.out ?_))
        refine (c_on leaf 7 v x 15 wr H15k.out (by decide) HPL.out).mono ?_
        rintro e w3 ⟨rfl, b3⟩
        have f3 := (HF.out.below b3 (Nat.le_refl _)).alloc (.cells (bvs (onN leaf 7 v x (15 - x))).toArray 75)
        have B3 := below_alloc (below_to HB.out b3 HB.out.size) (.cells (bvs (onN leaf 7 v x (15 - x))).toArray 75) (Nat.le_refl _)
        have hxr := heap_alloc_new w3 (.cells (bvs (onN leaf 7 v x (15 - x))).toArray 75)
        have rx := Rd.ofRow (n := 16) hxr (by rw [bvs_len, HOL.out])
        have HF3 := Lib.hid f3
        have HB3 := Lib.hid B3
        have HRX := Lib.hid rx
        clear b3 f3 B3 hxr rx HF HB HRG HIR har
        generalize onN leaf 7 v x (15 - x) = L at *
        go_wp2_with (first
          | (refine wpList_store_new rfl 75 (.tmp 12) (.tmp 41) rfl _ L rfl rfl (by rw [HOL.out]; exact HI.out) (by rw [HOL.out]; rfl) ?_)
          | (at_builtin; go_loud (refine wpList_append_to rfl (.tmp 42) (.tmp 43) rfl okB rfl HF3.out rfl HRX.out (bvs_one _) (16 * (7 + 1)) (by omega) (bvs (recN leaf sig ds (7 + 1))) (by rw [HNEXT.out, bvs_app]) (by unfold maxLen; omega) (by omega) HB3.out.size ?_; intro D6 d6 w6 f6 g6 _)))
        have b6 := HB3.out.grown g6 HB3.out.size (fun g hg => (HF3.out.row g hg).1)
        clear g6
        go_roundw
        case rel => exact ⟨7 + 1, _, _, by omega, by simp, rfl, f6, b6⟩
        case measure => simp [intOf]
      · have hc0 : ¬ c = 128 := by omega
        have hc1 : (128 : Int) ≤ (c : Int) := by omega
        have hc2 : (16 : Int) ≤ ((c - 128 : Nat) : Int) := by omega
        simp only [Nat.reduceMul, Nat.reduceAdd, Nat.add_zero, Nat.sub_zero] at har HRG HF HNEXT hcell
        have hol := onN_len (leaf := leaf) (place := 8) (f := x) HPL.out (15 - x)
        have HOL := Lib.hid hol
        clear hol
        go_wp2_with (first
          | (refine wpList_load_mid rfl 75 (.tmp 35) rfl g _ rfl (bvs v) _ HRG.out Try.underlying75 rfl HIR.out ?_))
        refine (c_on leaf 8 v x 15 wr H15k.out (by decide) HPL.out).mono ?_
        rintro e w3 ⟨rfl, b3⟩
        have f3 := (HF.out.below b3 (Nat.le_refl _)).alloc (.cells (bvs (onN leaf 8 v x (15 - x))).toArray 75)
        have B3 := below_alloc (below_to HB.out b3 HB.out.size) (.cells (bvs (onN leaf 8 v x (15 - x))).toArray 75) (Nat.le_refl _)
        have hxr := heap_alloc_new w3 (.cells (bvs (onN leaf 8 v x (15 - x))).toArray 75)
        have rx := Rd.ofRow (n := 16) hxr (by rw [bvs_len, HOL.out])
        have HF3 := Lib.hid f3
        have HB3 := Lib.hid B3
        have HRX := Lib.hid rx
        clear b3 f3 B3 hxr rx HF HB HRG HIR har
        generalize onN leaf 8 v x (15 - x) = L at *
        go_wp2_with (first
          | (refine wpList_store_new rfl 75 (.tmp 12) (.tmp 41) rfl _ L rfl rfl (by rw [HOL.out]; exact HI.out) (by rw [HOL.out]; rfl) ?_)
          | (at_builtin; go_loud (refine wpList_append_to rfl (.tmp 42) (.tmp 43) rfl okB rfl HF3.out rfl HRX.out (bvs_one _) (16 * (8 + 1)) (by omega) (bvs (recN leaf sig ds (8 + 1))) (by rw [HNEXT.out, bvs_app]) (by unfold maxLen; omega) (by omega) HB3.out.size ?_; intro D6 d6 w6 f6 g6 _)))
        have b6 := HB3.out.grown g6 HB3.out.size (fun g hg => (HF3.out.row g hg).1)
        clear g6
        go_roundw
        case rel => exact ⟨8 + 1, _, _, by omega, by simp, rfl, f6, b6⟩
        case measure => simp [intOf]
      · have hc0 : ¬ c = 144 := by omega
        have hc1 : (144 : Int) ≤ (c : Int) := by omega
        have hc2 : (16 : Int) ≤ ((c - 144 : Nat) : Int) := by omega
        simp only [Nat.reduceMul, Nat.reduceAdd, Nat.add_zero, Nat.sub_zero] at har HRG HF HNEXT hcell
        have hol := onN_len (leaf := leaf) (place := 9) (f := x) HPL.out (15 - x)
        have HOL := Lib.hid hol
        clear hol
        go_wp2_with (first
          | (refine wpList_load_mid rfl 75 (.tmp 35) rfl g _ rfl (bvs v) _ HRG.out Try.underlying75 rfl HIR.out ?_))
        refine (c_on leaf 9 v x 15 wr H15k.out (by decide) HPL.out).mono ?_
        rintro e w3 ⟨rfl, b3⟩
        have f3 := (HF.out.below b3 (Nat.le_refl _)).alloc (.cells (bvs (onN leaf 9 v x (15 - x))).toArray 75)
        have B3 := below_alloc (below_to HB.out b3 HB.out.size) (.cells (bvs (onN leaf 9 v x (15 - x))).toArray 75) (Nat.le_refl _)
        have hxr := heap_alloc_new w3 (.cells (bvs (onN leaf 9 v x (15 - x))).toArray 75)
        have rx := Rd.ofRow (n := 16) hxr (by rw [bvs_len, HOL.out])
        have HF3 := Lib.hid f3
        have HB3 := Lib.hid B3
        have HRX := Lib.hid rx
        clear b3 f3 B3 hxr rx HF HB HRG HIR har
        generalize onN leaf 9 v x (15 - x) = L at *
        go_wp2_with (first
          | (refine wpList_store_new rfl 75 (.tmp 12) (.tmp 41) rfl _ L rfl rfl (by rw [HOL.out]; exact HI.out) (by rw [HOL.out]; rfl) ?_)
          | (at_builtin; go_loud (refine wpList_append_to rfl (.tmp 42) (.tmp 43) rfl okB rfl HF3.out rfl HRX.out (bvs_one _) (16 * (9 + 1)) (by omega) (bvs (recN leaf sig ds (9 + 1))) (by rw [HNEXT.out, bvs_app]) (by unfold maxLen; omega) (by omega) HB3.out.size ?_; intro D6 d6 w6 f6 g6 _)))
        have b6 := HB3.out.grown g6 HB3.out.size (fun g hg => (HF3.out.row g hg).1)
        clear g6
        go_roundw
        case rel => exact ⟨9 + 1, _, _, by omega, by simp, rfl, f6, b6⟩
        case measure => simp [intOf]
    · obtain rfl : k = 10 := by omega
      have HF := Lib.hid (hf.mono (base' := w.heap.size) HB1.out.size)
      have HB := Lib.hid (below_to HB1.out hb HB1.out.size)
      clear hf hb
      go_wp2_with fail
      refine (c_key leaf A3 160 c3 _ w.heap.size wr (recN_len hs 10 (Nat.le_refl _)) (by decide) HB.out.size HF.out).mono ?_
      rintro e w3 ⟨A4, c4, rfl, f4, b4⟩
      have hb4 := HB.out.trans b4
      rw [HREC.out] at f4
      clear b4
      go_wp2
      go_ret2
      exact ⟨_, _, rfl, f4, hb4⟩
end Go.Proofs.Ytoggpnncmgcgoaa
