/-
  Contracts of package wrap: mask, sealed, with.
-/
import Derived.Test.YtoggpnncmgcgoaaStretch
import Derived.Test.YtoggpnncmgcgoaaArr
import Derived.Test.YtoggpnncmgcgoaaXor
namespace Go.Proofs.Ytoggpnncmgcgoaa
open Go.RowKit
set_option linter.unusedVariables false
set_option linter.unusedSimpArgs false
set_option maxRecDepth 100000

def maskL (s : List UInt8) : List UInt8 := keyB (s ++ [1])
theorem maskL_len (s : List UInt8) : (maskL s).length = 16 := keyB_len _
def sealL (s b : List UInt8) : List UInt8 := b ++ le 4 (tagOf s b).toNat
theorem w_mask (A : Option Addr) (c : Nat) (s : List UInt8) (w : World) (hs : s.length = 16) (hr : Rd w w.heap.size 1 A 16 (bvs s)) :
    Calls Try.prog 64 #[.slice A 16 c] w fun e w' => e = .returned (.agg (bvs (maskL s)).toArray) ∧ Below w.heap.size w w' := by
  have hx0 := heap_alloc_new w (.cells #[.int .u8 0, .int .u8 0, .int .u8 0, .int .u8 0, .int .u8 0, .int .u8 0, .int .u8 0, .int .u8 0, .int .u8 0, .int .u8 0, .int .u8 0, .int .u8 0, .int .u8 0, .int .u8 0, .int .u8 0, .int .u8 0] 93)
  have hb0 := below_new w (.cells #[.int .u8 0, .int .u8 0, .int .u8 0, .int .u8 0, .int .u8 0, .int .u8 0, .int .u8 0, .int .u8 0, .int .u8 0, .int .u8 0, .int .u8 0, .int .u8 0, .int .u8 0, .int .u8 0, .int .u8 0, .int .u8 0] 93)
  have hcl := fun (W : World) (h : Below w.heap.size w W) => m_clone A 16 c s W hs (by omega) ((hr.below h).more h.size)
  have HCL := Lib.hid hcl
  have HB0 := Lib.hid hb0
  have HX0 := Lib.hid hx0
  have hi16 : (Try.prog.info? 93).map (·.size) = some (bvs (maskL s)).length := by rw [bvs_len, maskL_len]; kernel_rfl
  have HI := Lib.hid hi16
  clear hcl hb0 hx0 hr hi16
  go_enter Try.func64, Try.ntmps64
  go_wp2_with fail
  refine (HCL.out _ HB0.out).mono ?_
  rintro e w1 ⟨A1, c1, rfl, f1, b1⟩
  have f1a := f1.alloc (.cells (bvs [1]).toArray 5)
  have hbs1 := b1.size
  rw [World.size_alloc] at hbs1
  have hb1 := below_to HB0.out b1 HB0.out.size
  have hx1 := (b1.block w.heap.size (by rw [World.size_alloc]; omega)).trans HX0.out
  have hb1a := below_alloc hb1 (.cells (bvs [1]).toArray 5) (Nat.le_refl _)
  have hone := Rd.made w1 5 1 1 (bvs [1]) rfl
  rw [World.size_alloc] at f1a
  have HX1 := Lib.hid hx1
  have HB1A := Lib.hid hb1a
  have HF1 := Lib.hid f1a
  have HONE := Lib.hid hone
  clear b1 hb1 hx1 hb1a f1 f1a hone
  go_wp2_with (first
    | (at_builtin; go_loud (refine wpList_append_to rfl (.tmp 4) (.tmp 5) rfl okB rfl HF1.out rfl HONE.out (bvs_one _) 17 rfl _ (bvs_app _ _).symm (by unfold maxLen; omega) (by omega) (by rw [World.size_alloc]; omega) ?_; intro D d3 w3 f3 g3 _)))
  have b3 := HB1A.out.grown g3 HB1A.out.size (fun g hg => by have := (HF1.out.row g hg).1; omega)
  have hx3 := (g3.block w.heap.size (by rw [World.size_alloc]; omega) (fun e => by have := (HF1.out.row _ e.symm).1; omega)).trans ((Below.heap_alloc w1 (.cells (bvs [1]).toArray 5) w.heap.size (by omega)).trans HX1.out)
  have hnc := f3.nc
  have HR3 := Lib.hid f3.rd
  have HB3 := Lib.hid b3
  have HX3 := Lib.hid hx3
  clear b3 hx3 f3 g3 HX1 HB1A HF1 HONE
  refine (k_key D 17 d3 (s ++ [1]) w3 (by rw [List.length_append, hs]; rfl) (by decide) hnc HR3.out).mono ?_
  rintro e w4 ⟨A4, c4, rfl, f4, b4⟩
  have hx4 := (b4.block w.heap.size (Array.getElem?_eq_some_iff.1 HX3.out).1).trans HX3.out
  have hb4 := below_to HB3.out b4 HB3.out.size
  obtain ⟨g, o, rfl, hg, -⟩ := f4.rd.2 (by omega)
  have hld := f4.rd.range 0 16
  rw [List.drop_zero, List.take_of_length_le (by rw [keyB_len]; exact Nat.le_refl _)] at hld
  have har := run_arrayAt_slice (P := Try.prog) Try.underlying93 (some ⟨g, o, none⟩) 16 c4 (by omega)
  have HLD := Lib.hid hld
  have HX4 := Lib.hid hx4
  have HB4 := Lib.hid hb4
  clear hld hx4 hb4 f4 b4 hnc HR3 HB3 HX3
  have hml : keyB (s ++ [1]) = maskL s := rfl
  rw [hml] at HLD
  go_wp2_with (first
    | (refine wpList_load_mid rfl 93 (.tmp 8) rfl g o rfl (bvs (maskL s)) _ HLD.out Try.underlying93 rfl HI.out ?_)
    | (refine wpList_store_row rfl 93 (.tmp 2) (.tmp 9) rfl w.heap.size 93 _ HX4.out (maskL s) rfl rfl (by have := HI.out; rw [bvs_len] at this; exact this) (by rw [maskL_len]; rfl) ?_; intro w5 h5 g5 z5))
  exact bodyPost_ret (results_cell_row rfl _ w5 w.heap.size 93 (bvs (maskL s)).toArray (0, 0) _ rfl h5 Try.underlying93 rfl (by have := HI.out; simpa using this)) rfl ⟨rfl, HB4.out.grown g5 HB4.out.size (fun k e => by injection e with e; omega)⟩

/-! ### with -/
theorem setCell_bytes {w : World} {g i : Nat} {l : List UInt8} {t : TypeId} (h : w.heap[g]? = some (.cells (bvs l).toArray t (0, 0))) (x : UInt8) : (w.setCell ⟨g, i, none⟩ (bv x)).heap[g]? = some (.cells (bvs (l.set i x)).toArray t (0, 0)) := by
  rw [setCell_eq_setRow w g i _ t (0, 0) (bv x) h, setRow_heap w g _ _ t _ h]
  simp [bvs, List.map_set]
def WithRel (k m : List UInt8) (w : World) (i : Value) (wr : World) : Prop :=
  ∃ j : Nat, j ≤ 16 ∧ i = .int .i64 (j : Nat) ∧ wr.heap[w.heap.size]? = some (.cells (bvs (turnedTo k m j)).toArray 93 (0, 0)) ∧ wr.heap[w.heap.size + 1]? = some (.cells (bvs m).toArray 93 (0, 0)) ∧ wr.heap[w.heap.size + 2]? = some (.cells (bvs (List.replicate 16 0)).toArray 93 (0, 0)) ∧ Below w.heap.size w wr
theorem w_with (k m : List UInt8) (w : World) (hk : k.length = 16) (hm : m.length = 16) :
    Calls Try.prog 63 #[.agg (bvs k).toArray, .agg (bvs m).toArray] w fun e w' => e = .returned (.agg (bvs (xorL k m)).toArray) ∧ Below w.heap.size w w' := by
  go_enter Try.func63, Try.ntmps63
  go_wp2
  go_loopw [6] (fun i wr => WithRel k m w i wr) (fun i _ => 16 - (intOf i).toNat)
  case atStart =>
    have h0 := heap_alloc_new w (.cells (bvs k).toArray 93)
    have h1 := heap_alloc_new (w.alloc (.cells (bvs k).toArray 93)) (.cells (bvs m).toArray 93)
    have h2 := heap_alloc_new ((w.alloc (.cells (bvs k).toArray 93)).alloc (.cells (bvs m).toArray 93)) (.cells (bvs (List.replicate 16 0)).toArray 93)
    rw [World.size_alloc] at h1
    rw [World.size_alloc, World.size_alloc] at h2
    refine ⟨0, Nat.zero_le _, rfl, ?_, ?_, h2, ?_⟩
    · rw [turnedTo_zero]
      exact (Below.heap_alloc _ _ _ (by rw [World.size_alloc, World.size_alloc]; omega)).trans ((Below.heap_alloc _ _ _ (by rw [World.size_alloc]; omega)).trans h0)
    · exact (Below.heap_alloc _ _ _ (by rw [World.size_alloc, World.size_alloc]; omega)).trans h1
    · exact below_alloc (below_alloc (below_new w _) _ (Nat.le_refl _)) _ (Nat.le_refl _)
  case round =>
    obtain ⟨j, hj, rfl, q0, q1, q2, hb⟩ := hrel
    by_cases hlt : j < 16
    · have hjl : j < (turnedTo k m j).length := by rw [turnedTo_len]; omega
      have e0 := turnedTo_at k m j (by omega)
      have hst := turnedTo_step k m j (by omega) (by omega)
      have c0 : wr.cell? ⟨w.heap.size, j, none⟩ = some (.int .u8 ((k[j]'(by omega)).toNat : Int)) := by
        rw [cell_of_row wr _ j _ _ _ q0]
        simp only [List.getElem?_toArray, bvs_get, List.getElem?_eq_getElem hjl, e0]
        rfl
      have c1 : wr.cell? ⟨w.heap.size + 1, j, none⟩ = some (.int .u8 ((m[j]'(by omega)).toNat : Int)) := by
        rw [cell_of_row wr _ j _ _ _ q1]
        simp only [List.getElem?_toArray, bvs_get, List.getElem?_eq_getElem (show j < m.length by omega)]
        rfl
      have fz : wr.frozen? ⟨w.heap.size, j, none⟩ = false := by simp [World.frozen?, q0]
      have hx := xor_u8 (k[j]'(by omega)) (m[j]'(by omega))
      have h0 : ¬ ((j : Int) < 0) := by omega
      have h1 : (j : Int) < 16 := by omega
      have HST := Lib.hid hst
      have HQ0 := Lib.hid q0
      have HQ1 := Lib.hid q1
      have HQ2 := Lib.hid q2
      have HB := Lib.hid hb
      have HX := Lib.hid hx
      clear e0 hst q0 q1 q2 hb hx hjl
      generalize (k[j]'(by omega)) = x at *
      generalize (m[j]'(by omega)) = y at *
      go_wp2
      go_region
      go_wp2
      go_roundw
      case rel =>
        rw [HX.out]
        refine ⟨j + 1, by omega, by simp, ?_, ?_, ?_, ?_⟩
        · rw [← HST.out]
          exact setCell_bytes HQ0.out (x ^^^ y)
        · exact (Below.heap_setCell _ _ _ _ (by simp)).trans HQ1.out
        · exact (Below.heap_setCell _ _ _ _ (by simp)).trans HQ2.out
        · exact (HB.out.setCell (p := ⟨w.heap.size, j, none⟩) (Nat.le_refl _) _).drew
      case measure => simp [intOf]; omega
    · obtain rfl : j = 16 := by omega
      rw [show turnedTo k m 16 = xorL k m by rw [← hm]; exact turnedTo_all k m (by omega)] at q0
      have hi16 : (Try.prog.info? 93).map (·.size) = some (xorL k m).length := by rw [xorL_len, hk]; kernel_rfl
      have HQ0 := Lib.hid q0
      have HQ2 := Lib.hid q2
      have HI := Lib.hid hi16
      have HB := Lib.hid hb
      clear q0 q1 q2 hb hi16
      go_wp2_with (first
        | (refine wpList_load_mid rfl 93 (.tmp 2) rfl w.heap.size 0 rfl (bvs (xorL k m)) _ (range_of_row HQ0.out 0) Try.underlying93 rfl (by have := HI.out; rw [bvs_len]; exact this) ?_)
        | (refine wpList_store_row rfl 93 (.tmp 4) (.tmp 18) rfl (w.heap.size + 2) 93 _ HQ2.out (xorL k m) rfl rfl HI.out (by rw [xorL_len, hk]; rfl) ?_; intro w5 h5 g5 z5))
      exact bodyPost_ret (results_cell_row rfl _ w5 (w.heap.size + 2) 93 (bvs (xorL k m)).toArray (0, 0) _ rfl h5 Try.underlying93 rfl (by have := HI.out; rw [List.size_toArray, bvs_len]; exact this)) rfl ⟨rfl, HB.out.grown g5 HB.out.size (fun k e => by injection e with e; omega)⟩
end Go.Proofs.Ytoggpnncmgcgoaa
