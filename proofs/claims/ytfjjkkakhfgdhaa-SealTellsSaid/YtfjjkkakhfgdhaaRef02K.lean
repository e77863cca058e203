/-
  charterhouseref02: contract of Key.
-/
import Derived.Test.YtfjjkkakhfgdhaaRef02F
namespace Go.Proofs.Ytfjjkkakhfgdhaa
open Go.RowKit
set_option linter.unusedVariables false
set_option linter.unusedSimpArgs false
set_option maxRecDepth 100000

/-- A number without its j lowest bytes. -/
def dv (n : Nat) : Nat → Nat
  | 0 => n
  | j + 1 => dv n j / 256
def KeR (x : W4) (g base : Nat) (w : World) (out i : Value) (wr : World) : Prop :=
  ∃ (k : Nat) (D : Option Addr) (d : Nat), k ≤ 16 ∧ i = .int .i64 (k : Nat) ∧ out = .slice D k d ∧ Fr wr (g + 1) 5 1 D k d (bvs ((keyOf x).take k)) ∧ Box4 wr g 23 x ∧ Below base w wr
def InR (X r : Nat) (wr : World) (n k : Value) (W : World) : Prop := ∃ j : Nat, j ≤ r ∧ k = .int .i64 (j : Nat) ∧ n = .int .u32 ((dv X j : Nat) : Int) ∧ W = wr
set_option maxHeartbeats 4000000 in
theorem r_key (A : Option Addr) (n c : Nat) (l : List UInt8) (w : World) (hl : l.length = n) (hn : n ≤ 1000000) (hr : Rd w w.heap.size 1 A n (bvs l)) :
    Calls Try.prog 29 #[.slice A n c] w fun e w' => ∃ A' c', e = .returned (.slice A' 16 c') ∧ Fr w' w.heap.size 5 1 A' 16 c' (bvs (keyOf (fourOf l))) ∧ Below w.heap.size w w' := by
  have hc := r_four A n c l w hl hn hr
  have HC := Lib.hid hc
  clear hc hr
  generalize fourOf l = x at *
  go_enter Try.func29, Try.ntmps29
  go_wp2_with fail
  refine HC.out.mono ?_
  rintro e w1 ⟨rfl, b1⟩
  have hx1 := Box4.new w1 23 x
  have hb1 := below_alloc b1 (.cells #[.int .u32 (wi x.a), .int .u32 (wi x.b), .int .u32 (wi x.c), .int .u32 (wi x.d)] 23) (Nat.le_refl _)
  have hw1 := b1.size
  have HX := Lib.hid hx1
  have HB := Lib.hid hb1
  clear hx1 hb1 b1 HC
  go_wp2
  go_loopw [4, 5] (fun out i wr => KeR x w1.heap.size w.heap.size w out i wr) (fun _ i _ => 16 - (intOf i).toNat)
  case atStart => exact ⟨0, none, 0, by omega, rfl, rfl, Fr.none_, HX.out, HB.out⟩
  case round =>
    obtain ⟨k, D, d, hk, rfl, rfl, hf, hq, hb⟩ := hrel
    obtain ⟨q0, q1, q2, q3⟩ := hq.cells
    have HF := Lib.hid hf
    have HQ := Lib.hid hq
    have HBB := Lib.hid hb
    clear hf hq hb
    rcases (show k = 0 ∨ k = 1 ∨ k = 2 ∨ k = 3 ∨ k = 4 ∨ k = 5 ∨ k = 6 ∨ k = 7 ∨ k = 8 ∨ k = 9 ∨ k = 10 ∨ k = 11 ∨ k = 12 ∨ k = 13 ∨ k = 14 ∨ k = 15 ∨ k = 16 by omega) with rfl | rfl | rfl | rfl | rfl | rfl | rfl | rfl | rfl | rfl | rfl | rfl | rfl | rfl | rfl | rfl | rfl
    · have hnext : (keyOf x).take 1 = (keyOf x).take 0 ++ [UInt8.ofNat (dv x.a.toNat 0)] := rfl
      have hX : wi x.a = ((x.a.toNat : Nat) : Int) := rfl
      have HN := Lib.hid hnext
      clear hnext
      generalize x.a.toNat = X at *
      have hX32 : X < 4294967296 := by have := wi_lt x.a; omega
      have HXX := Lib.hid hX
      clear hX
      go_wp2
      go_loopw [6, 7] (fun n k W => InR X 0 wr n k W) (fun _ k _ => 0 - (intOf k).toNat)
      case atStart => exact ⟨0, by omega, rfl, by rw [HXX.out]; rfl, rfl⟩
      case round =>
        obtain ⟨j, hj, rfl, rfl, rfl⟩ := hrel
        have hdl : dv X j ≤ X := by
          clear hj
          induction j with
          | zero => exact Nat.le_refl _
          | succ j ih => exact Nat.le_trans (Nat.div_le_self _ _) ih
        by_cases hjr : j < 0
        · have h1 : (j : Int) < 0 := by omega
          have hs : ((dv X j : Nat) : Int) / 256 = ((dv X (j + 1) : Nat) : Int) := by
            show _ = ((dv X j / 256 : Nat) : Int)
            omega
          generalize hz : dv X j = z at *
          go_wp2
          go_roundw
          case rel => exact ⟨j + 1, hjr, by simp, by rw [← hs], rfl⟩
          case measure => simp [intOf]; omega
        · obtain rfl : j = 0 := by omega
          generalize dv X 0 = z at *
          have hz32 : (z : Int) < 4294967296 := by omega
          have hu8 : IntKind.u8.wrap ((z : Int) % 256) = ((UInt8.ofNat z).toNat : Int) := by
            rw [IntKind.wrap_u8, UInt8.toNat_ofNat']
            omega
          have hu9 : (z : Int) % 256 = ((UInt8.ofNat z).toNat : Int) := by
            rw [UInt8.toNat_ofNat']
            omega
          generalize UInt8.ofNat z = Z at *
          have HF1 := Lib.hid (HF.out.alloc (.cells (bvs [Z]).toArray 5))
          have HR1 := Lib.hid (Rd.made wr 5 1 1 (bvs [Z]) rfl)
          have HB1 := Lib.hid (below_alloc HBB.out (.cells (bvs [Z]).toArray 5) (Nat.le_refl _))
          have HQ1 := Lib.hid (HQ.out.alloc (.cells (bvs [Z]).toArray 5))
          go_wp2_with (first
            | (at_builtin; go_loud (refine wpList_append_to rfl (.tmp 26) (.tmp 30) rfl okB rfl HF1.out rfl HR1.out (bvs_one _) 1 rfl (bvs ((keyOf x).take 1)) (by rw [HN.out, bvs_app]) (by unfold maxLen; omega) (by omega) (by rw [World.size_alloc]; have := HQ.out.lt; omega) ?_; intro D3 d3 w3 f3 g3 _)))
          have b3 := HB1.out.grown g3 HB1.out.size (fun g hg => by have := (HF1.out.row g hg).1; omega)
          have hq3 : Box4 w3 w1.heap.size 23 x := (g3.block w1.heap.size (by rw [World.size_alloc]; have := HQ.out.lt; omega) (fun e => by have := (HF1.out.row _ e.symm).1; omega)).trans HQ1.out
          go_roundw
          case rel => exact ⟨1, D3, d3, by omega, rfl, rfl, f3, hq3, b3⟩
          case measure => simp [intOf]
    · have hnext : (keyOf x).take 2 = (keyOf x).take 1 ++ [UInt8.ofNat (dv x.a.toNat 1)] := rfl
      have hX : wi x.a = ((x.a.toNat : Nat) : Int) := rfl
      have HN := Lib.hid hnext
      clear hnext
      generalize x.a.toNat = X at *
      have hX32 : X < 4294967296 := by have := wi_lt x.a; omega
      have HXX := Lib.hid hX
      clear hX
      go_wp2
      go_loopw [6, 7] (fun n k W => InR X 1 wr n k W) (fun _ k _ => 1 - (intOf k).toNat)
      case atStart => exact ⟨0, by omega, rfl, by rw [HXX.out]; rfl, rfl⟩
      case round =>
        obtain ⟨j, hj, rfl, rfl, rfl⟩ := hrel
        have hdl : dv X j ≤ X := by
          clear hj
          induction j with
          | zero => exact Nat.le_refl _
          | succ j ih => exact Nat.le_trans (Nat.div_le_self _ _) ih
        by_cases hjr : j < 1
        · have h1 : (j : Int) < 1 := by omega
          have hs : ((dv X j : Nat) : Int) / 256 = ((dv X (j + 1) : Nat) : Int) := by
            show _ = ((dv X j / 256 : Nat) : Int)
            omega
          generalize hz : dv X j = z at *
          go_wp2
          go_roundw
          case rel => exact ⟨j + 1, hjr, by simp, by rw [← hs], rfl⟩
          case measure => simp [intOf]; omega
        · obtain rfl : j = 1 := by omega
          generalize dv X 1 = z at *
          have hz32 : (z : Int) < 4294967296 := by omega
          have hu8 : IntKind.u8.wrap ((z : Int) % 256) = ((UInt8.ofNat z).toNat : Int) := by
            rw [IntKind.wrap_u8, UInt8.toNat_ofNat']
            omega
          have hu9 : (z : Int) % 256 = ((UInt8.ofNat z).toNat : Int) := by
            rw [UInt8.toNat_ofNat']
            omega
          generalize UInt8.ofNat z = Z at *
          have HF1 := Lib.hid (HF.out.alloc (.cells (bvs [Z]).toArray 5))
          have HR1 := Lib.hid (Rd.made wr 5 1 1 (bvs [Z]) rfl)
          have HB1 := Lib.hid (below_alloc HBB.out (.cells (bvs [Z]).toArray 5) (Nat.le_refl _))
          have HQ1 := Lib.hid (HQ.out.alloc (.cells (bvs [Z]).toArray 5))
          go_wp2_with (first
            | (at_builtin; go_loud (refine wpList_append_to rfl (.tmp 26) (.tmp 30) rfl okB rfl HF1.out rfl HR1.out (bvs_one _) 2 rfl (bvs ((keyOf x).take 2)) (by rw [HN.out, bvs_app]) (by unfold maxLen; omega) (by omega) (by rw [World.size_alloc]; have := HQ.out.lt; omega) ?_; intro D3 d3 w3 f3 g3 _)))
          have b3 := HB1.out.grown g3 HB1.out.size (fun g hg => by have := (HF1.out.row g hg).1; omega)
          have hq3 : Box4 w3 w1.heap.size 23 x := (g3.block w1.heap.size (by rw [World.size_alloc]; have := HQ.out.lt; omega) (fun e => by have := (HF1.out.row _ e.symm).1; omega)).trans HQ1.out
          go_roundw
          case rel => exact ⟨2, D3, d3, by omega, rfl, rfl, f3, hq3, b3⟩
          case measure => simp [intOf]
    · have hnext : (keyOf x).take 3 = (keyOf x).take 2 ++ [UInt8.ofNat (dv x.a.toNat 2)] := rfl
      have hX : wi x.a = ((x.a.toNat : Nat) : Int) := rfl
      have HN := Lib.hid hnext
      clear hnext
      generalize x.a.toNat = X at *
      have hX32 : X < 4294967296 := by have := wi_lt x.a; omega
      have HXX := Lib.hid hX
      clear hX
      go_wp2
      go_loopw [6, 7] (fun n k W => InR X 2 wr n k W) (fun _ k _ => 2 - (intOf k).toNat)
      case atStart => exact ⟨0, by omega, rfl, by rw [HXX.out]; rfl, rfl⟩
      case round =>
        obtain ⟨j, hj, rfl, rfl, rfl⟩ := hrel
        have hdl : dv X j ≤ X := by
          clear hj
          induction j with
          | zero => exact Nat.le_refl _
          | succ j ih => exact Nat.le_trans (Nat.div_le_self _ _) ih
        by_cases hjr : j < 2
        · have h1 : (j : Int) < 2 := by omega
          have hs : ((dv X j : Nat) : Int) / 256 = ((dv X (j + 1) : Nat) : Int) := by
            show _ = ((dv X j / 256 : Nat) : Int)
            omega
          generalize hz : dv X j = z at *
          go_wp2
          go_roundw
          case rel => exact ⟨j + 1, hjr, by simp, by rw [← hs], rfl⟩
          case measure => simp [intOf]; omega
        · obtain rfl : j = 2 := by omega
          generalize dv X 2 = z at *
          have hz32 : (z : Int) < 4294967296 := by omega
          have hu8 : IntKind.u8.wrap ((z : Int) % 256) = ((UInt8.ofNat z).toNat : Int) := by
            rw [IntKind.wrap_u8, UInt8.toNat_ofNat']
            omega
          have hu9 : (z : Int) % 256 = ((UInt8.ofNat z).toNat : Int) := by
            rw [UInt8.toNat_ofNat']
            omega
          generalize UInt8.ofNat z = Z at *
          have HF1 := Lib.hid (HF.out.alloc (.cells (bvs [Z]).toArray 5))
          have HR1 := Lib.hid (Rd.made wr 5 1 1 (bvs [Z]) rfl)
          have HB1 := Lib.hid (below_alloc HBB.out (.cells (bvs [Z]).toArray 5) (Nat.le_refl _))
          have HQ1 := Lib.hid (HQ.out.alloc (.cells (bvs [Z]).toArray 5))
          go_wp2_with (first
            | (at_builtin; go_loud (refine wpList_append_to rfl (.tmp 26) (.tmp 30) rfl okB rfl HF1.out rfl HR1.out (bvs_one _) 3 rfl (bvs ((keyOf x).take 3)) (by rw [HN.out, bvs_app]) (by unfold maxLen; omega) (by omega) (by rw [World.size_alloc]; have := HQ.out.lt; omega) ?_; intro D3 d3 w3 f3 g3 _)))
          have b3 := HB1.out.grown g3 HB1.out.size (fun g hg => by have := (HF1.out.row g hg).1; omega)
          have hq3 : Box4 w3 w1.heap.size 23 x := (g3.block w1.heap.size (by rw [World.size_alloc]; have := HQ.out.lt; omega) (fun e => by have := (HF1.out.row _ e.symm).1; omega)).trans HQ1.out
          go_roundw
          case rel => exact ⟨3, D3, d3, by omega, rfl, rfl, f3, hq3, b3⟩
          case measure => simp [intOf]
    · have hnext : (keyOf x).take 4 = (keyOf x).take 3 ++ [UInt8.ofNat (dv x.a.toNat 3)] := rfl
      have hX : wi x.a = ((x.a.toNat : Nat) : Int) := rfl
      have HN := Lib.hid hnext
      clear hnext
      generalize x.a.toNat = X at *
      have hX32 : X < 4294967296 := by have := wi_lt x.a; omega
      have HXX := Lib.hid hX
      clear hX
      go_wp2
      go_loopw [6, 7] (fun n k W => InR X 3 wr n k W) (fun _ k _ => 3 - (intOf k).toNat)
      case atStart => exact ⟨0, by omega, rfl, by rw [HXX.out]; rfl, rfl⟩
      case round =>
        obtain ⟨j, hj, rfl, rfl, rfl⟩ := hrel
        have hdl : dv X j ≤ X := by
          clear hj
          induction j with
          | zero => exact Nat.le_refl _
          | succ j ih => exact Nat.le_trans (Nat.div_le_self _ _) ih
        by_cases hjr : j < 3
        · have h1 : (j : Int) < 3 := by omega
          have hs : ((dv X j : Nat) : Int) / 256 = ((dv X (j + 1) : Nat) : Int) := by
            show _ = ((dv X j / 256 : Nat) : Int)
            omega
          generalize hz : dv X j = z at *
          go_wp2
          go_roundw
          case rel => exact ⟨j + 1, hjr, by simp, by rw [← hs], rfl⟩
          case measure => simp [intOf]; omega
        · obtain rfl : j = 3 := by omega
          generalize dv X 3 = z at *
          have hz32 : (z : Int) < 4294967296 := by omega
          have hu8 : IntKind.u8.wrap ((z : Int) % 256) = ((UInt8.ofNat z).toNat : Int) := by
            rw [IntKind.wrap_u8, UInt8.toNat_ofNat']
            omega
          have hu9 : (z : Int) % 256 = ((UInt8.ofNat z).toNat : Int) := by
            rw [UInt8.toNat_ofNat']
            omega
          generalize UInt8.ofNat z = Z at *
          have HF1 := Lib.hid (HF.out.alloc (.cells (bvs [Z]).toArray 5))
          have HR1 := Lib.hid (Rd.made wr 5 1 1 (bvs [Z]) rfl)
          have HB1 := Lib.hid (below_alloc HBB.out (.cells (bvs [Z]).toArray 5) (Nat.le_refl _))
          have HQ1 := Lib.hid (HQ.out.alloc (.cells (bvs [Z]).toArray 5))
          go_wp2_with (first
            | (at_builtin; go_loud (refine wpList_append_to rfl (.tmp 26) (.tmp 30) rfl okB rfl HF1.out rfl HR1.out (bvs_one _) 4 rfl (bvs ((keyOf x).take 4)) (by rw [HN.out, bvs_app]) (by unfold maxLen; omega) (by omega) (by rw [World.size_alloc]; have := HQ.out.lt; omega) ?_; intro D3 d3 w3 f3 g3 _)))
          have b3 := HB1.out.grown g3 HB1.out.size (fun g hg => by have := (HF1.out.row g hg).1; omega)
          have hq3 : Box4 w3 w1.heap.size 23 x := (g3.block w1.heap.size (by rw [World.size_alloc]; have := HQ.out.lt; omega) (fun e => by have := (HF1.out.row _ e.symm).1; omega)).trans HQ1.out
          go_roundw
          case rel => exact ⟨4, D3, d3, by omega, rfl, rfl, f3, hq3, b3⟩
          case measure => simp [intOf]
    · have hnext : (keyOf x).take 5 = (keyOf x).take 4 ++ [UInt8.ofNat (dv x.b.toNat 0)] := rfl
      have hX : wi x.b = ((x.b.toNat : Nat) : Int) := rfl
      have HN := Lib.hid hnext
      clear hnext
      generalize x.b.toNat = X at *
      have hX32 : X < 4294967296 := by have := wi_lt x.b; omega
      have HXX := Lib.hid hX
      clear hX
      go_wp2
      go_loopw [6, 7] (fun n k W => InR X 0 wr n k W) (fun _ k _ => 0 - (intOf k).toNat)
      case atStart => exact ⟨0, by omega, rfl, by rw [HXX.out]; rfl, rfl⟩
      case round =>
        obtain ⟨j, hj, rfl, rfl, rfl⟩ := hrel
        have hdl : dv X j ≤ X := by
          clear hj
          induction j with
          | zero => exact Nat.le_refl _
          | succ j ih => exact Nat.le_trans (Nat.div_le_self _ _) ih
        by_cases hjr : j < 0
        · have h1 : (j : Int) < 0 := by omega
          have hs : ((dv X j : Nat) : Int) / 256 = ((dv X (j + 1) : Nat) : Int) := by
            show _ = ((dv X j / 256 : Nat) : Int)
            omega
          generalize hz : dv X j = z at *
          go_wp2
          go_roundw
          case rel => exact ⟨j + 1, hjr, by simp, by rw [← hs], rfl⟩
          case measure => simp [intOf]; omega
        · obtain rfl : j = 0 := by omega
          generalize dv X 0 = z at *
          have hz32 : (z : Int) < 4294967296 := by omega
          have hu8 : IntKind.u8.wrap ((z : Int) % 256) = ((UInt8.ofNat z).toNat : Int) := by
            rw [IntKind.wrap_u8, UInt8.toNat_ofNat']
            omega
          have hu9 : (z : Int) % 256 = ((UInt8.ofNat z).toNat : Int) := by
            rw [UInt8.toNat_ofNat']
            omega
          generalize UInt8.ofNat z = Z at *
          have HF1 := Lib.hid (HF.out.alloc (.cells (bvs [Z]).toArray 5))
          have HR1 := Lib.hid (Rd.made wr 5 1 1 (bvs [Z]) rfl)
          have HB1 := Lib.hid (below_alloc HBB.out (.cells (bvs [Z]).toArray 5) (Nat.le_refl _))
          have HQ1 := Lib.hid (HQ.out.alloc (.cells (bvs [Z]).toArray 5))
          go_wp2_with (first
            | (at_builtin; go_loud (refine wpList_append_to rfl (.tmp 26) (.tmp 30) rfl okB rfl HF1.out rfl HR1.out (bvs_one _) 5 rfl (bvs ((keyOf x).take 5)) (by rw [HN.out, bvs_app]) (by unfold maxLen; omega) (by omega) (by rw [World.size_alloc]; have := HQ.out.lt; omega) ?_; intro D3 d3 w3 f3 g3 _)))
          have b3 := HB1.out.grown g3 HB1.out.size (fun g hg => by have := (HF1.out.row g hg).1; omega)
          have hq3 : Box4 w3 w1.heap.size 23 x := (g3.block w1.heap.size (by rw [World.size_alloc]; have := HQ.out.lt; omega) (fun e => by have := (HF1.out.row _ e.symm).1; omega)).trans HQ1.out
          go_roundw
          case rel => exact ⟨5, D3, d3, by omega, rfl, rfl, f3, hq3, b3⟩
          case measure => simp [intOf]
    · have hnext : (keyOf x).take 6 = (keyOf x).take 5 ++ [UInt8.ofNat (dv x.b.toNat 1)] := rfl
      have hX : wi x.b = ((x.b.toNat : Nat) : Int) := rfl
      have HN := Lib.hid hnext
      clear hnext
      generalize x.b.toNat = X at *
      have hX32 : X < 4294967296 := by have := wi_lt x.b; omega
      have HXX := Lib.hid hX
      clear hX
      go_wp2
      go_loopw [6, 7] (fun n k W => InR X 1 wr n k W) (fun _ k _ => 1 - (intOf k).toNat)
      case atStart => exact ⟨0, by omega, rfl, by rw [HXX.out]; rfl, rfl⟩
      case round =>
        obtain ⟨j, hj, rfl, rfl, rfl⟩ := hrel
        have hdl : dv X j ≤ X := by
          clear hj
          induction j with
          | zero => exact Nat.le_refl _
          | succ j ih => exact Nat.le_trans (Nat.div_le_self _ _) ih
        by_cases hjr : j < 1
        · have h1 : (j : Int) < 1 := by omega
          have hs : ((dv X j : Nat) : Int) / 256 = ((dv X (j + 1) : Nat) : Int) := by
            show _ = ((dv X j / 256 : Nat) : Int)
            omega
          generalize hz : dv X j = z at *
          go_wp2
          go_roundw
          case rel => exact ⟨j + 1, hjr, by simp, by rw [← hs], rfl⟩
          case measure => simp [intOf]; omega
        · obtain rfl : j = 1 := by omega
          generalize dv X 1 = z at *
          have hz32 : (z : Int) < 4294967296 := by omega
          have hu8 : IntKind.u8.wrap ((z : Int) % 256) = ((UInt8.ofNat z).toNat : Int) := by
            rw [IntKind.wrap_u8, UInt8.toNat_ofNat']
            omega
          have hu9 : (z : Int) % 256 = ((UInt8.ofNat z).toNat : Int) := by
            rw [UInt8.toNat_ofNat']
            omega
          generalize UInt8.ofNat z = Z at *
          have HF1 := Lib.hid (HF.out.alloc (.cells (bvs [Z]).toArray 5))
          have HR1 := Lib.hid (Rd.made wr 5 1 1 (bvs [Z]) rfl)
          have HB1 := Lib.hid (below_alloc HBB.out (.cells (bvs [Z]).toArray 5) (Nat.le_refl _))
          have HQ1 := Lib.hid (HQ.out.alloc (.cells (bvs [Z]).toArray 5))
          go_wp2_with (first
            | (at_builtin; go_loud (refine wpList_append_to rfl (.tmp 26) (.tmp 30) rfl okB rfl HF1.out rfl HR1.out (bvs_one _) 6 rfl (bvs ((keyOf x).take 6)) (by rw [HN.out, bvs_app]) (by unfold maxLen; omega) (by omega) (by rw [World.size_alloc]; have := HQ.out.lt; omega) ?_; intro D3 d3 w3 f3 g3 _)))
          have b3 := HB1.out.grown g3 HB1.out.size (fun g hg => by have := (HF1.out.row g hg).1; omega)
          have hq3 : Box4 w3 w1.heap.size 23 x := (g3.block w1.heap.size (by rw [World.size_alloc]; have := HQ.out.lt; omega) (fun e => by have := (HF1.out.row _ e.symm).1; omega)).trans HQ1.out
          go_roundw
          case rel => exact ⟨6, D3, d3, by omega, rfl, rfl, f3, hq3, b3⟩
          case measure => simp [intOf]
    · have hnext : (keyOf x).take 7 = (keyOf x).take 6 ++ [UInt8.ofNat (dv x.b.toNat 2)] := rfl
      have hX : wi x.b = ((x.b.toNat : Nat) : Int) := rfl
      have HN := Lib.hid hnext
      clear hnext
      generalize x.b.toNat = X at *
      have hX32 : X < 4294967296 := by have := wi_lt x.b; omega
      have HXX := Lib.hid hX
      clear hX
      go_wp2
      go_loopw [6, 7] (fun n k W => InR X 2 wr n k W) (fun _ k _ => 2 - (intOf k).toNat)
      case atStart => exact ⟨0, by omega, rfl, by rw [HXX.out]; rfl, rfl⟩
      case round =>
        obtain ⟨j, hj, rfl, rfl, rfl⟩ := hrel
        have hdl : dv X j ≤ X := by
          clear hj
          induction j with
          | zero => exact Nat.le_refl _
          | succ j ih => exact Nat.le_trans (Nat.div_le_self _ _) ih
        by_cases hjr : j < 2
        · have h1 : (j : Int) < 2 := by omega
          have hs : ((dv X j : Nat) : Int) / 256 = ((dv X (j + 1) : Nat) : Int) := by
            show _ = ((dv X j / 256 : Nat) : Int)
            omega
          generalize hz : dv X j = z at *
          go_wp2
          go_roundw
          case rel => exact ⟨j + 1, hjr, by simp, by rw [← hs], rfl⟩
          case measure => simp [intOf]; omega
        · obtain rfl : j = 2 := by omega
          generalize dv X 2 = z at *
          have hz32 : (z : Int) < 4294967296 := by omega
          have hu8 : IntKind.u8.wrap ((z : Int) % 256) = ((UInt8.ofNat z).toNat : Int) := by
            rw [IntKind.wrap_u8, UInt8.toNat_ofNat']
            omega
          have hu9 : (z : Int) % 256 = ((UInt8.ofNat z).toNat : Int) := by
            rw [UInt8.toNat_ofNat']
            omega
          generalize UInt8.ofNat z = Z at *
          have HF1 := Lib.hid (HF.out.alloc (.cells (bvs [Z]).toArray 5))
          have HR1 := Lib.hid (Rd.made wr 5 1 1 (bvs [Z]) rfl)
          have HB1 := Lib.hid (below_alloc HBB.out (.cells (bvs [Z]).toArray 5) (Nat.le_refl _))
          have HQ1 := Lib.hid (HQ.out.alloc (.cells (bvs [Z]).toArray 5))
          go_wp2_with (first
            | (at_builtin; go_loud (refine wpList_append_to rfl (.tmp 26) (.tmp 30) rfl okB rfl HF1.out rfl HR1.out (bvs_one _) 7 rfl (bvs ((keyOf x).take 7)) (by rw [HN.out, bvs_app]) (by unfold maxLen; omega) (by omega) (by rw [World.size_alloc]; have := HQ.out.lt; omega) ?_; intro D3 d3 w3 f3 g3 _)))
          have b3 := HB1.out.grown g3 HB1.out.size (fun g hg => by have := (HF1.out.row g hg).1; omega)
          have hq3 : Box4 w3 w1.heap.size 23 x := (g3.block w1.heap.size (by rw [World.size_alloc]; have := HQ.out.lt; omega) (fun e => by have := (HF1.out.row _ e.symm).1; omega)).trans HQ1.out
          go_roundw
          case rel => exact ⟨7, D3, d3, by omega, rfl, rfl, f3, hq3, b3⟩
          case measure => simp [intOf]
    · have hnext : (keyOf x).take 8 = (keyOf x).take 7 ++ [UInt8.ofNat (dv x.b.toNat 3)] := rfl
      have hX : wi x.b = ((x.b.toNat : Nat) : Int) := rfl
      have HN := Lib.hid hnext
      clear hnext
      generalize x.b.toNat = X at *
      have hX32 : X < 4294967296 := by have := wi_lt x.b; omega
      have HXX := Lib.hid hX
      clear hX
      go_wp2
      go_loopw [6, 7] (fun n k W => InR X 3 wr n k W) (fun _ k _ => 3 - (intOf k).toNat)
      case atStart => exact ⟨0, by omega, rfl, by rw [HXX.out]; rfl, rfl⟩
      case round =>
        obtain ⟨j, hj, rfl, rfl, rfl⟩ := hrel
        have hdl : dv X j ≤ X := by
          clear hj
          induction j with
          | zero => exact Nat.le_refl _
          | succ j ih => exact Nat.le_trans (Nat.div_le_self _ _) ih
        by_cases hjr : j < 3
        · have h1 : (j : Int) < 3 := by omega
          have hs : ((dv X j : Nat) : Int) / 256 = ((dv X (j + 1) : Nat) : Int) := by
            show _ = ((dv X j / 256 : Nat) : Int)
            omega
          generalize hz : dv X j = z at *
          go_wp2
          go_roundw
          case rel => exact ⟨j + 1, hjr, by simp, by rw [← hs], rfl⟩
          case measure => simp [intOf]; omega
        · obtain rfl : j = 3 := by omega
          generalize dv X 3 = z at *
          have hz32 : (z : Int) < 4294967296 := by omega
          have hu8 : IntKind.u8.wrap ((z : Int) % 256) = ((UInt8.ofNat z).toNat : Int) := by
            rw [IntKind.wrap_u8, UInt8.toNat_ofNat']
            omega
          have hu9 : (z : Int) % 256 = ((UInt8.ofNat z).toNat : Int) := by
            rw [UInt8.toNat_ofNat']
            omega
          generalize UInt8.ofNat z = Z at *
          have HF1 := Lib.hid (HF.out.alloc (.cells (bvs [Z]).toArray 5))
          have HR1 := Lib.hid (Rd.made wr 5 1 1 (bvs [Z]) rfl)
          have HB1 := Lib.hid (below_alloc HBB.out (.cells (bvs [Z]).toArray 5) (Nat.le_refl _))
          have HQ1 := Lib.hid (HQ.out.alloc (.cells (bvs [Z]).toArray 5))
          go_wp2_with (first
            | (at_builtin; go_loud (refine wpList_append_to rfl (.tmp 26) (.tmp 30) rfl okB rfl HF1.out rfl HR1.out (bvs_one _) 8 rfl (bvs ((keyOf x).take 8)) (by rw [HN.out, bvs_app]) (by unfold maxLen; omega) (by omega) (by rw [World.size_alloc]; have := HQ.out.lt; omega) ?_; intro D3 d3 w3 f3 g3 _)))
          have b3 := HB1.out.grown g3 HB1.out.size (fun g hg => by have := (HF1.out.row g hg).1; omega)
          have hq3 : Box4 w3 w1.heap.size 23 x := (g3.block w1.heap.size (by rw [World.size_alloc]; have := HQ.out.lt; omega) (fun e => by have := (HF1.out.row _ e.symm).1; omega)).trans HQ1.out
          go_roundw
          case rel => exact ⟨8, D3, d3, by omega, rfl, rfl, f3, hq3, b3⟩
          case measure => simp [intOf]
    · have hnext : (keyOf x).take 9 = (keyOf x).take 8 ++ [UInt8.ofNat (dv x.c.toNat 0)] := rfl
      have hX : wi x.c = ((x.c.toNat : Nat) : Int) := rfl
      have HN := Lib.hid hnext
      clear hnext
      generalize x.c.toNat = X at *
      have hX32 : X < 4294967296 := by have := wi_lt x.c; omega
      have HXX := Lib.hid hX
      clear hX
      go_wp2
      go_loopw [6, 7] (fun n k W => InR X 0 wr n k W) (fun _ k _ => 0 - (intOf k).toNat)
      case atStart => exact ⟨0, by omega, rfl, by rw [HXX.out]; rfl, rfl⟩
      case round =>
        obtain ⟨j, hj, rfl, rfl, rfl⟩ := hrel
        have hdl : dv X j ≤ X := by
          clear hj
          induction j with
          | zero => exact Nat.le_refl _
          | succ j ih => exact Nat.le_trans (Nat.div_le_self _ _) ih
        by_cases hjr : j < 0
        · have h1 : (j : Int) < 0 := by omega
          have hs : ((dv X j : Nat) : Int) / 256 = ((dv X (j + 1) : Nat) : Int) := by
            show _ = ((dv X j / 256 : Nat) : Int)
            omega
          generalize hz : dv X j = z at *
          go_wp2
          go_roundw
          case rel => exact ⟨j + 1, hjr, by simp, by rw [← hs], rfl⟩
          case measure => simp [intOf]; omega
        · obtain rfl : j = 0 := by omega
          generalize dv X 0 = z at *
          have hz32 : (z : Int) < 4294967296 := by omega
          have hu8 : IntKind.u8.wrap ((z : Int) % 256) = ((UInt8.ofNat z).toNat : Int) := by
            rw [IntKind.wrap_u8, UInt8.toNat_ofNat']
            omega
          have hu9 : (z : Int) % 256 = ((UInt8.ofNat z).toNat : Int) := by
            rw [UInt8.toNat_ofNat']
            omega
          generalize UInt8.ofNat z = Z at *
          have HF1 := Lib.hid (HF.out.alloc (.cells (bvs [Z]).toArray 5))
          have HR1 := Lib.hid (Rd.made wr 5 1 1 (bvs [Z]) rfl)
          have HB1 := Lib.hid (below_alloc HBB.out (.cells (bvs [Z]).toArray 5) (Nat.le_refl _))
          have HQ1 := Lib.hid (HQ.out.alloc (.cells (bvs [Z]).toArray 5))
          go_wp2_with (first
            | (at_builtin; go_loud (refine wpList_append_to rfl (.tmp 26) (.tmp 30) rfl okB rfl HF1.out rfl HR1.out (bvs_one _) 9 rfl (bvs ((keyOf x).take 9)) (by rw [HN.out, bvs_app]) (by unfold maxLen; omega) (by omega) (by rw [World.size_alloc]; have := HQ.out.lt; omega) ?_; intro D3 d3 w3 f3 g3 _)))
          have b3 := HB1.out.grown g3 HB1.out.size (fun g hg => by have := (HF1.out.row g hg).1; omega)
          have hq3 : Box4 w3 w1.heap.size 23 x := (g3.block w1.heap.size (by rw [World.size_alloc]; have := HQ.out.lt; omega) (fun e => by have := (HF1.out.row _ e.symm).1; omega)).trans HQ1.out
          go_roundw
          case rel => exact ⟨9, D3, d3, by omega, rfl, rfl, f3, hq3, b3⟩
          case measure => simp [intOf]
    · have hnext : (keyOf x).take 10 = (keyOf x).take 9 ++ [UInt8.ofNat (dv x.c.toNat 1)] := rfl
      have hX : wi x.c = ((x.c.toNat : Nat) : Int) := rfl
      have HN := Lib.hid hnext
      clear hnext
      generalize x.c.toNat = X at *
      have hX32 : X < 4294967296 := by have := wi_lt x.c; omega
      have HXX := Lib.hid hX
      clear hX
      go_wp2
      go_loopw [6, 7] (fun n k W => InR X 1 wr n k W) (fun _ k _ => 1 - (intOf k).toNat)
      case atStart => exact ⟨0, by omega, rfl, by rw [HXX.out]; rfl, rfl⟩
      case round =>
        obtain ⟨j, hj, rfl, rfl, rfl⟩ := hrel
        have hdl : dv X j ≤ X := by
          clear hj
          induction j with
          | zero => exact Nat.le_refl _
          | succ j ih => exact Nat.le_trans (Nat.div_le_self _ _) ih
        by_cases hjr : j < 1
        · have h1 : (j : Int) < 1 := by omega
          have hs : ((dv X j : Nat) : Int) / 256 = ((dv X (j + 1) : Nat) : Int) := by
            show _ = ((dv X j / 256 : Nat) : Int)
            omega
          generalize hz : dv X j = z at *
          go_wp2
          go_roundw
          case rel => exact ⟨j + 1, hjr, by simp, by rw [← hs], rfl⟩
          case measure => simp [intOf]; omega
        · obtain rfl : j = 1 := by omega
          generalize dv X 1 = z at *
          have hz32 : (z : Int) < 4294967296 := by omega
          have hu8 : IntKind.u8.wrap ((z : Int) % 256) = ((UInt8.ofNat z).toNat : Int) := by
            rw [IntKind.wrap_u8, UInt8.toNat_ofNat']
            omega
          have hu9 : (z : Int) % 256 = ((UInt8.ofNat z).toNat : Int) := by
            rw [UInt8.toNat_ofNat']
            omega
          generalize UInt8.ofNat z = Z at *
          have HF1 := Lib.hid (HF.out.alloc (.cells (bvs [Z]).toArray 5))
          have HR1 := Lib.hid (Rd.made wr 5 1 1 (bvs [Z]) rfl)
          have HB1 := Lib.hid (below_alloc HBB.out (.cells (bvs [Z]).toArray 5) (Nat.le_refl _))
          have HQ1 := Lib.hid (HQ.out.alloc (.cells (bvs [Z]).toArray 5))
          go_wp2_with (first
            | (at_builtin; go_loud (refine wpList_append_to rfl (.tmp 26) (.tmp 30) rfl okB rfl HF1.out rfl HR1.out (bvs_one _) 10 rfl (bvs ((keyOf x).take 10)) (by rw [HN.out, bvs_app]) (by unfold maxLen; omega) (by omega) (by rw [World.size_alloc]; have := HQ.out.lt; omega) ?_; intro D3 d3 w3 f3 g3 _)))
          have b3 := HB1.out.grown g3 HB1.out.size (fun g hg => by have := (HF1.out.row g hg).1; omega)
          have hq3 : Box4 w3 w1.heap.size 23 x := (g3.block w1.heap.size (by rw [World.size_alloc]; have := HQ.out.lt; omega) (fun e => by have := (HF1.out.row _ e.symm).1; omega)).trans HQ1.out
          go_roundw
          case rel => exact ⟨10, D3, d3, by omega, rfl, rfl, f3, hq3, b3⟩
          case measure => simp [intOf]
    · have hnext : (keyOf x).take 11 = (keyOf x).take 10 ++ [UInt8.ofNat (dv x.c.toNat 2)] := rfl
      have hX : wi x.c = ((x.c.toNat : Nat) : Int) := rfl
      have HN := Lib.hid hnext
      clear hnext
      generalize x.c.toNat = X at *
      have hX32 : X < 4294967296 := by have := wi_lt x.c; omega
      have HXX := Lib.hid hX
      clear hX
      go_wp2
      go_loopw [6, 7] (fun n k W => InR X 2 wr n k W) (fun _ k _ => 2 - (intOf k).toNat)
      case atStart => exact ⟨0, by omega, rfl, by rw [HXX.out]; rfl, rfl⟩
      case round =>
        obtain ⟨j, hj, rfl, rfl, rfl⟩ := hrel
        have hdl : dv X j ≤ X := by
          clear hj
          induction j with
          | zero => exact Nat.le_refl _
          | succ j ih => exact Nat.le_trans (Nat.div_le_self _ _) ih
        by_cases hjr : j < 2
        · have h1 : (j : Int) < 2 := by omega
          have hs : ((dv X j : Nat) : Int) / 256 = ((dv X (j + 1) : Nat) : Int) := by
            show _ = ((dv X j / 256 : Nat) : Int)
            omega
          generalize hz : dv X j = z at *
          go_wp2
          go_roundw
          case rel => exact ⟨j + 1, hjr, by simp, by rw [← hs], rfl⟩
          case measure => simp [intOf]; omega
        · obtain rfl : j = 2 := by omega
          generalize dv X 2 = z at *
          have hz32 : (z : Int) < 4294967296 := by omega
          have hu8 : IntKind.u8.wrap ((z : Int) % 256) = ((UInt8.ofNat z).toNat : Int) := by
            rw [IntKind.wrap_u8, UInt8.toNat_ofNat']
            omega
          have hu9 : (z : Int) % 256 = ((UInt8.ofNat z).toNat : Int) := by
            rw [UInt8.toNat_ofNat']
            omega
          generalize UInt8.ofNat z = Z at *
          have HF1 := Lib.hid (HF.out.alloc (.cells (bvs [Z]).toArray 5))
          have HR1 := Lib.hid (Rd.made wr 5 1 1 (bvs [Z]) rfl)
          have HB1 := Lib.hid (below_alloc HBB.out (.cells (bvs [Z]).toArray 5) (Nat.le_refl _))
          have HQ1 := Lib.hid (HQ.out.alloc (.cells (bvs [Z]).toArray 5))
          go_wp2_with (first
            | (at_builtin; go_loud (refine wpList_append_to rfl (.tmp 26) (.tmp 30) rfl okB rfl HF1.out rfl HR1.out (bvs_one _) 11 rfl (bvs ((keyOf x).take 11)) (by rw [HN.out, bvs_app]) (by unfold maxLen; omega) (by omega) (by rw [World.size_alloc]; have := HQ.out.lt; omega) ?_; intro D3 d3 w3 f3 g3 _)))
          have b3 := HB1.out.grown g3 HB1.out.size (fun g hg => by have := (HF1.out.row g hg).1; omega)
          have hq3 : Box4 w3 w1.heap.size 23 x := (g3.block w1.heap.size (by rw [World.size_alloc]; have := HQ.out.lt; omega) (fun e => by have := (HF1.out.row _ e.symm).1; omega)).trans HQ1.out
          go_roundw
          case rel => exact ⟨11, D3, d3, by omega, rfl, rfl, f3, hq3, b3⟩
          case measure => simp [intOf]
    · have hnext : (keyOf x).take 12 = (keyOf x).take 11 ++ [UInt8.ofNat (dv x.c.toNat 3)] := rfl
      have hX : wi x.c = ((x.c.toNat : Nat) : Int) := rfl
      have HN := Lib.hid hnext
      clear hnext
      generalize x.c.toNat = X at *
      have hX32 : X < 4294967296 := by have := wi_lt x.c; omega
      have HXX := Lib.hid hX
      clear hX
      go_wp2
      go_loopw [6, 7] (fun n k W => InR X 3 wr n k W) (fun _ k _ => 3 - (intOf k).toNat)
      case atStart => exact ⟨0, by omega, rfl, by rw [HXX.out]; rfl, rfl⟩
      case round =>
        obtain ⟨j, hj, rfl, rfl, rfl⟩ := hrel
        have hdl : dv X j ≤ X := by
          clear hj
          induction j with
          | zero => exact Nat.le_refl _
          | succ j ih => exact Nat.le_trans (Nat.div_le_self _ _) ih
        by_cases hjr : j < 3
        · have h1 : (j : Int) < 3 := by omega
          have hs : ((dv X j : Nat) : Int) / 256 = ((dv X (j + 1) : Nat) : Int) := by
            show _ = ((dv X j / 256 : Nat) : Int)
            omega
          generalize hz : dv X j = z at *
          go_wp2
          go_roundw
          case rel => exact ⟨j + 1, hjr, by simp, by rw [← hs], rfl⟩
          case measure => simp [intOf]; omega
        · obtain rfl : j = 3 := by omega
          generalize dv X 3 = z at *
          have hz32 : (z : Int) < 4294967296 := by omega
          have hu8 : IntKind.u8.wrap ((z : Int) % 256) = ((UInt8.ofNat z).toNat : Int) := by
            rw [IntKind.wrap_u8, UInt8.toNat_ofNat']
            omega
          have hu9 : (z : Int) % 256 = ((UInt8.ofNat z).toNat : Int) := by
            rw [UInt8.toNat_ofNat']
            omega
          generalize UInt8.ofNat z = Z at *
          have HF1 := Lib.hid (HF.out.alloc (.cells (bvs [Z]).toArray 5))
          have HR1 := Lib.hid (Rd.made wr 5 1 1 (bvs [Z]) rfl)
          have HB1 := Lib.hid (below_alloc HBB.out (.cells (bvs [Z]).toArray 5) (Nat.le_refl _))
          have HQ1 := Lib.hid (HQ.out.alloc (.cells (bvs [Z]).toArray 5))
          go_wp2_with (first
            | (at_builtin; go_loud (refine wpList_append_to rfl (.tmp 26) (.tmp 30) rfl okB rfl HF1.out rfl HR1.out (bvs_one _) 12 rfl (bvs ((keyOf x).take 12)) (by rw [HN.out, bvs_app]) (by unfold maxLen; omega) (by omega) (by rw [World.size_alloc]; have := HQ.out.lt; omega) ?_; intro D3 d3 w3 f3 g3 _)))
          have b3 := HB1.out.grown g3 HB1.out.size (fun g hg => by have := (HF1.out.row g hg).1; omega)
          have hq3 : Box4 w3 w1.heap.size 23 x := (g3.block w1.heap.size (by rw [World.size_alloc]; have := HQ.out.lt; omega) (fun e => by have := (HF1.out.row _ e.symm).1; omega)).trans HQ1.out
          go_roundw
          case rel => exact ⟨12, D3, d3, by omega, rfl, rfl, f3, hq3, b3⟩
          case measure => simp [intOf]
    · have hnext : (keyOf x).take 13 = (keyOf x).take 12 ++ [UInt8.ofNat (dv x.d.toNat 0)] := rfl
      have hX : wi x.d = ((x.d.toNat : Nat) : Int) := rfl
      have HN := Lib.hid hnext
      clear hnext
      generalize x.d.toNat = X at *
      have hX32 : X < 4294967296 := by have := wi_lt x.d; omega
      have HXX := Lib.hid hX
      clear hX
      go_wp2
      go_loopw [6, 7] (fun n k W => InR X 0 wr n k W) (fun _ k _ => 0 - (intOf k).toNat)
      case atStart => exact ⟨0, by omega, rfl, by rw [HXX.out]; rfl, rfl⟩
      case round =>
        obtain ⟨j, hj, rfl, rfl, rfl⟩ := hrel
        have hdl : dv X j ≤ X := by
          clear hj
          induction j with
          | zero => exact Nat.le_refl _
          | succ j ih => exact Nat.le_trans (Nat.div_le_self _ _) ih
        by_cases hjr : j < 0
        · have h1 : (j : Int) < 0 := by omega
          have hs : ((dv X j : Nat) : Int) / 256 = ((dv X (j + 1) : Nat) : Int) := by
            show _ = ((dv X j / 256 : Nat) : Int)
            omega
          generalize hz : dv X j = z at *
          go_wp2
          go_roundw
          case rel => exact ⟨j + 1, hjr, by simp, by rw [← hs], rfl⟩
          case measure => simp [intOf]; omega
        · obtain rfl : j = 0 := by omega
          generalize dv X 0 = z at *
          have hz32 : (z : Int) < 4294967296 := by omega
          have hu8 : IntKind.u8.wrap ((z : Int) % 256) = ((UInt8.ofNat z).toNat : Int) := by
            rw [IntKind.wrap_u8, UInt8.toNat_ofNat']
            omega
          have hu9 : (z : Int) % 256 = ((UInt8.ofNat z).toNat : Int) := by
            rw [UInt8.toNat_ofNat']
            omega
          generalize UInt8.ofNat z = Z at *
          have HF1 := Lib.hid (HF.out.alloc (.cells (bvs [Z]).toArray 5))
          have HR1 := Lib.hid (Rd.made wr 5 1 1 (bvs [Z]) rfl)
          have HB1 := Lib.hid (below_alloc HBB.out (.cells (bvs [Z]).toArray 5) (Nat.le_refl _))
          have HQ1 := Lib.hid (HQ.out.alloc (.cells (bvs [Z]).toArray 5))
          go_wp2_with (first
            | (at_builtin; go_loud (refine wpList_append_to rfl (.tmp 26) (.tmp 30) rfl okB rfl HF1.out rfl HR1.out (bvs_one _) 13 rfl (bvs ((keyOf x).take 13)) (by rw [HN.out, bvs_app]) (by unfold maxLen; omega) (by omega) (by rw [World.size_alloc]; have := HQ.out.lt; omega) ?_; intro D3 d3 w3 f3 g3 _)))
          have b3 := HB1.out.grown g3 HB1.out.size (fun g hg => by have := (HF1.out.row g hg).1; omega)
          have hq3 : Box4 w3 w1.heap.size 23 x := (g3.block w1.heap.size (by rw [World.size_alloc]; have := HQ.out.lt; omega) (fun e => by have := (HF1.out.row _ e.symm).1; omega)).trans HQ1.out
          go_roundw
          case rel => exact ⟨13, D3, d3, by omega, rfl, rfl, f3, hq3, b3⟩
          case measure => simp [intOf]
    · have hnext : (keyOf x).take 14 = (keyOf x).take 13 ++ [UInt8.ofNat (dv x.d.toNat 1)] := rfl
      have hX : wi x.d = ((x.d.toNat : Nat) : Int) := rfl
      have HN := Lib.hid hnext
      clear hnext
      generalize x.d.toNat = X at *
      have hX32 : X < 4294967296 := by have := wi_lt x.d; omega
      have HXX := Lib.hid hX
      clear hX
      go_wp2
      go_loopw [6, 7] (fun n k W => InR X 1 wr n k W) (fun _ k _ => 1 - (intOf k).toNat)
      case atStart => exact ⟨0, by omega, rfl, by rw [HXX.out]; rfl, rfl⟩
      case round =>
        obtain ⟨j, hj, rfl, rfl, rfl⟩ := hrel
        have hdl : dv X j ≤ X := by
          clear hj
          induction j with
          | zero => exact Nat.le_refl _
          | succ j ih => exact Nat.le_trans (Nat.div_le_self _ _) ih
        by_cases hjr : j < 1
        · have h1 : (j : Int) < 1 := by omega
          have hs : ((dv X j : Nat) : Int) / 256 = ((dv X (j + 1) : Nat) : Int) := by
            show _ = ((dv X j / 256 : Nat) : Int)
            omega
          generalize hz : dv X j = z at *
          go_wp2
          go_roundw
          case rel => exact ⟨j + 1, hjr, by simp, by rw [← hs], rfl⟩
          case measure => simp [intOf]; omega
        · obtain rfl : j = 1 := by omega
          generalize dv X 1 = z at *
          have hz32 : (z : Int) < 4294967296 := by omega
          have hu8 : IntKind.u8.wrap ((z : Int) % 256) = ((UInt8.ofNat z).toNat : Int) := by
            rw [IntKind.wrap_u8, UInt8.toNat_ofNat']
            omega
          have hu9 : (z : Int) % 256 = ((UInt8.ofNat z).toNat : Int) := by
            rw [UInt8.toNat_ofNat']
            omega
          generalize UInt8.ofNat z = Z at *
          have HF1 := Lib.hid (HF.out.alloc (.cells (bvs [Z]).toArray 5))
          have HR1 := Lib.hid (Rd.made wr 5 1 1 (bvs [Z]) rfl)
          have HB1 := Lib.hid (below_alloc HBB.out (.cells (bvs [Z]).toArray 5) (Nat.le_refl _))
          have HQ1 := Lib.hid (HQ.out.alloc (.cells (bvs [Z]).toArray 5))
          go_wp2_with (first
            | (at_builtin; go_loud (refine wpList_append_to rfl (.tmp 26) (.tmp 30) rfl okB rfl HF1.out rfl HR1.out (bvs_one _) 14 rfl (bvs ((keyOf x).take 14)) (by rw [HN.out, bvs_app]) (by unfold maxLen; omega) (by omega) (by rw [World.size_alloc]; have := HQ.out.lt; omega) ?_; intro D3 d3 w3 f3 g3 _)))
          have b3 := HB1.out.grown g3 HB1.out.size (fun g hg => by have := (HF1.out.row g hg).1; omega)
          have hq3 : Box4 w3 w1.heap.size 23 x := (g3.block w1.heap.size (by rw [World.size_alloc]; have := HQ.out.lt; omega) (fun e => by have := (HF1.out.row _ e.symm).1; omega)).trans HQ1.out
          go_roundw
          case rel => exact ⟨14, D3, d3, by omega, rfl, rfl, f3, hq3, b3⟩
          case measure => simp [intOf]
    · have hnext : (keyOf x).take 15 = (keyOf x).take 14 ++ [UInt8.ofNat (dv x.d.toNat 2)] := rfl
      have hX : wi x.d = ((x.d.toNat : Nat) : Int) := rfl
      have HN := Lib.hid hnext
      clear hnext
      generalize x.d.toNat = X at *
      have hX32 : X < 4294967296 := by have := wi_lt x.d; omega
      have HXX := Lib.hid hX
      clear hX
      go_wp2
      go_loopw [6, 7] (fun n k W => InR X 2 wr n k W) (fun _ k _ => 2 - (intOf k).toNat)
      case atStart => exact ⟨0, by omega, rfl, by rw [HXX.out]; rfl, rfl⟩
      case round =>
        obtain ⟨j, hj, rfl, rfl, rfl⟩ := hrel
        have hdl : dv X j ≤ X := by
          clear hj
          induction j with
          | zero => exact Nat.le_refl _
          | succ j ih => exact Nat.le_trans (Nat.div_le_self _ _) ih
        by_cases hjr : j < 2
        · have h1 : (j : Int) < 2 := by omega
          have hs : ((dv X j : Nat) : Int) / 256 = ((dv X (j + 1) : Nat) : Int) := by
            show _ = ((dv X j / 256 : Nat) : Int)
            omega
          generalize hz : dv X j = z at *
          go_wp2
          go_roundw
          case rel => exact ⟨j + 1, hjr, by simp, by rw [← hs], rfl⟩
          case measure => simp [intOf]; omega
        · obtain rfl : j = 2 := by omega
          generalize dv X 2 = z at *
          have hz32 : (z : Int) < 4294967296 := by omega
          have hu8 : IntKind.u8.wrap ((z : Int) % 256) = ((UInt8.ofNat z).toNat : Int) := by
            rw [IntKind.wrap_u8, UInt8.toNat_ofNat']
            omega
          have hu9 : (z : Int) % 256 = ((UInt8.ofNat z).toNat : Int) := by
            rw [UInt8.toNat_ofNat']
            omega
          generalize UInt8.ofNat z = Z at *
          have HF1 := Lib.hid (HF.out.alloc (.cells (bvs [Z]).toArray 5))
          have HR1 := Lib.hid (Rd.made wr 5 1 1 (bvs [Z]) rfl)
          have HB1 := Lib.hid (below_alloc HBB.out (.cells (bvs [Z]).toArray 5) (Nat.le_refl _))
          have HQ1 := Lib.hid (HQ.out.alloc (.cells (bvs [Z]).toArray 5))
          go_wp2_with (first
            | (at_builtin; go_loud (refine wpList_append_to rfl (.tmp 26) (.tmp 30) rfl okB rfl HF1.out rfl HR1.out (bvs_one _) 15 rfl (bvs ((keyOf x).take 15)) (by rw [HN.out, bvs_app]) (by unfold maxLen; omega) (by omega) (by rw [World.size_alloc]; have := HQ.out.lt; omega) ?_; intro D3 d3 w3 f3 g3 _)))
          have b3 := HB1.out.grown g3 HB1.out.size (fun g hg => by have := (HF1.out.row g hg).1; omega)
          have hq3 : Box4 w3 w1.heap.size 23 x := (g3.block w1.heap.size (by rw [World.size_alloc]; have := HQ.out.lt; omega) (fun e => by have := (HF1.out.row _ e.symm).1; omega)).trans HQ1.out
          go_roundw
          case rel => exact ⟨15, D3, d3, by omega, rfl, rfl, f3, hq3, b3⟩
          case measure => simp [intOf]
    · have hnext : (keyOf x).take 16 = (keyOf x).take 15 ++ [UInt8.ofNat (dv x.d.toNat 3)] := rfl
      have hX : wi x.d = ((x.d.toNat : Nat) : Int) := rfl
      have HN := Lib.hid hnext
      clear hnext
      generalize x.d.toNat = X at *
      have hX32 : X < 4294967296 := by have := wi_lt x.d; omega
      have HXX := Lib.hid hX
      clear hX
      go_wp2
      go_loopw [6, 7] (fun n k W => InR X 3 wr n k W) (fun _ k _ => 3 - (intOf k).toNat)
      case atStart => exact ⟨0, by omega, rfl, by rw [HXX.out]; rfl, rfl⟩
      case round =>
        obtain ⟨j, hj, rfl, rfl, rfl⟩ := hrel
        have hdl : dv X j ≤ X := by
          clear hj
          induction j with
          | zero => exact Nat.le_refl _
          | succ j ih => exact Nat.le_trans (Nat.div_le_self _ _) ih
        by_cases hjr : j < 3
        · have h1 : (j : Int) < 3 := by omega
          have hs : ((dv X j : Nat) : Int) / 256 = ((dv X (j + 1) : Nat) : Int) := by
            show _ = ((dv X j / 256 : Nat) : Int)
            omega
          generalize hz : dv X j = z at *
          go_wp2
          go_roundw
          case rel => exact ⟨j + 1, hjr, by simp, by rw [← hs], rfl⟩
          case measure => simp [intOf]; omega
        · obtain rfl : j = 3 := by omega
          generalize dv X 3 = z at *
          have hz32 : (z : Int) < 4294967296 := by omega
          have hu8 : IntKind.u8.wrap ((z : Int) % 256) = ((UInt8.ofNat z).toNat : Int) := by
            rw [IntKind.wrap_u8, UInt8.toNat_ofNat']
            omega
          have hu9 : (z : Int) % 256 = ((UInt8.ofNat z).toNat : Int) := by
            rw [UInt8.toNat_ofNat']
            omega
          generalize UInt8.ofNat z = Z at *
          have HF1 := Lib.hid (HF.out.alloc (.cells (bvs [Z]).toArray 5))
          have HR1 := Lib.hid (Rd.made wr 5 1 1 (bvs [Z]) rfl)
          have HB1 := Lib.hid (below_alloc HBB.out (.cells (bvs [Z]).toArray 5) (Nat.le_refl _))
          have HQ1 := Lib.hid (HQ.out.alloc (.cells (bvs [Z]).toArray 5))
          go_wp2_with (first
            | (at_builtin; go_loud (refine wpList_append_to rfl (.tmp 26) (.tmp 30) rfl okB rfl HF1.out rfl HR1.out (bvs_one _) 16 rfl (bvs ((keyOf x).take 16)) (by rw [HN.out, bvs_app]) (by unfold maxLen; omega) (by omega) (by rw [World.size_alloc]; have := HQ.out.lt; omega) ?_; intro D3 d3 w3 f3 g3 _)))
          have b3 := HB1.out.grown g3 HB1.out.size (fun g hg => by have := (HF1.out.row g hg).1; omega)
          have hq3 : Box4 w3 w1.heap.size 23 x := (g3.block w1.heap.size (by rw [World.size_alloc]; have := HQ.out.lt; omega) (fun e => by have := (HF1.out.row _ e.symm).1; omega)).trans HQ1.out
          go_roundw
          case rel => exact ⟨16, D3, d3, by omega, rfl, rfl, f3, hq3, b3⟩
          case measure => simp [intOf]
    · go_wp2
      go_ret
      exact ⟨_, _, rfl, by have := HF.out.mono (base' := w.heap.size) (by omega); rwa [List.take_of_length_le (by rw [keyOf_len]; exact Nat.le_refl _)] at this, HBB.out⟩
end Go.Proofs.Ytfjjkkakhfgdhaa
