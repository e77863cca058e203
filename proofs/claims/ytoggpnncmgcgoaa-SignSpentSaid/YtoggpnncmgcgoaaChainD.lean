/-
  Contracts of package chain: fifteen ten times (slices.Repeat).
-/
import Derived.Test.YtoggpnncmgcgoaaChainC
import Derived.Laws.CopyOwn
namespace Go.Proofs.Ytoggpnncmgcgoaa
open Go.RowKit
set_option linter.unusedVariables false
set_option linter.unusedSimpArgs false
set_option maxRecDepth 100000
attribute [local go_sem] ivs_len List.length_replicate

theorem r_mul64 (w : World) : Calls Try.prog 90 #[.int .u64 1, .int .u64 10] w fun e w' => e = .returned (.tuple #[.int .u64 0, .int .u64 10]) ∧ w = w' := by
  have h1 : bits .and .u64 1 4294967295 = 1 := by decide
  have h2 : bits .and .u64 10 4294967295 = 10 := by decide
  have h3 : bits .and .u64 0 4294967295 = 0 := by decide
  go_enter Try.func90, Try.ntmps90
  go_wp2
  go_ret2
  exact ⟨rfl, rfl⟩
theorem r_mul (w : World) : Calls Try.prog 76 #[.int .u64 1, .int .u64 10] w fun e w' => e = .returned (.tuple #[.int .u64 0, .int .u64 10]) ∧ w = w' := by
  go_enter Try.func76, Try.ntmps76
  go_wp2_with fail
  refine (r_mul64 w).mono ?_
  rintro e w1 ⟨rfl, rfl⟩
  go_wp2
  go_ret2
  exact ⟨rfl, rfl⟩
theorem run_mkI {P : Program} {t e : TypeId} (ok : ElemOk P t e 1 8 (.int .i64 0)) (kl kc : IntKind) (n : Nat) (hn : n ≤ 1000000) (w : World) :
    (Instr.makeSlice t (.int kl (n : Int)) (.int kc (n : Int))).run P w = .ok (.slice (some ⟨w.heap.size, 0, none⟩) n n) (w.alloc (.cells (ivs (List.replicate n 0)).toArray e)) := by
  obtain ⟨ht, _, _, i, hi, hz, hs, hb⟩ := ok
  have h := run_make (P := P) w t e i (.int .i64 0) ht hi hz kl kc n n (by omega) (by omega) (by rw [hb]; omega) (by omega)
  rw [h]
  simp only [Int.toNat_natCast, hs, Nat.mul_one]
  congr 3
  apply Array.ext
  · simp [madeCells, ivs]
  · intro j h1 h2
    simp [madeCells, ivs, Value.cells, Nat.mod_one]
def repL (m : Nat) : List Nat := List.replicate m 15 ++ List.replicate (10 - m) 0
theorem rep_cell {wr : World} {g m d : Nat} (hx : wr.heap[g]? = some (.cells (ivs (repL m)).toArray 3 (0, 0))) (hd : d ≤ m) {j : Nat} {v : Value} (hv : (ivs (List.replicate d 15))[j]? = some v) : wr.drew.cell? ((⟨g, 0, none⟩ : Addr).add j) = some v := by
  have hj := (List.getElem?_eq_some_iff.1 hv).1
  rw [ivs_len, List.length_replicate] at hj
  rw [Addr.add_lit]
  show wr.cell? ⟨g, 0 + j, none⟩ = some v
  rw [cell_of_row wr g (0 + j) _ _ _ hx, List.getElem?_toArray, ivs_get, Nat.zero_add, repL, List.getElem?_append_left (by rw [List.length_replicate]; omega), List.getElem?_replicate, if_pos (by omega)]
  rw [ivs_get, List.getElem?_replicate, if_pos hj] at hv
  exact hv
def RepRel (w : World) (n : Value) (wr : World) : Prop :=
  ∃ m : Nat, (m = 1 ∨ m = 2 ∨ m = 4 ∨ m = 8 ∨ m = 10) ∧ n = .int .i64 (m : Nat) ∧ wr.heap[w.heap.size]? = some (.cells (ivs (repL m)).toArray 3 (0, 0)) ∧ Below w.heap.size w wr
theorem r_repeat (g o c : Nat) (w : World) (hc : w.cell? ⟨g, o, none⟩ = some (.int .i64 15)) (hg : g < w.heap.size) :
    Calls Try.prog 52 #[.slice (some ⟨g, o, none⟩) 1 c, .int .i64 10] w fun e w' => ∃ D d, e = .returned (.slice D 10 d) ∧ Fr w' w.heap.size 3 1 D 10 d (ivs (List.replicate 10 15)) ∧ Below w.heap.size w w' := by
  have hmk : ∀ W, (Instr.makeSlice 39 (.int .i64 10) (.int .i64 10)).run Try.prog W = .ok (.slice (some ⟨W.heap.size, 0, none⟩) 10 10) (W.alloc (.cells (ivs (List.replicate 10 0)).toArray 3)) := fun W => run_mkI okI .i64 .i64 10 (by omega) W
  have hi1 : (Try.prog.info? 3).map (·.size) = some 1 := by kernel_rfl
  have hx := heap_alloc_new w (.cells (ivs (List.replicate 10 0)).toArray 3)
  have hb := below_new w (.cells (ivs (List.replicate 10 0)).toArray 3)
  have hcc : (w.alloc (.cells (ivs (List.replicate 10 0)).toArray 3)).cell? ⟨g, o, none⟩ = some (.int .i64 15) := (hb.cell (p := ⟨g, o, none⟩) hg).trans hc
  have HI := Lib.hid hi1
  have HX := Lib.hid hx
  have HB := Lib.hid hb
  have HC := Lib.hid hcc
  clear hi1 hx hb hc hcc
  go_enter Try.func52, Try.ntmps52
  go_wp2_with fail
  refine (r_mul w).mono ?_
  rintro e w1 ⟨rfl, rfl⟩
  go_wp2_with (first
    | (go_loud (refine wpList_copy_own rfl (.tmp 31) (.tmp 32) 39 39 rfl 3 Try.underlying39 HI.out w.heap.size 0 10 10 ⟨g, o, none⟩ 1 c rfl rfl _ 3 HX.out [.int .i64 15] rfl (by
        intro j v hv
        match j, hv with
        | 0, hv => cases hv; exact HC.out) (by decide) (by decide) ?_)))
  have b1 := below_setRow HB.out (g := w.heap.size) (Nat.le_refl _) (ivs (repL 1)).toArray
  have h1 := setRow_heap (w.alloc (.cells (ivs (List.replicate 10 0)).toArray 3)) w.heap.size _ (ivs (repL 1)).toArray 3 _ HX.out
  clear HC HX HB hmk
  go_wp2
  go_loopw [8] (fun n wr => RepRel w n wr) (fun n _ => 10 - (intOf n).toNat)
  case atStart => exact ⟨1, .inl rfl, rfl, h1, b1⟩
  case round =>
    clear h1 b1
    obtain ⟨m, hm, rfl, hx, hb⟩ := hrel
    rcases hm with rfl | rfl | rfl | rfl | rfl
    · have HX := Lib.hid hx
      have HB := Lib.hid hb
      have hc1 := wr.heap[w.heap.size]?
      clear hx hb
      go_wp2_with fail
      refine wp_region_any (by kernel_rfl) ?_
      try (change wpAny _ _ _ _ _ _ _ (World.drew _))
      refine wpAny_take (i := 0) (v := ?_) rfl (by kernel_rfl) (by kernel_rfl) (by kernel_rfl) (fun _ _ _ h => h) (Or.inl ⟨by rfl, ?hyq⟩) ?_
      case hyq => (intro w; go_simp; try (with_reducible rfl))
      refine wpAny_take (i := 1) (v := ?_) rfl (by kernel_rfl) (by kernel_rfl) (by kernel_rfl) (fun _ _ _ h => h) (Or.inl ⟨by rfl, ?hyq⟩) ?_
      case hyq => (intro w; go_simp; try (with_reducible rfl))
      refine wpAny_take (i := 2) (v := ?_) rfl (by kernel_rfl) (by kernel_rfl) (by kernel_rfl) (fun _ _ _ h => h) (Or.inl ⟨by rfl, ?hyq⟩) ?_
      case hyq => (intro w; go_simp; try (with_reducible rfl))
      refine wpAny_take (i := 3) (v := ?_) rfl (by kernel_rfl) (by kernel_rfl) (by kernel_rfl) (fun _ _ _ h => h) (Or.inl ⟨by rfl, ?hyq⟩) ?_
      case hyq => (intro w; go_simp; try (with_reducible rfl))
      refine wpAny_take (i := 4) (v := ?_) rfl (by kernel_rfl) (by kernel_rfl) (by kernel_rfl) (fun _ _ _ h => h) (Or.inl ⟨by rfl, ?hyq⟩) ?_
      case hyq => (intro w; go_simp; try (with_reducible rfl))
      refine wpAny_take (i := 5) (v := ?_) rfl (by kernel_rfl) (by kernel_rfl) (by kernel_rfl) (fun _ _ _ h => h) (Or.inl ⟨by rfl, ?hyq⟩) ?_
      case hyq => (intro w; go_simp; try (with_reducible rfl))
      refine wpAny_take (i := 6) (v := ?_) rfl (by kernel_rfl) (by kernel_rfl) (by kernel_rfl) (fun _ _ _ h => h) (Or.inl ⟨by rfl, ?hyq⟩) ?_
      case hyq => (intro w; go_simp; try (with_reducible rfl))
      refine wpAny_ready (rs := [7]) (by kernel_rfl) (by simp) ?_
      refine AllReady.cons rfl (fun K hK => ?_) ?_
      · skip
        refine step_copy_splice rfl (.tmp 41) (.tmp 44) 39 39 rfl 3 Try.underlying39 HI.out (some ⟨w.heap.size, 1, none⟩) (some ⟨w.heap.size, 0, none⟩) (10 - 1) (10 - 1) 1 10 (by simp [Act.eval, Act.put]) (by simp [Act.eval, Act.put]) w.heap.size 1 (ivs (repL 1)) 3 HX.out (ivs (List.replicate 1 15)) rfl (fun _ => ⟨rfl, _, rfl, fun j v hv => ?src⟩) (by decide) (ivs_one _) w.heap.size w HB.out.drew (Nat.le_refl _) ?_
        case src => exact rep_cell HX.out (by decide) hv
        intro w6 h6 b6
        refine hK _ _ ?_
        clear hK K
        refine wpAny_ready (rs := [8]) (by kernel_rfl) (by simp) ?_
        refine AllReady.cons rfl (fun K hK => ?_) ?_
        · skip
          go_simp
          refine hK _ _ ?_
          clear hK K
          refine wpAny_ready (rs := [9]) (by kernel_rfl) (by simp) ?_
          refine AllReady.cons rfl (fun K hK => ?_) ?_
          · skip
            go_simp
            refine hK _ _ ?_
            clear hK K
            refine wpAny_done (by kernel_rfl) ?_ _
            go_wp2
            go_roundw
            case rel => exact ⟨2, by omega, rfl, h6.out, b6⟩
            case measure => first | decide | simp [intOf, IntKind.wrap_i64]
          exact AllReady.nil
        exact AllReady.nil
      exact AllReady.nil
    · have HX := Lib.hid hx
      have HB := Lib.hid hb
      have hc1 := wr.heap[w.heap.size]?
      clear hx hb
      go_wp2_with fail
      refine wp_region_any (by kernel_rfl) ?_
      try (change wpAny _ _ _ _ _ _ _ (World.drew _))
      refine wpAny_take (i := 0) (v := ?_) rfl (by kernel_rfl) (by kernel_rfl) (by kernel_rfl) (fun _ _ _ h => h) (Or.inl ⟨by rfl, ?hyq⟩) ?_
      case hyq => (intro w; go_simp; try (with_reducible rfl))
      refine wpAny_take (i := 1) (v := ?_) rfl (by kernel_rfl) (by kernel_rfl) (by kernel_rfl) (fun _ _ _ h => h) (Or.inl ⟨by rfl, ?hyq⟩) ?_
      case hyq => (intro w; go_simp; try (with_reducible rfl))
      refine wpAny_take (i := 2) (v := ?_) rfl (by kernel_rfl) (by kernel_rfl) (by kernel_rfl) (fun _ _ _ h => h) (Or.inl ⟨by rfl, ?hyq⟩) ?_
      case hyq => (intro w; go_simp; try (with_reducible rfl))
      refine wpAny_take (i := 3) (v := ?_) rfl (by kernel_rfl) (by kernel_rfl) (by kernel_rfl) (fun _ _ _ h => h) (Or.inl ⟨by rfl, ?hyq⟩) ?_
      case hyq => (intro w; go_simp; try (with_reducible rfl))
      refine wpAny_take (i := 4) (v := ?_) rfl (by kernel_rfl) (by kernel_rfl) (by kernel_rfl) (fun _ _ _ h => h) (Or.inl ⟨by rfl, ?hyq⟩) ?_
      case hyq => (intro w; go_simp; try (with_reducible rfl))
      refine wpAny_take (i := 5) (v := ?_) rfl (by kernel_rfl) (by kernel_rfl) (by kernel_rfl) (fun _ _ _ h => h) (Or.inl ⟨by rfl, ?hyq⟩) ?_
      case hyq => (intro w; go_simp; try (with_reducible rfl))
      refine wpAny_take (i := 6) (v := ?_) rfl (by kernel_rfl) (by kernel_rfl) (by kernel_rfl) (fun _ _ _ h => h) (Or.inl ⟨by rfl, ?hyq⟩) ?_
      case hyq => (intro w; go_simp; try (with_reducible rfl))
      refine wpAny_ready (rs := [7]) (by kernel_rfl) (by simp) ?_
      refine AllReady.cons rfl (fun K hK => ?_) ?_
      · skip
        refine step_copy_splice rfl (.tmp 41) (.tmp 44) 39 39 rfl 3 Try.underlying39 HI.out (some ⟨w.heap.size, 2, none⟩) (some ⟨w.heap.size, 0, none⟩) (10 - 2) (10 - 2) 2 10 (by simp [Act.eval, Act.put]) (by simp [Act.eval, Act.put]) w.heap.size 2 (ivs (repL 2)) 3 HX.out (ivs (List.replicate 2 15)) rfl (fun _ => ⟨rfl, _, rfl, fun j v hv => ?src⟩) (by decide) (ivs_one _) w.heap.size w HB.out.drew (Nat.le_refl _) ?_
        case src => exact rep_cell HX.out (by decide) hv
        intro w6 h6 b6
        refine hK _ _ ?_
        clear hK K
        refine wpAny_ready (rs := [8]) (by kernel_rfl) (by simp) ?_
        refine AllReady.cons rfl (fun K hK => ?_) ?_
        · skip
          go_simp
          refine hK _ _ ?_
          clear hK K
          refine wpAny_ready (rs := [9]) (by kernel_rfl) (by simp) ?_
          refine AllReady.cons rfl (fun K hK => ?_) ?_
          · skip
            go_simp
            refine hK _ _ ?_
            clear hK K
            refine wpAny_done (by kernel_rfl) ?_ _
            go_wp2
            go_roundw
            case rel => exact ⟨4, by omega, rfl, h6.out, b6⟩
            case measure => first | decide | simp [intOf, IntKind.wrap_i64]
          exact AllReady.nil
        exact AllReady.nil
      exact AllReady.nil
    · have HX := Lib.hid hx
      have HB := Lib.hid hb
      have hc1 := wr.heap[w.heap.size]?
      clear hx hb
      go_wp2_with fail
      refine wp_region_any (by kernel_rfl) ?_
      try (change wpAny _ _ _ _ _ _ _ (World.drew _))
      refine wpAny_take (i := 0) (v := ?_) rfl (by kernel_rfl) (by kernel_rfl) (by kernel_rfl) (fun _ _ _ h => h) (Or.inl ⟨by rfl, ?hyq⟩) ?_
      case hyq => (intro w; go_simp; try (with_reducible rfl))
      refine wpAny_take (i := 1) (v := ?_) rfl (by kernel_rfl) (by kernel_rfl) (by kernel_rfl) (fun _ _ _ h => h) (Or.inl ⟨by rfl, ?hyq⟩) ?_
      case hyq => (intro w; go_simp; try (with_reducible rfl))
      refine wpAny_take (i := 2) (v := ?_) rfl (by kernel_rfl) (by kernel_rfl) (by kernel_rfl) (fun _ _ _ h => h) (Or.inl ⟨by rfl, ?hyq⟩) ?_
      case hyq => (intro w; go_simp; try (with_reducible rfl))
      refine wpAny_take (i := 3) (v := ?_) rfl (by kernel_rfl) (by kernel_rfl) (by kernel_rfl) (fun _ _ _ h => h) (Or.inl ⟨by rfl, ?hyq⟩) ?_
      case hyq => (intro w; go_simp; try (with_reducible rfl))
      refine wpAny_take (i := 4) (v := ?_) rfl (by kernel_rfl) (by kernel_rfl) (by kernel_rfl) (fun _ _ _ h => h) (Or.inl ⟨by rfl, ?hyq⟩) ?_
      case hyq => (intro w; go_simp; try (with_reducible rfl))
      refine wpAny_take (i := 5) (v := ?_) rfl (by kernel_rfl) (by kernel_rfl) (by kernel_rfl) (fun _ _ _ h => h) (Or.inl ⟨by rfl, ?hyq⟩) ?_
      case hyq => (intro w; go_simp; try (with_reducible rfl))
      refine wpAny_take (i := 6) (v := ?_) rfl (by kernel_rfl) (by kernel_rfl) (by kernel_rfl) (fun _ _ _ h => h) (Or.inl ⟨by rfl, ?hyq⟩) ?_
      case hyq => (intro w; go_simp; try (with_reducible rfl))
      refine wpAny_ready (rs := [7]) (by kernel_rfl) (by simp) ?_
      refine AllReady.cons rfl (fun K hK => ?_) ?_
      · skip
        refine step_copy_splice rfl (.tmp 41) (.tmp 44) 39 39 rfl 3 Try.underlying39 HI.out (some ⟨w.heap.size, 4, none⟩) (some ⟨w.heap.size, 0, none⟩) (10 - 4) (10 - 4) 4 10 (by simp [Act.eval, Act.put]) (by simp [Act.eval, Act.put]) w.heap.size 4 (ivs (repL 4)) 3 HX.out (ivs (List.replicate 4 15)) rfl (fun _ => ⟨rfl, _, rfl, fun j v hv => ?src⟩) (by decide) (ivs_one _) w.heap.size w HB.out.drew (Nat.le_refl _) ?_
        case src => exact rep_cell HX.out (by decide) hv
        intro w6 h6 b6
        refine hK _ _ ?_
        clear hK K
        refine wpAny_ready (rs := [8]) (by kernel_rfl) (by simp) ?_
        refine AllReady.cons rfl (fun K hK => ?_) ?_
        · skip
          go_simp
          refine hK _ _ ?_
          clear hK K
          refine wpAny_ready (rs := [9]) (by kernel_rfl) (by simp) ?_
          refine AllReady.cons rfl (fun K hK => ?_) ?_
          · skip
            go_simp
            refine hK _ _ ?_
            clear hK K
            refine wpAny_done (by kernel_rfl) ?_ _
            go_wp2
            go_roundw
            case rel => exact ⟨8, by omega, rfl, h6.out, b6⟩
            case measure => first | decide | simp [intOf, IntKind.wrap_i64]
          exact AllReady.nil
        exact AllReady.nil
      exact AllReady.nil
    · have HX := Lib.hid hx
      have HB := Lib.hid hb
      have hc1 := wr.heap[w.heap.size]?
      clear hx hb
      go_wp2_with fail
      refine wp_region_any (by kernel_rfl) ?_
      try (change wpAny _ _ _ _ _ _ _ (World.drew _))
      refine wpAny_take (i := 0) (v := ?_) rfl (by kernel_rfl) (by kernel_rfl) (by kernel_rfl) (fun _ _ _ h => h) (Or.inl ⟨by rfl, ?hyq⟩) ?_
      case hyq => (intro w; go_simp; try (with_reducible rfl))
      refine wpAny_take (i := 1) (v := ?_) rfl (by kernel_rfl) (by kernel_rfl) (by kernel_rfl) (fun _ _ _ h => h) (Or.inl ⟨by rfl, ?hyq⟩) ?_
      case hyq => (intro w; go_simp; try (with_reducible rfl))
      refine wpAny_take (i := 2) (v := ?_) rfl (by kernel_rfl) (by kernel_rfl) (by kernel_rfl) (fun _ _ _ h => h) (Or.inl ⟨by rfl, ?hyq⟩) ?_
      case hyq => (intro w; go_simp; try (with_reducible rfl))
      refine wpAny_take (i := 3) (v := ?_) rfl (by kernel_rfl) (by kernel_rfl) (by kernel_rfl) (fun _ _ _ h => h) (Or.inl ⟨by rfl, ?hyq⟩) ?_
      case hyq => (intro w; go_simp; try (with_reducible rfl))
      refine wpAny_take (i := 4) (v := ?_) rfl (by kernel_rfl) (by kernel_rfl) (by kernel_rfl) (fun _ _ _ h => h) (Or.inl ⟨by rfl, ?hyq⟩) ?_
      case hyq => (intro w; go_simp; try (with_reducible rfl))
      refine wpAny_take (i := 5) (v := ?_) rfl (by kernel_rfl) (by kernel_rfl) (by kernel_rfl) (fun _ _ _ h => h) (Or.inl ⟨by rfl, ?hyq⟩) ?_
      case hyq => (intro w; go_simp; try (with_reducible rfl))
      refine wpAny_take (i := 6) (v := ?_) rfl (by kernel_rfl) (by kernel_rfl) (by kernel_rfl) (fun _ _ _ h => h) (Or.inl ⟨by rfl, ?hyq⟩) ?_
      case hyq => (intro w; go_simp; try (with_reducible rfl))
      refine wpAny_ready (rs := [7]) (by kernel_rfl) (by simp) ?_
      refine AllReady.cons rfl (fun K hK => ?_) ?_
      · skip
        refine step_copy_splice rfl (.tmp 41) (.tmp 44) 39 39 rfl 3 Try.underlying39 HI.out (some ⟨w.heap.size, 8, none⟩) (some ⟨w.heap.size, 0, none⟩) (10 - 8) (10 - 8) 8 10 (by simp [Act.eval, Act.put]) (by simp [Act.eval, Act.put]) w.heap.size 8 (ivs (repL 8)) 3 HX.out (ivs (List.replicate 2 15)) rfl (fun _ => ⟨rfl, _, rfl, fun j v hv => ?src⟩) (by decide) (ivs_one _) w.heap.size w HB.out.drew (Nat.le_refl _) ?_
        case src => exact rep_cell HX.out (by decide) hv
        intro w6 h6 b6
        refine hK _ _ ?_
        clear hK K
        refine wpAny_ready (rs := [8]) (by kernel_rfl) (by simp) ?_
        refine AllReady.cons rfl (fun K hK => ?_) ?_
        · skip
          go_simp
          refine hK _ _ ?_
          clear hK K
          refine wpAny_ready (rs := [9]) (by kernel_rfl) (by simp) ?_
          refine AllReady.cons rfl (fun K hK => ?_) ?_
          · skip
            go_simp
            refine hK _ _ ?_
            clear hK K
            refine wpAny_done (by kernel_rfl) ?_ _
            go_wp2
            go_roundw
            case rel => exact ⟨10, by omega, rfl, h6.out, b6⟩
            case measure => first | decide | simp [intOf, IntKind.wrap_i64]
          exact AllReady.nil
        exact AllReady.nil
      exact AllReady.nil
    · have hf : Fr wr w.heap.size 3 1 (some ⟨w.heap.size, 0, none⟩) 10 10 (ivs (List.replicate 10 15)) := ⟨rfl, by decide, by decide, .inr ⟨w.heap.size, _, (0, 0), rfl, Nat.le_refl _, hx, by simp, rfl, rfl⟩⟩
      go_wp2
      go_ret
      exact ⟨_, _, rfl, hf, hb⟩
end Go.Proofs.Ytoggpnncmgcgoaa
