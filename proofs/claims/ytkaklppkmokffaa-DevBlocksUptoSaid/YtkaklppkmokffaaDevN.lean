/-
  Contract of dev.New.
-/
import Derived.Test.YtkaklppkmokffaaDevI
namespace Go.Proofs.Ytkaklppkmokffaa
open Go.RowKit
set_option linter.unusedVariables false
set_option linter.unusedSimpArgs false
set_option maxRecDepth 100000

/-- m numbers, and noughts. -/
def repI (m : Nat) (v : Int) : List Value := List.replicate m (.int .i64 v)
theorem repI_len (m : Nat) (v : Int) : (repI m v).length = m := List.length_replicate
theorem repI_one (m : Nat) (v : Int) : ∀ u ∈ repI m v, u.oneCell' = true := by
  intro u hu
  rw [List.eq_of_mem_replicate hu]
  rfl
def repL (m : Nat) : List Value := repI m 256 ++ repI (256 - m) 0
theorem repL_len {m : Nat} (h : m ≤ 256) : (repL m).length = 256 := by rw [repL, List.length_append, repI_len, repI_len]; omega
theorem repL_step {m d : Nat} (h : m + d ≤ 256) : splice (repL m) m (repI d 256) = repL (m + d) := by
  unfold splice repL repI
  rw [List.take_left' List.length_replicate, List.drop_append, List.drop_eq_nil_of_le (by simp), List.nil_append, List.drop_replicate, ← List.append_assoc, List.replicate_append_replicate]
  simp only [List.length_replicate]
  rw [show 256 - m - (m + d - m) = 256 - (m + d) by omega]
attribute [local go_sem] repI_len
theorem r_mul64 (w : World) : Calls Try.prog 67 #[.int .u64 1, .int .u64 256] w fun e w' => e = .returned (.tuple #[.int .u64 0, .int .u64 256]) ∧ w = w' := by
  have h1 : bits .and .u64 1 4294967295 = 1 := by decide
  have h2 : bits .and .u64 256 4294967295 = 256 := by decide
  have h3 : bits .and .u64 0 4294967295 = 0 := by decide
  go_enter Try.func67, Try.ntmps67
  go_wp2
  go_ret2
  exact ⟨rfl, rfl⟩
theorem r_mul (w : World) : Calls Try.prog 64 #[.int .u64 1, .int .u64 256] w fun e w' => e = .returned (.tuple #[.int .u64 0, .int .u64 256]) ∧ w = w' := by
  go_enter Try.func64, Try.ntmps64
  go_wp2_with fail
  refine (r_mul64 w).mono ?_
  rintro e w1 ⟨rfl, rfl⟩
  go_wp2
  go_ret2
  exact ⟨rfl, rfl⟩
theorem run_mkI {P : Program} {t e : TypeId} (ok : ElemOk P t e 1 8 (.int .i64 0)) (kl kc : IntKind) (n : Nat) (hn : n ≤ 1000000) (w : World) :
    (Instr.makeSlice t (.int kl (n : Int)) (.int kc (n : Int))).run P w = .ok (.slice (some ⟨w.heap.size, 0, none⟩) n n) (w.alloc (.cells (repI n 0).toArray e)) := by
  obtain ⟨ht, _, _, i, hi, hz, hs, hb⟩ := ok
  have h := run_make (P := P) w t e i (.int .i64 0) ht hi hz kl kc n n (by omega) (by omega) (by rw [hb]; omega) (by omega)
  rw [h]
  simp only [Int.toNat_natCast, hs, Nat.mul_one]
  congr 3
  apply Array.ext
  · simp [madeCells, repI]
  · intro j h1 h2
    simp [madeCells, repI, Value.cells, Nat.mod_one]
theorem rep_cell {wr : World} {g m d : Nat} (hx : wr.heap[g]? = some (.cells (repL m).toArray 3 (0, 0))) (hd : d ≤ m) {j : Nat} {v : Value} (hv : (repI d 256)[j]? = some v) : wr.drew.cell? ((⟨g, 0, none⟩ : Addr).add j) = some v := by
  have hj := (List.getElem?_eq_some_iff.1 hv).1
  rw [repI_len] at hj
  rw [Addr.add_lit]
  show wr.cell? ⟨g, 0 + j, none⟩ = some v
  rw [cell_of_row wr g (0 + j) _ _ _ hx, List.getElem?_toArray, Nat.zero_add, repL, List.getElem?_append_left (by rw [repI_len]; omega), repI, List.getElem?_replicate, if_pos (by omega)]
  rw [repI, List.getElem?_replicate, if_pos hj] at hv
  exact hv
theorem rep_one {w : World} {g o : Nat} (h : w.cell? ⟨g, o, none⟩ = some (.int .i64 256)) : ∀ j v, (repI 1 256)[j]? = some v → w.cell? ((⟨g, o, none⟩ : Addr).add j) = some v := by
  intro j v hv
  match j, hv with
  | 0, hv =>
    cases hv
    exact h
def RepRel (w : World) (n : Value) (wr : World) : Prop :=
  ∃ m : Nat, (m = 1 ∨ m = 2 ∨ m = 4 ∨ m = 8 ∨ m = 16 ∨ m = 32 ∨ m = 64 ∨ m = 128 ∨ m = 256) ∧ n = .int .i64 (m : Nat) ∧ wr.heap[w.heap.size]? = some (.cells (repL m).toArray 3 (0, 0)) ∧ Below w.heap.size w wr
theorem r_repeat (g o c : Nat) (w : World) (hc : w.cell? ⟨g, o, none⟩ = some (.int .i64 256)) (hg : g < w.heap.size) :
    Calls Try.prog 58 #[.slice (some ⟨g, o, none⟩) 1 c, .int .i64 256] w fun e w' => e = .returned (.slice (some ⟨w.heap.size, 0, none⟩) 256 256) ∧ Rd w' w'.heap.size 1 (some ⟨w.heap.size, 0, none⟩) 256 (repI 256 256) ∧ Below w.heap.size w w' := by
  have hmk : ∀ W, (Instr.makeSlice 68 (.int .i64 256) (.int .i64 256)).run Try.prog W = .ok (.slice (some ⟨W.heap.size, 0, none⟩) 256 256) (W.alloc (.cells (repI 256 0).toArray 3)) := fun W => run_mkI okI .i64 .i64 256 (by omega) W
  have hi1 : (Try.prog.info? 3).map (·.size) = some 1 := by kernel_rfl
  have hx := heap_alloc_new w (.cells (repI 256 0).toArray 3)
  have hb := below_new' w (.cells (repI 256 0).toArray 3)
  have hcc : (w.alloc (.cells (repI 256 0).toArray 3)).cell? ⟨g, o, none⟩ = some (.int .i64 256) := (hb.cell (p := ⟨g, o, none⟩) hg).trans hc
  have HI := Lib.hid hi1
  have HX := Lib.hid hx
  have HB := Lib.hid hb
  have HC := Lib.hid hcc
  clear hi1 hx hb hc hcc
  go_enter Try.func58, Try.ntmps58
  go_wp2_with fail
  refine (r_mul w).mono ?_
  rintro e w1 ⟨rfl, rfl⟩
  go_wp2_with ((with_reducible refine at_copy ?_); go_loud (refine wpList_copy_to rfl (.tmp 31) (.tmp 32) 68 68 rfl 3 Try.underlying68 HI.out (some ⟨w.heap.size, 0, none⟩) (some ⟨g, o, none⟩) 256 256 1 c rfl rfl w.heap.size 0 (repI 256 0) 3 HX.out (repI 1 256) rfl (fun _ => ⟨rfl, _, rfl, rep_one HC.out⟩) (by rw [repI_len, repI_len]; decide) (repI_one _ _) ?_; intro w3 h3 g3 z3; rw [repI_len]))
  have h1 : w3.heap[w.heap.size]? = some (.cells (repL 1).toArray 3 (0, 0)) := by
    have := h3.out
    rw [show splice (repI 256 0) 0 (repI 1 256) = repL 1 from rfl] at this
    exact this
  have b1 : Below w.heap.size w w3 := HB.out.grown g3 HB.out.size (by intro q hq; cases hq; exact Nat.le_refl _)
  have H1 := Lib.hid h1
  have B1 := Lib.hid b1
  clear HC HX HB hmk h1 b1 h3 g3 z3
  go_loopw [8] (fun n wr => RepRel w n wr) (fun n _ => 256 - (intOf n).toNat)
  case atStart => exact ⟨1, .inl rfl, rfl, H1.out, B1.out⟩
  case round =>
    clear H1 B1
    obtain ⟨m, hm, rfl, hx, hb⟩ := hrel
    rcases hm with rfl | rfl | rfl | rfl | rfl | rfl | rfl | rfl | rfl
    · have HX := Lib.hid hx
      have HB := Lib.hid hb
      clear hx hb
      go_wp2_with fail
      refine wp_region_any (by kernel_rfl) ?_
      try (change wpAny _ _ _ _ _ _ _ (World.drew _))
      refine wpAny_take (i := 0) (v := ?_) rfl (by kernel_rfl) (by kernel_rfl) (by kernel_rfl) (fun _ _ _ h => h) (Or.inl ⟨by rfl, ?hyq⟩) ?_
      case hyq => (intro w; go_simp; try (with_reducible rfl))
      refine wpAny_take (i := 1) (v := ?_) rfl (by kernel_rfl) (by kernel_rfl) (by kernel_rfl) (fun _ _ _ h => h) (Or.inl ⟨by rfl, ?hyq⟩) ?_
      case hyq => (intro w; go_simp; try (with_reducible rfl))
      refine wpAny_take (i := 2) (v := ?_) rfl (by kernel_rfl) (by kernel_rfl) (by kernel_rfl) (fun _ _ _ h => h) (Or.inl ⟨by rfl, ?hyq⟩) ?_
      case hyq => (intro w; go_simp; try (with_reducible rfl))
      refine wpAny_take (i := 3) (v := ?_) rfl (by kernel_rfl) (by kernel_rfl) (by kernel_rfl) (fun _ _ _ h => h) (Or.inl ⟨by rfl, ?hyq⟩) ?_
      case hyq => (intro w; go_simp; try (with_reducible rfl))
      refine wpAny_take (i := 4) (v := ?_) rfl (by kernel_rfl) (by kernel_rfl) (by kernel_rfl) (fun _ _ _ h => h) (Or.inl ⟨by rfl, ?hyq⟩) ?_
      case hyq => (intro w; go_simp; try (with_reducible rfl))
      refine wpAny_take (i := 5) (v := ?_) rfl (by kernel_rfl) (by kernel_rfl) (by kernel_rfl) (fun _ _ _ h => h) (Or.inl ⟨by rfl, ?hyq⟩) ?_
      case hyq => (intro w; go_simp; try (with_reducible rfl))
      refine wpAny_take (i := 6) (v := ?_) rfl (by kernel_rfl) (by kernel_rfl) (by kernel_rfl) (fun _ _ _ h => h) (Or.inl ⟨by rfl, ?hyq⟩) ?_
      case hyq => (intro w; go_simp; try (with_reducible rfl))
      refine wpAny_ready (rs := [7]) (by kernel_rfl) (by simp) ?_
      refine AllReady.cons rfl (fun K hK => ?_) ?_
      · skip
        refine step_copy_splice rfl (.tmp 41) (.tmp 44) 68 68 rfl 3 Try.underlying68 HI.out (some ⟨w.heap.size, 1, none⟩) (some ⟨w.heap.size, 0, none⟩) (256 - 1) (256 - 1) 1 256 (by simp [Act.eval, Act.put]) (by simp [Act.eval, Act.put]) w.heap.size 1 (repL 1) 3 HX.out (repI 1 256) (repI_len _ _) (fun _ => ⟨rfl, _, rfl, fun j v hv => ?src⟩) (by rw [repI_len, repL_len (by decide)]; decide) (repI_one _ _) w.heap.size w HB.out.drew (Nat.le_refl _) ?_
        case src => exact rep_cell HX.out (Nat.le_refl _) hv
        intro w6 h6 b6
        rw [repI_len]
        have h7 : w6.heap[w.heap.size]? = some (.cells (repL 2).toArray 3 (0, 0)) := by
          have := h6.out
          rw [repL_step (by decide)] at this
          exact this
        clear h6
        refine hK _ _ ?_
        clear hK K
        refine wpAny_ready (rs := [8]) (by kernel_rfl) (by simp) ?_
        refine AllReady.cons rfl (fun K hK => ?_) ?_
        · skip
          go_simp
          refine hK _ _ ?_
          clear hK K
          refine wpAny_ready (rs := [9]) (by kernel_rfl) (by simp) ?_
          refine AllReady.cons rfl (fun K hK => ?_) ?_
          · skip
            go_simp
            refine hK _ _ ?_
            clear hK K
            refine wpAny_done (by kernel_rfl) ?_ _
            go_wp2
            go_roundw
            case rel => exact ⟨2, by omega, rfl, h7, b6⟩
            case measure => first | decide | simp [intOf, IntKind.wrap_i64]
          exact AllReady.nil
        exact AllReady.nil
      exact AllReady.nil
    · have HX := Lib.hid hx
      have HB := Lib.hid hb
      clear hx hb
      go_wp2_with fail
      refine wp_region_any (by kernel_rfl) ?_
      try (change wpAny _ _ _ _ _ _ _ (World.drew _))
      refine wpAny_take (i := 0) (v := ?_) rfl (by kernel_rfl) (by kernel_rfl) (by kernel_rfl) (fun _ _ _ h => h) (Or.inl ⟨by rfl, ?hyq⟩) ?_
      case hyq => (intro w; go_simp; try (with_reducible rfl))
      refine wpAny_take (i := 1) (v := ?_) rfl (by kernel_rfl) (by kernel_rfl) (by kernel_rfl) (fun _ _ _ h => h) (Or.inl ⟨by rfl, ?hyq⟩) ?_
      case hyq => (intro w; go_simp; try (with_reducible rfl))
      refine wpAny_take (i := 2) (v := ?_) rfl (by kernel_rfl) (by kernel_rfl) (by kernel_rfl) (fun _ _ _ h => h) (Or.inl ⟨by rfl, ?hyq⟩) ?_
      case hyq => (intro w; go_simp; try (with_reducible rfl))
      refine wpAny_take (i := 3) (v := ?_) rfl (by kernel_rfl) (by kernel_rfl) (by kernel_rfl) (fun _ _ _ h => h) (Or.inl ⟨by rfl, ?hyq⟩) ?_
      case hyq => (intro w; go_simp; try (with_reducible rfl))
      refine wpAny_take (i := 4) (v := ?_) rfl (by kernel_rfl) (by kernel_rfl) (by kernel_rfl) (fun _ _ _ h => h) (Or.inl ⟨by rfl, ?hyq⟩) ?_
      case hyq => (intro w; go_simp; try (with_reducible rfl))
      refine wpAny_take (i := 5) (v := ?_) rfl (by kernel_rfl) (by kernel_rfl) (by kernel_rfl) (fun _ _ _ h => h) (Or.inl ⟨by rfl, ?hyq⟩) ?_
      case hyq => (intro w; go_simp; try (with_reducible rfl))
      refine wpAny_take (i := 6) (v := ?_) rfl (by kernel_rfl) (by kernel_rfl) (by kernel_rfl) (fun _ _ _ h => h) (Or.inl ⟨by rfl, ?hyq⟩) ?_
      case hyq => (intro w; go_simp; try (with_reducible rfl))
      refine wpAny_ready (rs := [7]) (by kernel_rfl) (by simp) ?_
      refine AllReady.cons rfl (fun K hK => ?_) ?_
      · skip
        refine step_copy_splice rfl (.tmp 41) (.tmp 44) 68 68 rfl 3 Try.underlying68 HI.out (some ⟨w.heap.size, 2, none⟩) (some ⟨w.heap.size, 0, none⟩) (256 - 2) (256 - 2) 2 256 (by simp [Act.eval, Act.put]) (by simp [Act.eval, Act.put]) w.heap.size 2 (repL 2) 3 HX.out (repI 2 256) (repI_len _ _) (fun _ => ⟨rfl, _, rfl, fun j v hv => ?src⟩) (by rw [repI_len, repL_len (by decide)]; decide) (repI_one _ _) w.heap.size w HB.out.drew (Nat.le_refl _) ?_
        case src => exact rep_cell HX.out (Nat.le_refl _) hv
        intro w6 h6 b6
        rw [repI_len]
        have h7 : w6.heap[w.heap.size]? = some (.cells (repL 4).toArray 3 (0, 0)) := by
          have := h6.out
          rw [repL_step (by decide)] at this
          exact this
        clear h6
        refine hK _ _ ?_
        clear hK K
        refine wpAny_ready (rs := [8]) (by kernel_rfl) (by simp) ?_
        refine AllReady.cons rfl (fun K hK => ?_) ?_
        · skip
          go_simp
          refine hK _ _ ?_
          clear hK K
          refine wpAny_ready (rs := [9]) (by kernel_rfl) (by simp) ?_
          refine AllReady.cons rfl (fun K hK => ?_) ?_
          · skip
            go_simp
            refine hK _ _ ?_
            clear hK K
            refine wpAny_done (by kernel_rfl) ?_ _
            go_wp2
            go_roundw
            case rel => exact ⟨4, by omega, rfl, h7, b6⟩
            case measure => first | decide | simp [intOf, IntKind.wrap_i64]
          exact AllReady.nil
        exact AllReady.nil
      exact AllReady.nil
    · have HX := Lib.hid hx
      have HB := Lib.hid hb
      clear hx hb
      go_wp2_with fail
      refine wp_region_any (by kernel_rfl) ?_
      try (change wpAny _ _ _ _ _ _ _ (World.drew _))
      refine wpAny_take (i := 0) (v := ?_) rfl (by kernel_rfl) (by kernel_rfl) (by kernel_rfl) (fun _ _ _ h => h) (Or.inl ⟨by rfl, ?hyq⟩) ?_
      case hyq => (intro w; go_simp; try (with_reducible rfl))
      refine wpAny_take (i := 1) (v := ?_) rfl (by kernel_rfl) (by kernel_rfl) (by kernel_rfl) (fun _ _ _ h => h) (Or.inl ⟨by rfl, ?hyq⟩) ?_
      case hyq => (intro w; go_simp; try (with_reducible rfl))
      refine wpAny_take (i := 2) (v := ?_) rfl (by kernel_rfl) (by kernel_rfl) (by kernel_rfl) (fun _ _ _ h => h) (Or.inl ⟨by rfl, ?hyq⟩) ?_
      case hyq => (intro w; go_simp; try (with_reducible rfl))
      refine wpAny_take (i := 3) (v := ?_) rfl (by kernel_rfl) (by kernel_rfl) (by kernel_rfl) (fun _ _ _ h => h) (Or.inl ⟨by rfl, ?hyq⟩) ?_
      case hyq => (intro w; go_simp; try (with_reducible rfl))
      refine wpAny_take (i := 4) (v := ?_) rfl (by kernel_rfl) (by kernel_rfl) (by kernel_rfl) (fun _ _ _ h => h) (Or.inl ⟨by rfl, ?hyq⟩) ?_
      case hyq => (intro w; go_simp; try (with_reducible rfl))
      refine wpAny_take (i := 5) (v := ?_) rfl (by kernel_rfl) (by kernel_rfl) (by kernel_rfl) (fun _ _ _ h => h) (Or.inl ⟨by rfl, ?hyq⟩) ?_
      case hyq => (intro w; go_simp; try (with_reducible rfl))
      refine wpAny_take (i := 6) (v := ?_) rfl (by kernel_rfl) (by kernel_rfl) (by kernel_rfl) (fun _ _ _ h => h) (Or.inl ⟨by rfl, ?hyq⟩) ?_
      case hyq => (intro w; go_simp; try (with_reducible rfl))
      refine wpAny_ready (rs := [7]) (by kernel_rfl) (by simp) ?_
      refine AllReady.cons rfl (fun K hK => ?_) ?_
      · skip
        refine step_copy_splice rfl (.tmp 41) (.tmp 44) 68 68 rfl 3 Try.underlying68 HI.out (some ⟨w.heap.size, 4, none⟩) (some ⟨w.heap.size, 0, none⟩) (256 - 4) (256 - 4) 4 256 (by simp [Act.eval, Act.put]) (by simp [Act.eval, Act.put]) w.heap.size 4 (repL 4) 3 HX.out (repI 4 256) (repI_len _ _) (fun _ => ⟨rfl, _, rfl, fun j v hv => ?src⟩) (by rw [repI_len, repL_len (by decide)]; decide) (repI_one _ _) w.heap.size w HB.out.drew (Nat.le_refl _) ?_
        case src => exact rep_cell HX.out (Nat.le_refl _) hv
        intro w6 h6 b6
        rw [repI_len]
        have h7 : w6.heap[w.heap.size]? = some (.cells (repL 8).toArray 3 (0, 0)) := by
          have := h6.out
          rw [repL_step (by decide)] at this
          exact this
        clear h6
        refine hK _ _ ?_
        clear hK K
        refine wpAny_ready (rs := [8]) (by kernel_rfl) (by simp) ?_
        refine AllReady.cons rfl (fun K hK => ?_) ?_
        · skip
          go_simp
          refine hK _ _ ?_
          clear hK K
          refine wpAny_ready (rs := [9]) (by kernel_rfl) (by simp) ?_
          refine AllReady.cons rfl (fun K hK => ?_) ?_
          · skip
            go_simp
            refine hK _ _ ?_
            clear hK K
            refine wpAny_done (by kernel_rfl) ?_ _
            go_wp2
            go_roundw
            case rel => exact ⟨8, by omega, rfl, h7, b6⟩
            case measure => first | decide | simp [intOf, IntKind.wrap_i64]
          exact AllReady.nil
        exact AllReady.nil
      exact AllReady.nil
    · have HX := Lib.hid hx
      have HB := Lib.hid hb
      clear hx hb
      go_wp2_with fail
      refine wp_region_any (by kernel_rfl) ?_
      try (change wpAny _ _ _ _ _ _ _ (World.drew _))
      refine wpAny_take (i := 0) (v := ?_) rfl (by kernel_rfl) (by kernel_rfl) (by kernel_rfl) (fun _ _ _ h => h) (Or.inl ⟨by rfl, ?hyq⟩) ?_
      case hyq => (intro w; go_simp; try (with_reducible rfl))
      refine wpAny_take (i := 1) (v := ?_) rfl (by kernel_rfl) (by kernel_rfl) (by kernel_rfl) (fun _ _ _ h => h) (Or.inl ⟨by rfl, ?hyq⟩) ?_
      case hyq => (intro w; go_simp; try (with_reducible rfl))
      refine wpAny_take (i := 2) (v := ?_) rfl (by kernel_rfl) (by kernel_rfl) (by kernel_rfl) (fun _ _ _ h => h) (Or.inl ⟨by rfl, ?hyq⟩) ?_
      case hyq => (intro w; go_simp; try (with_reducible rfl))
      refine wpAny_take (i := 3) (v := ?_) rfl (by kernel_rfl) (by kernel_rfl) (by kernel_rfl) (fun _ _ _ h => h) (Or.inl ⟨by rfl, ?hyq⟩) ?_
      case hyq => (intro w; go_simp; try (with_reducible rfl))
      refine wpAny_take (i := 4) (v := ?_) rfl (by kernel_rfl) (by kernel_rfl) (by kernel_rfl) (fun _ _ _ h => h) (Or.inl ⟨by rfl, ?hyq⟩) ?_
      case hyq => (intro w; go_simp; try (with_reducible rfl))
      refine wpAny_take (i := 5) (v := ?_) rfl (by kernel_rfl) (by kernel_rfl) (by kernel_rfl) (fun _ _ _ h => h) (Or.inl ⟨by rfl, ?hyq⟩) ?_
      case hyq => (intro w; go_simp; try (with_reducible rfl))
      refine wpAny_take (i := 6) (v := ?_) rfl (by kernel_rfl) (by kernel_rfl) (by kernel_rfl) (fun _ _ _ h => h) (Or.inl ⟨by rfl, ?hyq⟩) ?_
      case hyq => (intro w; go_simp; try (with_reducible rfl))
      refine wpAny_ready (rs := [7]) (by kernel_rfl) (by simp) ?_
      refine AllReady.cons rfl (fun K hK => ?_) ?_
      · skip
        refine step_copy_splice rfl (.tmp 41) (.tmp 44) 68 68 rfl 3 Try.underlying68 HI.out (some ⟨w.heap.size, 8, none⟩) (some ⟨w.heap.size, 0, none⟩) (256 - 8) (256 - 8) 8 256 (by simp [Act.eval, Act.put]) (by simp [Act.eval, Act.put]) w.heap.size 8 (repL 8) 3 HX.out (repI 8 256) (repI_len _ _) (fun _ => ⟨rfl, _, rfl, fun j v hv => ?src⟩) (by rw [repI_len, repL_len (by decide)]; decide) (repI_one _ _) w.heap.size w HB.out.drew (Nat.le_refl _) ?_
        case src => exact rep_cell HX.out (Nat.le_refl _) hv
        intro w6 h6 b6
        rw [repI_len]
        have h7 : w6.heap[w.heap.size]? = some (.cells (repL 16).toArray 3 (0, 0)) := by
          have := h6.out
          rw [repL_step (by decide)] at this
          exact this
        clear h6
        refine hK _ _ ?_
        clear hK K
        refine wpAny_ready (rs := [8]) (by kernel_rfl) (by simp) ?_
        refine AllReady.cons rfl (fun K hK => ?_) ?_
        · skip
          go_simp
          refine hK _ _ ?_
          clear hK K
          refine wpAny_ready (rs := [9]) (by kernel_rfl) (by simp) ?_
          refine AllReady.cons rfl (fun K hK => ?_) ?_
          · skip
            go_simp
            refine hK _ _ ?_
            clear hK K
            refine wpAny_done (by kernel_rfl) ?_ _
            go_wp2
            go_roundw
            case rel => exact ⟨16, by omega, rfl, h7, b6⟩
            case measure => first | decide | simp [intOf, IntKind.wrap_i64]
          exact AllReady.nil
        exact AllReady.nil
      exact AllReady.nil
    · have HX := Lib.hid hx
      have HB := Lib.hid hb
      clear hx hb
      go_wp2_with fail
      refine wp_region_any (by kernel_rfl) ?_
      try (change wpAny _ _ _ _ _ _ _ (World.drew _))
      refine wpAny_take (i := 0) (v := ?_) rfl (by kernel_rfl) (by kernel_rfl) (by kernel_rfl) (fun _ _ _ h => h) (Or.inl ⟨by rfl, ?hyq⟩) ?_
      case hyq => (intro w; go_simp; try (with_reducible rfl))
      refine wpAny_take (i := 1) (v := ?_) rfl (by kernel_rfl) (by kernel_rfl) (by kernel_rfl) (fun _ _ _ h => h) (Or.inl ⟨by rfl, ?hyq⟩) ?_
      case hyq => (intro w; go_simp; try (with_reducible rfl))
      refine wpAny_take (i := 2) (v := ?_) rfl (by kernel_rfl) (by kernel_rfl) (by kernel_rfl) (fun _ _ _ h => h) (Or.inl ⟨by rfl, ?hyq⟩) ?_
      case hyq => (intro w; go_simp; try (with_reducible rfl))
      refine wpAny_take (i := 3) (v := ?_) rfl (by kernel_rfl) (by kernel_rfl) (by kernel_rfl) (fun _ _ _ h => h) (Or.inl ⟨by rfl, ?hyq⟩) ?_
      case hyq => (intro w; go_simp; try (with_reducible rfl))
      refine wpAny_take (i := 4) (v := ?_) rfl (by kernel_rfl) (by kernel_rfl) (by kernel_rfl) (fun _ _ _ h => h) (Or.inl ⟨by rfl, ?hyq⟩) ?_
      case hyq => (intro w; go_simp; try (with_reducible rfl))
      refine wpAny_take (i := 5) (v := ?_) rfl (by kernel_rfl) (by kernel_rfl) (by kernel_rfl) (fun _ _ _ h => h) (Or.inl ⟨by rfl, ?hyq⟩) ?_
      case hyq => (intro w; go_simp; try (with_reducible rfl))
      refine wpAny_take (i := 6) (v := ?_) rfl (by kernel_rfl) (by kernel_rfl) (by kernel_rfl) (fun _ _ _ h => h) (Or.inl ⟨by rfl, ?hyq⟩) ?_
      case hyq => (intro w; go_simp; try (with_reducible rfl))
      refine wpAny_ready (rs := [7]) (by kernel_rfl) (by simp) ?_
      refine AllReady.cons rfl (fun K hK => ?_) ?_
      · skip
        refine step_copy_splice rfl (.tmp 41) (.tmp 44) 68 68 rfl 3 Try.underlying68 HI.out (some ⟨w.heap.size, 16, none⟩) (some ⟨w.heap.size, 0, none⟩) (256 - 16) (256 - 16) 16 256 (by simp [Act.eval, Act.put]) (by simp [Act.eval, Act.put]) w.heap.size 16 (repL 16) 3 HX.out (repI 16 256) (repI_len _ _) (fun _ => ⟨rfl, _, rfl, fun j v hv => ?src⟩) (by rw [repI_len, repL_len (by decide)]; decide) (repI_one _ _) w.heap.size w HB.out.drew (Nat.le_refl _) ?_
        case src => exact rep_cell HX.out (Nat.le_refl _) hv
        intro w6 h6 b6
        rw [repI_len]
        have h7 : w6.heap[w.heap.size]? = some (.cells (repL 32).toArray 3 (0, 0)) := by
          have := h6.out
          rw [repL_step (by decide)] at this
          exact this
        clear h6
        refine hK _ _ ?_
        clear hK K
        refine wpAny_ready (rs := [8]) (by kernel_rfl) (by simp) ?_
        refine AllReady.cons rfl (fun K hK => ?_) ?_
        · skip
          go_simp
          refine hK _ _ ?_
          clear hK K
          refine wpAny_ready (rs := [9]) (by kernel_rfl) (by simp) ?_
          refine AllReady.cons rfl (fun K hK => ?_) ?_
          · skip
            go_simp
            refine hK _ _ ?_
            clear hK K
            refine wpAny_done (by kernel_rfl) ?_ _
            go_wp2
            go_roundw
            case rel => exact ⟨32, by omega, rfl, h7, b6⟩
            case measure => first | decide | simp [intOf, IntKind.wrap_i64]
          exact AllReady.nil
        exact AllReady.nil
      exact AllReady.nil
    · have HX := Lib.hid hx
      have HB := Lib.hid hb
      clear hx hb
      go_wp2_with fail
      refine wp_region_any (by kernel_rfl) ?_
      try (change wpAny _ _ _ _ _ _ _ (World.drew _))
      refine wpAny_take (i := 0) (v := ?_) rfl (by kernel_rfl) (by kernel_rfl) (by kernel_rfl) (fun _ _ _ h => h) (Or.inl ⟨by rfl, ?hyq⟩) ?_
      case hyq => (intro w; go_simp; try (with_reducible rfl))
      refine wpAny_take (i := 1) (v := ?_) rfl (by kernel_rfl) (by kernel_rfl) (by kernel_rfl) (fun _ _ _ h => h) (Or.inl ⟨by rfl, ?hyq⟩) ?_
      case hyq => (intro w; go_simp; try (with_reducible rfl))
      refine wpAny_take (i := 2) (v := ?_) rfl (by kernel_rfl) (by kernel_rfl) (by kernel_rfl) (fun _ _ _ h => h) (Or.inl ⟨by rfl, ?hyq⟩) ?_
      case hyq => (intro w; go_simp; try (with_reducible rfl))
      refine wpAny_take (i := 3) (v := ?_) rfl (by kernel_rfl) (by kernel_rfl) (by kernel_rfl) (fun _ _ _ h => h) (Or.inl ⟨by rfl, ?hyq⟩) ?_
      case hyq => (intro w; go_simp; try (with_reducible rfl))
      refine wpAny_take (i := 4) (v := ?_) rfl (by kernel_rfl) (by kernel_rfl) (by kernel_rfl) (fun _ _ _ h => h) (Or.inl ⟨by rfl, ?hyq⟩) ?_
      case hyq => (intro w; go_simp; try (with_reducible rfl))
      refine wpAny_take (i := 5) (v := ?_) rfl (by kernel_rfl) (by kernel_rfl) (by kernel_rfl) (fun _ _ _ h => h) (Or.inl ⟨by rfl, ?hyq⟩) ?_
      case hyq => (intro w; go_simp; try (with_reducible rfl))
      refine wpAny_take (i := 6) (v := ?_) rfl (by kernel_rfl) (by kernel_rfl) (by kernel_rfl) (fun _ _ _ h => h) (Or.inl ⟨by rfl, ?hyq⟩) ?_
      case hyq => (intro w; go_simp; try (with_reducible rfl))
      refine wpAny_ready (rs := [7]) (by kernel_rfl) (by simp) ?_
      refine AllReady.cons rfl (fun K hK => ?_) ?_
      · skip
        refine step_copy_splice rfl (.tmp 41) (.tmp 44) 68 68 rfl 3 Try.underlying68 HI.out (some ⟨w.heap.size, 32, none⟩) (some ⟨w.heap.size, 0, none⟩) (256 - 32) (256 - 32) 32 256 (by simp [Act.eval, Act.put]) (by simp [Act.eval, Act.put]) w.heap.size 32 (repL 32) 3 HX.out (repI 32 256) (repI_len _ _) (fun _ => ⟨rfl, _, rfl, fun j v hv => ?src⟩) (by rw [repI_len, repL_len (by decide)]; decide) (repI_one _ _) w.heap.size w HB.out.drew (Nat.le_refl _) ?_
        case src => exact rep_cell HX.out (Nat.le_refl _) hv
        intro w6 h6 b6
        rw [repI_len]
        have h7 : w6.heap[w.heap.size]? = some (.cells (repL 64).toArray 3 (0, 0)) := by
          have := h6.out
          rw [repL_step (by decide)] at this
          exact this
        clear h6
        refine hK _ _ ?_
        clear hK K
        refine wpAny_ready (rs := [8]) (by kernel_rfl) (by simp) ?_
        refine AllReady.cons rfl (fun K hK => ?_) ?_
        · skip
          go_simp
          refine hK _ _ ?_
          clear hK K
          refine wpAny_ready (rs := [9]) (by kernel_rfl) (by simp) ?_
          refine AllReady.cons rfl (fun K hK => ?_) ?_
          · skip
            go_simp
            refine hK _ _ ?_
            clear hK K
            refine wpAny_done (by kernel_rfl) ?_ _
            go_wp2
            go_roundw
            case rel => exact ⟨64, by omega, rfl, h7, b6⟩
            case measure => first | decide | simp [intOf, IntKind.wrap_i64]
          exact AllReady.nil
        exact AllReady.nil
      exact AllReady.nil
    · have HX := Lib.hid hx
      have HB := Lib.hid hb
      clear hx hb
      go_wp2_with fail
      refine wp_region_any (by kernel_rfl) ?_
      try (change wpAny _ _ _ _ _ _ _ (World.drew _))
      refine wpAny_take (i := 0) (v := ?_) rfl (by kernel_rfl) (by kernel_rfl) (by kernel_rfl) (fun _ _ _ h => h) (Or.inl ⟨by rfl, ?hyq⟩) ?_
      case hyq => (intro w; go_simp; try (with_reducible rfl))
      refine wpAny_take (i := 1) (v := ?_) rfl (by kernel_rfl) (by kernel_rfl) (by kernel_rfl) (fun _ _ _ h => h) (Or.inl ⟨by rfl, ?hyq⟩) ?_
      case hyq => (intro w; go_simp; try (with_reducible rfl))
      refine wpAny_take (i := 2) (v := ?_) rfl (by kernel_rfl) (by kernel_rfl) (by kernel_rfl) (fun _ _ _ h => h) (Or.inl ⟨by rfl, ?hyq⟩) ?_
      case hyq => (intro w; go_simp; try (with_reducible rfl))
      refine wpAny_take (i := 3) (v := ?_) rfl (by kernel_rfl) (by kernel_rfl) (by kernel_rfl) (fun _ _ _ h => h) (Or.inl ⟨by rfl, ?hyq⟩) ?_
      case hyq => (intro w; go_simp; try (with_reducible rfl))
      refine wpAny_take (i := 4) (v := ?_) rfl (by kernel_rfl) (by kernel_rfl) (by kernel_rfl) (fun _ _ _ h => h) (Or.inl ⟨by rfl, ?hyq⟩) ?_
      case hyq => (intro w; go_simp; try (with_reducible rfl))
      refine wpAny_take (i := 5) (v := ?_) rfl (by kernel_rfl) (by kernel_rfl) (by kernel_rfl) (fun _ _ _ h => h) (Or.inl ⟨by rfl, ?hyq⟩) ?_
      case hyq => (intro w; go_simp; try (with_reducible rfl))
      refine wpAny_take (i := 6) (v := ?_) rfl (by kernel_rfl) (by kernel_rfl) (by kernel_rfl) (fun _ _ _ h => h) (Or.inl ⟨by rfl, ?hyq⟩) ?_
      case hyq => (intro w; go_simp; try (with_reducible rfl))
      refine wpAny_ready (rs := [7]) (by kernel_rfl) (by simp) ?_
      refine AllReady.cons rfl (fun K hK => ?_) ?_
      · skip
        refine step_copy_splice rfl (.tmp 41) (.tmp 44) 68 68 rfl 3 Try.underlying68 HI.out (some ⟨w.heap.size, 64, none⟩) (some ⟨w.heap.size, 0, none⟩) (256 - 64) (256 - 64) 64 256 (by simp [Act.eval, Act.put]) (by simp [Act.eval, Act.put]) w.heap.size 64 (repL 64) 3 HX.out (repI 64 256) (repI_len _ _) (fun _ => ⟨rfl, _, rfl, fun j v hv => ?src⟩) (by rw [repI_len, repL_len (by decide)]; decide) (repI_one _ _) w.heap.size w HB.out.drew (Nat.le_refl _) ?_
        case src => exact rep_cell HX.out (Nat.le_refl _) hv
        intro w6 h6 b6
        rw [repI_len]
        have h7 : w6.heap[w.heap.size]? = some (.cells (repL 128).toArray 3 (0, 0)) := by
          have := h6.out
          rw [repL_step (by decide)] at this
          exact this
        clear h6
        refine hK _ _ ?_
        clear hK K
        refine wpAny_ready (rs := [8]) (by kernel_rfl) (by simp) ?_
        refine AllReady.cons rfl (fun K hK => ?_) ?_
        · skip
          go_simp
          refine hK _ _ ?_
          clear hK K
          refine wpAny_ready (rs := [9]) (by kernel_rfl) (by simp) ?_
          refine AllReady.cons rfl (fun K hK => ?_) ?_
          · skip
            go_simp
            refine hK _ _ ?_
            clear hK K
            refine wpAny_done (by kernel_rfl) ?_ _
            go_wp2
            go_roundw
            case rel => exact ⟨128, by omega, rfl, h7, b6⟩
            case measure => first | decide | simp [intOf, IntKind.wrap_i64]
          exact AllReady.nil
        exact AllReady.nil
      exact AllReady.nil
    · have HX := Lib.hid hx
      have HB := Lib.hid hb
      clear hx hb
      go_wp2_with fail
      refine wp_region_any (by kernel_rfl) ?_
      try (change wpAny _ _ _ _ _ _ _ (World.drew _))
      refine wpAny_take (i := 0) (v := ?_) rfl (by kernel_rfl) (by kernel_rfl) (by kernel_rfl) (fun _ _ _ h => h) (Or.inl ⟨by rfl, ?hyq⟩) ?_
      case hyq => (intro w; go_simp; try (with_reducible rfl))
      refine wpAny_take (i := 1) (v := ?_) rfl (by kernel_rfl) (by kernel_rfl) (by kernel_rfl) (fun _ _ _ h => h) (Or.inl ⟨by rfl, ?hyq⟩) ?_
      case hyq => (intro w; go_simp; try (with_reducible rfl))
      refine wpAny_take (i := 2) (v := ?_) rfl (by kernel_rfl) (by kernel_rfl) (by kernel_rfl) (fun _ _ _ h => h) (Or.inl ⟨by rfl, ?hyq⟩) ?_
      case hyq => (intro w; go_simp; try (with_reducible rfl))
      refine wpAny_take (i := 3) (v := ?_) rfl (by kernel_rfl) (by kernel_rfl) (by kernel_rfl) (fun _ _ _ h => h) (Or.inl ⟨by rfl, ?hyq⟩) ?_
      case hyq => (intro w; go_simp; try (with_reducible rfl))
      refine wpAny_take (i := 4) (v := ?_) rfl (by kernel_rfl) (by kernel_rfl) (by kernel_rfl) (fun _ _ _ h => h) (Or.inl ⟨by rfl, ?hyq⟩) ?_
      case hyq => (intro w; go_simp; try (with_reducible rfl))
      refine wpAny_take (i := 5) (v := ?_) rfl (by kernel_rfl) (by kernel_rfl) (by kernel_rfl) (fun _ _ _ h => h) (Or.inl ⟨by rfl, ?hyq⟩) ?_
      case hyq => (intro w; go_simp; try (with_reducible rfl))
      refine wpAny_take (i := 6) (v := ?_) rfl (by kernel_rfl) (by kernel_rfl) (by kernel_rfl) (fun _ _ _ h => h) (Or.inl ⟨by rfl, ?hyq⟩) ?_
      case hyq => (intro w; go_simp; try (with_reducible rfl))
      refine wpAny_ready (rs := [7]) (by kernel_rfl) (by simp) ?_
      refine AllReady.cons rfl (fun K hK => ?_) ?_
      · skip
        refine step_copy_splice rfl (.tmp 41) (.tmp 44) 68 68 rfl 3 Try.underlying68 HI.out (some ⟨w.heap.size, 128, none⟩) (some ⟨w.heap.size, 0, none⟩) (256 - 128) (256 - 128) 128 256 (by simp [Act.eval, Act.put]) (by simp [Act.eval, Act.put]) w.heap.size 128 (repL 128) 3 HX.out (repI 128 256) (repI_len _ _) (fun _ => ⟨rfl, _, rfl, fun j v hv => ?src⟩) (by rw [repI_len, repL_len (by decide)]; decide) (repI_one _ _) w.heap.size w HB.out.drew (Nat.le_refl _) ?_
        case src => exact rep_cell HX.out (Nat.le_refl _) hv
        intro w6 h6 b6
        rw [repI_len]
        have h7 : w6.heap[w.heap.size]? = some (.cells (repL 256).toArray 3 (0, 0)) := by
          have := h6.out
          rw [repL_step (by decide)] at this
          exact this
        clear h6
        refine hK _ _ ?_
        clear hK K
        refine wpAny_ready (rs := [8]) (by kernel_rfl) (by simp) ?_
        refine AllReady.cons rfl (fun K hK => ?_) ?_
        · skip
          go_simp
          refine hK _ _ ?_
          clear hK K
          refine wpAny_ready (rs := [9]) (by kernel_rfl) (by simp) ?_
          refine AllReady.cons rfl (fun K hK => ?_) ?_
          · skip
            go_simp
            refine hK _ _ ?_
            clear hK K
            refine wpAny_done (by kernel_rfl) ?_ _
            go_wp2
            go_roundw
            case rel => exact ⟨256, by omega, rfl, h7, b6⟩
            case measure => first | decide | simp [intOf, IntKind.wrap_i64]
          exact AllReady.nil
        exact AllReady.nil
      exact AllReady.nil
    · have hr : Rd wr wr.heap.size 1 (some ⟨w.heap.size, 0, none⟩) 256 (repI 256 256) := by
        refine ⟨repI_len _ _, fun _ => ⟨w.heap.size, 0, rfl, (Array.getElem?_eq_some_iff.1 hx).1, fun j u hu => ?_⟩⟩
        have := rep_cell hx (Nat.le_refl _) hu
        rw [Addr.add_lit] at this
        exact this
      have HR := Lib.hid hr
      have HB := Lib.hid hb
      clear hx hb hr
      go_wp2
      go_ret
      exact ⟨rfl, HR.out, HB.out⟩

/-! ### New -/
def newB : List (List UInt8) := List.replicate 256 (List.replicate 256 0)
def Ct.new : Ct := ⟨newB, []⟩
theorem newB_len : newB.length = 256 := List.length_replicate
theorem newB_lens : lensV newB = repI 256 256 := by
  unfold lensV newB repI
  rw [List.map_replicate, List.length_replicate]
  rfl
theorem newB_flat : newB.flatten = List.replicate 65536 0 := by
  unfold newB
  rw [List.flatten_replicate_replicate]
theorem newB_flen : newB.flatten.length = 65536 := by rw [newB_flat, List.length_replicate]
theorem Laid.nw {g : Nat} {ls : List (List UInt8)} {ps : List Sl} {w : World} {base n d : Nat} {A : Option Addr} (h : Laid g ls n ps) (hn : ls.length = n) (hm : ls.flatten.length ≤ maxLen) (hg : w.heap[g]? = some (.cells (bvs ls.flatten).toArray 5 (0, 0))) (hb : base ≤ g)
    (hf : Fr w base 41 1 A n d (ps.map Sl.v)) : Nw ⟨ls, []⟩ base ⟨A, n, d, ps, none, 0, 0, []⟩ w := by
  have h' := h
  rw [← hn] at h'
  refine ⟨⟨h.1, hf.rd, h'.came hg hm, rfl, Rd.nil_, fun x hx => (by cases hx), ⟨hf.nc, hf.cm⟩, ⟨Nat.le_refl _, Nat.zero_le _⟩⟩, ?_, hf, Fr.none_, h'.own hb hg (by simp [bvs_len]), fun x hx => (by cases hx)⟩
  simp only [Dk.c, List.map_nil]
  rw [h'.ls]
set_option maxHeartbeats 1000000 in
theorem d_new (w : World) : Calls Try.prog 30 #[] w fun e w' => ∃ d' : Dk, e = .returned (.agg #[.slice d'.A d'.nB d'.cB, .slice d'.W d'.nW d'.cW]) ∧ Nw Ct.new w.heap.size d' w' ∧ Below w.heap.size w w' := by
  have hx1 := (DkBox.new w (.slice none 0 0) (.slice none 0 0)).alloc (.cells #[.int .i64 256] 3)
  have hb1 := (below_new' w (.cells #[.slice none 0 0, .slice none 0 0] 25)).alloc (by simp) (.cells #[.int .i64 256] 3)
  have hc1 : ((w.alloc (.cells #[.slice none 0 0, .slice none 0 0] 25)).alloc (.cells #[.int .i64 256] 3)).cell? ⟨w.heap.size + 1, 0, none⟩ = some (.int .i64 256) := by
    have := heap_alloc_new (w.alloc (.cells #[.slice none 0 0, .slice none 0 0] 25)) (.cells #[.int .i64 256] 3)
    rw [World.size_alloc] at this
    rw [cell_of_row _ _ 0 _ _ _ this]
    rfl
  have hz1 : ((w.alloc (.cells #[.slice none 0 0, .slice none 0 0] 25)).alloc (.cells #[.int .i64 256] 3)).heap.size = w.heap.size + 2 := by simp
  have HX1 := Lib.hid hx1
  have HB1 := Lib.hid hb1
  have HC1 := Lib.hid hc1
  have HZ1 := Lib.hid hz1
  clear hx1 hb1 hc1 hz1
  go_enter Try.func30, Try.ntmps30
  go_wp2_with fail
  generalize (w.alloc (.cells #[.slice none 0 0, .slice none 0 0] 25)).alloc (.cells #[.int .i64 256] 3) = w1 at *
  refine (r_repeat _ 0 1 w1 HC1.out (by rw [HZ1.out]; omega)).mono ?_
  rintro e w2 ⟨rfl, hr2, hb2⟩
  rw [← newB_lens] at hr2
  have hcut := d_cut (some ⟨w1.heap.size, 0, none⟩) 256 256 newB w2 newB_len hr2 (by omega) (by rw [newB_flen]; omega)
  have HCUT := Lib.hid hcut
  have HB2 := Lib.hid (below_to HB1.out hb2 HB1.out.size)
  have HX2 := Lib.hid (HX1.out.below hb2 HX1.out.lt)
  have HZ2 := Lib.hid (show w.heap.size + 2 ≤ w2.heap.size from by have := hb2.size; have := HZ1.out; omega)
  clear hr2 hcut hb2 HX1 HC1
  go_wp2_with fail
  refine HCUT.out.mono ?_
  rintro e w3 ⟨D, d, ps, rfl, hla, hf, hh, hb3⟩
  have hX3 := HX2.out.below hb3 HX2.out.lt
  obtain ⟨x0, x1⟩ := hX3.cells
  have xf := hX3.frozen
  have hfl : newB.flatten = List.replicate newB.flatten.length 0 := by rw [newB_flen]; exact newB_flat
  rw [← hfl] at hh
  have hnw := hla.nw newB_len (by rw [newB_flen]; unfold maxLen; omega) hh (Nat.le_refl _) (hf.mono (Nat.le_succ _))
  have hnw4 := (hnw.grown (grown_setCell w3 ⟨w.heap.size, 0, none⟩ (.slice D 256 d)) (fun j hj => by cases hj; have := HZ2.out; simp; omega)).grown (grown_setCell _ ⟨w.heap.size, 1, none⟩ (.slice none 0 0)) (fun j hj => by cases hj; have := HZ2.out; simp; omega)
  have hb4 := ((below_to HB2.out hb3 HB2.out.size).setCell (p := ⟨w.heap.size, 0, none⟩) (Nat.le_refl _) (.slice D 256 d)).setCell (p := ⟨w.heap.size, 1, none⟩) (Nat.le_refl _) (.slice none 0 0)
  have HN4 := Lib.hid (hnw4.mono (base' := w.heap.size) (by have := HZ2.out; omega))
  have HB4 := Lib.hid hb4
  clear hla hf hh hfl hnw hnw4 hb4 hb3 hX3 HCUT
  go_wp2
  refine bodyPost_ret (v := .agg #[.slice D 256 d, .slice none 0 0]) (by simp [results, Try.results30, go_sem, x0, x1]) rfl ?_
  exact ⟨⟨D, 256, d, ps, none, 0, 0, []⟩, rfl, HN4.out, HB4.out⟩
end Go.Proofs.Ytkaklppkmokffaa
