/-
  The walk of PtrNames.
-/
import Derived.Test.YtgcagenhfddpgaaLaw10d
import Derived.Test.YtgcagenhfddpgaaLaw14
import Derived.Deep.RegionHeld3
import Derived.Test.YtgcagenhfddpgaaObjC
import Derived.Test.YtgcagenhfddpgaaOwn
namespace Go.Proofs.Ytgcagenhfddpgaa
open Go.RowKit
set_option linter.unusedVariables false
set_option linter.unusedSimpArgs false
set_option maxRecDepth 100000
attribute [local go_sem] str_toList toList_mk

def onePt : Pt := ⟨20, 1, 0, 0, 0⟩
theorem onePt_May : onePt.May := .inr (by decide)
theorem onePt_U : onePt.U := ⟨⟨by decide, by decide⟩, ⟨by decide, by decide⟩, ⟨by decide, by decide⟩, by decide, by decide⟩
theorem ones_U : AllU [onePt] := by
  intro p hp
  rw [List.mem_singleton] at hp
  exact hp ▸ onePt_U
theorem ones_May : AllMay [onePt] := by
  intro p hp
  rw [List.mem_singleton] at hp
  exact hp ▸ onePt_May
theorem ones_E : rowE [onePt] = 0 := rowE_may (by decide) ones_May
theorem ones_len : (rowB [onePt]).length = 256 := (rowE_ok ones_E).2.2.2
theorem ones_rows : rowsE (rowB [onePt]) = 0 ∧ rowsP (rowB [onePt]) = onePt :: holes 15 := rows_row ones_E ones_U
theorem stp_mk {P : Program} {ops : Array Oper} {o : Oper} {a : Act} {w : World} {K : Act → World → Prop} {Q : Exit → Act → World → Prop} {E : Prop} (v : Nat → Value) (ob : Obj) (hw : Region.wanted o (yielded ops a.tmps) = true) (hr : (execOp a.eval o).run P w = .ok (.value (v w.heap.size)) (w.alloc ob))
    (hK : ∀ g w', Hid (w.heap.size = g ∧ g < w'.heap.size ∧ w'.heap[g]? = some ob) → Hid (Below w.heap.size w w') → K (a.put o.dst (v g)) w') : Stp P ops o a w K Q E := by
  refine ⟨?_⟩
  rw [if_pos hw]
  unfold Oper.wp
  rw [hr]
  exact hK _ _ (Lib.hid ⟨rfl, by simp, heap_alloc_new w ob⟩) (Lib.hid ((Below.refl _ w).alloc (Nat.le_refl _) ob))
set_option maxHeartbeats 4000000 in
theorem ptrNames_walk (w : World) : Calls Try.prog 12 #[] w fun e w' => e = .returned (.bool true) ∧ Below w.heap.size w w' := by
  have hm1 : ∀ W, (Instr.makeSlice 23 (.int .i64 16) (.int .i64 16)).run Try.prog W = .ok (.slice (some ⟨W.heap.size, 0, none⟩) 16 16) (W.alloc (.cells (bvs (noughts 16)).toArray 5)) := fun W => run_mkN okB .i64 .i64 16 (by omega) W
  have hm2 : ∀ W, (Instr.makeSlice 23 (.int .i64 15) (.int .i64 15)).run Try.prog W = .ok (.slice (some ⟨W.heap.size, 0, none⟩) 15 15) (W.alloc (.cells (bvs (noughts 15)).toArray 5)) := fun W => run_mkN okB .i64 .i64 15 (by omega) W
  have hm3 : ∀ W, (Instr.makeSlice 42 (.int .i64 17) (.int .i64 17)).run Try.prog W = .ok (.slice (some ⟨W.heap.size, 0, none⟩) 17 17) (W.alloc (.cells (pcs (holes 17)).toArray 31)) := fun W => run_mkPtrs .i64 .i64 17 (by omega) W
  have hW := fun W => ptr_write_ok 0 0 0 0 0 W (.inl ⟨rfl, rfl, rfl, rfl, rfl⟩) ⟨by omega, by omega⟩ ⟨by omega, by omega⟩ ⟨by omega, by omega⟩
  have hzb : pb 0 0 0 0 0 = noughts 16 := Pt.zero_bytes
  rw [hzb] at hW
  have hR := fun A W hr => ptr_row A 1 1 [onePt] W rfl ones_U hr
  rw [ones_E, ones_len] at hR
  have hRs := fun A c W hc hr => ptr_rows A 256 c (rowB [onePt]) W ones_len hc hr
  rw [ones_rows.1, ones_rows.2] at hRs
  have hQ : ∀ A W, Calls Try.prog 27 #[.slice A 15 15] W fun e w' => e = .returned (.tuple #[.agg #[.int .i64 0, .int .u32 0, .int .u32 0, .int .u32 0, .int .u32 0], .int .i64 3]) ∧ Below W.heap.size W w' := fun A W => ptr_read_len A 15 15 W (by decide)
  have HQ := Lib.hid hQ
  have HW := Lib.hid hW
  have HR := Lib.hid hR
  have HRS := Lib.hid hRs
  clear hW hR hRs hzb hQ
  go_enter Try.func12, Try.ntmps12
  go_wp2_with fail
  refine (HW.out w).mono ?_
  rintro e w1 ⟨A1, c1, rfl, f1, b1⟩
  have HF1 := Lib.hid f1
  have HB1 := Lib.hid b1
  clear f1 b1
  go_wp2_with fail
  have r2 := (Rd.made w1 31 5 1 (pcs [onePt]) rfl).more (B' := (w1.alloc (.cells (pcs [onePt]).toArray 31)).heap.size) (by rw [World.size_alloc]; exact Nat.le_refl _)
  have hb2 := below_alloc HB1.out (.cells (pcs [onePt]).toArray 31) (Nat.le_refl _)
  have hf1 := HF1.out.alloc (.cells (pcs [onePt]).toArray 31)
  have HB2 := Lib.hid hb2
  have HF2 := Lib.hid hf1
  clear hb2 hf1 HF1
  refine (HR.out _ _ r2).mono ?_
  clear r2
  rintro e w3 ⟨A3, c3, rfl, f3, b3⟩
  have hb3 := below_to HB2.out b3 HB2.out.size
  have hf3 := HF2.out.below b3 (Nat.le_refl _)
  have HB3 := Lib.hid hb3
  have HF3 := Lib.hid hf3
  have HC3 := Lib.hid f3.nc
  have HR3 := Lib.hid f3.rd
  clear b3 hb3 hf3 HF2 f3
  go_wp2_with fail
  refine (HRS.out A3 c3 w3 HC3.out HR3.out).mono ?_
  rintro e w4 ⟨A4, c4, rfl, f4, b4⟩
  have hl16 : (onePt :: holes 15).length = 16 := by rw [List.length_cons, holes_len]
  rw [hl16] at f4 ⊢
  obtain ⟨g4, rfl, hg4, _⟩ := f4.form (by have := f4.nc; omega)
  have hb4 := below_to HB3.out b4 HB3.out.size
  have hf4 := HF3.out.below b4 (Nat.le_refl _)
  have HB4 := Lib.hid hb4
  have HF4 := Lib.hid hf4
  have HG4 := Lib.hid f4
  have HM4 := Lib.hid (below_alloc hb4 (.cells (pcs (holes 17)).toArray 31) (Nat.le_refl _))
  clear b4 hb4 hf4 HF3 f4 HR3 HC3 hl16 hg4
  go_wp2_with fail
  refine (ptr_row_many _ 17 17 _ (by decide)).mono ?_
  rintro e w5 ⟨rfl, rfl⟩
  go_wp2_with fail
  have HM5 := Lib.hid (below_alloc HM4.out (.cells (bvs (noughts 15)).toArray 5) (Nat.le_refl _))
  refine (HQ.out _ _).mono ?_
  rintro e w6 ⟨rfl, b6⟩
  have hb6 := below_to HM5.out b6 HM5.out.size
  have hz6 : w4.heap.size ≤ w6.heap.size := by have := b6.size; rw [World.size_alloc, World.size_alloc] at this; omega
  have hb46 : Below w4.heap.size w4 w6 := (((Below.refl _ w4).alloc (Nat.le_refl _) _).alloc (by rw [World.size_alloc]; omega) _).trans (b6.mono (by rw [World.size_alloc, World.size_alloc]; omega))
  have HB6 := Lib.hid hb6
  have HG6 := Lib.hid (HG4.out.below hb46 (Nat.le_refl _))
  have HF6 := Lib.hid (HF4.out.below hb46 (Nat.le_refl _))
  clear b6 hb6 hb46 hz6 HM5 HM4 HG4 HF4 HB4
  go_wp2_with fail
  have hb7 := below_alloc HB6.out (.cells #[.int .i64 0, .int .u32 0, .int .u32 0, .int .u32 0, .int .u32 0] 31) (Nat.le_refl _)
  have hr7 := (HF6.out.alloc (.cells #[.int .i64 0, .int .u32 0, .int .u32 0, .int .u32 0, .int .u32 0] 31)).rd
  have hg7 := (HG6.out.alloc (.cells #[.int .i64 0, .int .u32 0, .int .u32 0, .int .u32 0, .int .u32 0] 31)).rd
  clear HB6 HF6 HG6 hm2 hm3 HW HR HRS HQ HB1 HB2 HB3
  generalize w6.alloc (.cells #[.int .i64 0, .int .u32 0, .int .u32 0, .int .u32 0, .int .u32 0] 31) = W at *
  have hK1 : ∀ W, Calls Try.prog 28 #[.agg #[.int .i64 11, .int .u32 1, .int .u32 0, .int .u32 0, .int .u32 0]] W fun e w' => e = .returned (.int .i64 8) ∧ Below W.heap.size W w' := fun W => ptr_checkX ⟨11, 1, 0, 0, 0⟩ 8 (Pt.chk_bad (by show ¬ PtMay 11 1 0 0 0; unfold PtMay; omega)) W
  have hK2 : ∀ W, Calls Try.prog 28 #[.agg #[.int .i64 0, .int .u32 1, .int .u32 0, .int .u32 0, .int .u32 0]] W fun e w' => e = .returned (.int .i64 8) ∧ Below W.heap.size W w' := fun W => ptr_checkX ⟨0, 1, 0, 0, 0⟩ 8 (Pt.chk_bad (by show ¬ PtMay 0 1 0 0 0; unfold PtMay; omega)) W
  have hK3 : ∀ W, Calls Try.prog 28 #[.agg #[.int .i64 12, .int .u32 0, .int .u32 0, .int .u32 0, .int .u32 0]] W fun e w' => e = .returned (.int .i64 8) ∧ Below W.heap.size W w' := fun W => ptr_checkX ⟨12, 0, 0, 0, 0⟩ 8 (Pt.chk_bad (by show ¬ PtMay 12 0 0 0 0; unfold PtMay; omega)) W
  have hpe : ∀ W, (binOp .eql 31 (.agg #[.int .i64 0, .int .u32 0, .int .u32 0, .int .u32 0, .int .u32 0]) (.agg #[.int .i64 0, .int .u32 0, .int .u32 0, .int .u32 0, .int .u32 0])).run Try.prog W = .ok (.bool true) W := fun W => run_pt_eq Pt.zero Pt.zero true (Pt.eq_self _) W
  have HK1 := Lib.hid hK1
  have HK2 := Lib.hid hK2
  have HK3 := Lib.hid hK3
  have HB7 := Lib.hid hb7
  have HR7 := Lib.hid hr7
  have HG7 := Lib.hid hg7
  clear hK1 hK2 hK3 hb7 hr7 hg7
  refine wp_region_held_drew (S := fun V => Below W.heap.size W V) (by kernel_rfl) (show Below W.heap.size W W.drew from (Below.refl _ _).drew) (fun hS => ?_)
  refine wpAnyH_take (i := 0) (v := ?_) rfl (by kernel_rfl) (by kernel_rfl) (by kernel_rfl) (fun _ _ _ h => h) (Or.inl ⟨by rfl, ?hyq⟩) hS ?_
  case hyq =>
    intro w hw
    go_simp
    try (with_reducible rfl)
  try go_simp
  try go_simp
  refine wpAnyH_ready (rs := [1]) (by kernel_rfl) (by simp) ?_
  refine all_consH rfl (fun K hK => ?_) ?_
  · skip
    refine Stp.mk ?_
    go_simp
    go_wp2_with fail
    refine (alive10 _).mono ?_
    rintro e w8 ⟨rfl, b8⟩
    have hSn := below_to hS b8 hS.size
    clear b8
    go_wp2
    refine hK.out _ _ hSn (fun hS => ?_)
    clear hK K hSn
    refine wpAnyH_take (i := 2) (v := ?_) rfl (by kernel_rfl) (by kernel_rfl) (by kernel_rfl) (fun _ _ _ h => h) (Or.inl ⟨by rfl, ?hyq⟩) hS ?_
    case hyq =>
      intro w hw
      go_simp
      try (with_reducible rfl)
    try go_simp
    refine wpAnyH_take (i := 3) (v := ?_) rfl (by kernel_rfl) (by kernel_rfl) (by kernel_rfl) (fun _ _ _ h => h) (Or.inl ⟨by rfl, ?hyq⟩) hS ?_
    case hyq =>
      intro w hw
      go_simp
      try (with_reducible rfl)
    try go_simp
    refine wpAnyH_take (i := 4) (v := ?_) rfl (by kernel_rfl) (by kernel_rfl) (by kernel_rfl) (fun _ _ _ h => h) (Or.inl ⟨by rfl, ?hyq⟩) hS ?_
    case hyq =>
      intro w hw
      go_simp
      try (with_reducible rfl)
    try go_simp
    refine wpAnyH_take (i := 5) (v := ?_) rfl (by kernel_rfl) (by kernel_rfl) (by kernel_rfl) (fun _ _ _ h => h) (Or.inl ⟨by rfl, ?hyq⟩) hS ?_
    case hyq =>
      intro w hw
      go_simp
      try (with_reducible rfl)
    try go_simp
    refine wpAnyH_take (i := 6) (v := ?_) rfl (by kernel_rfl) (by kernel_rfl) (by kernel_rfl) (fun _ _ _ h => h) (Or.inl ⟨by rfl, ?hyq⟩) hS ?_
    case hyq =>
      intro w hw
      go_simp
      try (with_reducible rfl)
    try go_simp
    refine wpAnyH_take (i := 7) (v := ?_) rfl (by kernel_rfl) (by kernel_rfl) (by kernel_rfl) (fun _ _ _ h => h) (Or.inl ⟨by rfl, ?hyq⟩) hS ?_
    case hyq =>
      intro w hw
      go_simp
      try (with_reducible rfl)
    try go_simp
    refine wpAnyH_take (i := 8) (v := ?_) rfl (by kernel_rfl) (by kernel_rfl) (by kernel_rfl) (fun _ _ _ h => h) (Or.inl ⟨by rfl, ?hyq⟩) hS ?_
    case hyq =>
      intro w hw
      go_simp
      try (with_reducible rfl)
    try go_simp
    refine wpAnyH_take (i := 9) (v := ?_) rfl (by kernel_rfl) (by kernel_rfl) (by kernel_rfl) (fun _ _ _ h => h) (Or.inl ⟨by rfl, ?hyq⟩) hS ?_
    case hyq =>
      intro w hw
      have hc := conv (HR7.out.below hw) c1
      go_simp
      try (with_reducible rfl)
    try go_simp
    try go_simp
    refine wpAnyH_ready (rs := [10]) (by kernel_rfl) (by simp) ?_
    refine all_consH rfl (fun K hK => ?_) ?_
    · skip
      refine stp_mk (fun g => .slice (some ⟨g, 0, none⟩) 16 16) (.cells (bvs (noughts 16)).toArray 5) (by go_simp) (by go_simp) ?_
      intro gz w9 hn b9
      have hSn := below_to hS b9.out hS.size
      have hcz := conv (Rd.block hn.out.2.2 (by rw [bvs_len]; rfl) : Rd w9 w9.heap.size 1 (some ⟨gz, 0, none⟩) 16 (bvs (noughts 16))) 16
      clear hn b9
      refine hK.out _ _ hSn (fun hS => ?_)
      clear hK K hSn
      try go_simp
      refine wpAnyH_ready (rs := [11]) (by kernel_rfl) (by simp) ?_
      refine all_consH rfl (fun K hK => ?_) ?_
      · skip
        refine Stp.mk ?_
        go_simp
        have hSn := hS
        clear hcz
        refine hK.out _ _ hSn (fun hS => ?_)
        clear hK K hSn
        refine wpAnyH_take (i := 12) (v := ?_) rfl (by kernel_rfl) (by kernel_rfl) (by kernel_rfl) (fun _ _ _ h => h) (Or.inl ⟨by rfl, ?hyq⟩) hS ?_
        case hyq =>
          intro w hw
          go_simp
          try (with_reducible rfl)
        try go_simp
        refine wpAnyH_take (i := 13) (v := ?_) rfl (by kernel_rfl) (by kernel_rfl) (by kernel_rfl) (fun _ _ _ h => h) (Or.inl ⟨by rfl, ?hyq⟩) hS ?_
        case hyq =>
          intro w hw
          go_simp
          try (with_reducible rfl)
        try go_simp
        refine wpAnyH_take (i := 14) (v := ?_) rfl (by kernel_rfl) (by kernel_rfl) (by kernel_rfl) (fun _ _ _ h => h) (Or.inl ⟨by rfl, ?hyq⟩) hS ?_
        case hyq =>
          intro w hw
          go_simp
          try (with_reducible rfl)
        try go_simp
        refine wpAnyH_take (i := 15) (v := ?_) rfl (by kernel_rfl) (by kernel_rfl) (by kernel_rfl) (fun _ _ _ h => h) (Or.inl ⟨by rfl, ?hyq⟩) hS ?_
        case hyq =>
          intro w hw
          go_simp
          try (with_reducible rfl)
        try go_simp
        refine wpAnyH_take (i := 16) (v := ?_) rfl (by kernel_rfl) (by kernel_rfl) (by kernel_rfl) (fun _ _ _ h => h) (Or.inl ⟨by rfl, ?hyq⟩) hS ?_
        case hyq =>
          intro w hw
          go_simp
          try (with_reducible rfl)
        try go_simp
        refine wpAnyH_take (i := 17) (v := ?_) rfl (by kernel_rfl) (by kernel_rfl) (by kernel_rfl) (fun _ _ _ h => h) (Or.inl ⟨by rfl, ?hyq⟩) hS ?_
        case hyq =>
          intro w hw
          go_simp
          try (with_reducible rfl)
        try go_simp
        refine wpAnyH_take (i := 18) (v := ?_) rfl (by kernel_rfl) (by kernel_rfl) (by kernel_rfl) (fun _ _ _ h => h) (Or.inl ⟨by rfl, ?hyq⟩) hS ?_
        case hyq =>
          intro w hw
          go_simp
          try (with_reducible rfl)
        try go_simp
        refine wpAnyH_take (i := 19) (v := ?_) rfl (by kernel_rfl) (by kernel_rfl) (by kernel_rfl) (fun _ _ _ h => h) (Or.inl ⟨by rfl, ?hyq⟩) hS ?_
        case hyq =>
          intro w hw
          go_simp
          try (with_reducible rfl)
        try go_simp
        refine wpAnyH_take (i := 20) (v := ?_) rfl (by kernel_rfl) (by kernel_rfl) (by kernel_rfl) (fun _ _ _ h => h) (Or.inl ⟨by rfl, ?hyq⟩) hS ?_
        case hyq =>
          intro w hw
          go_simp
          try (with_reducible rfl)
        try go_simp
        refine wpAnyH_take (i := 21) (v := ?_) rfl (by kernel_rfl) (by kernel_rfl) (by kernel_rfl) (fun _ _ _ h => h) (Or.inl ⟨by rfl, ?hyq⟩) hS ?_
        case hyq =>
          intro w hw
          go_simp
          try (with_reducible rfl)
        try go_simp
        refine wpAnyH_take (i := 22) (v := ?_) rfl (by kernel_rfl) (by kernel_rfl) (by kernel_rfl) (fun _ _ _ h => h) (Or.inl ⟨by rfl, ?hyq⟩) hS ?_
        case hyq =>
          intro w hw
          go_simp
          try (with_reducible rfl)
        try go_simp
        refine wpAnyH_take (i := 23) (v := ?_) rfl (by kernel_rfl) (by kernel_rfl) (by kernel_rfl) (fun _ _ _ h => h) (Or.inl ⟨by rfl, ?hyq⟩) hS ?_
        case hyq =>
          intro w hw
          go_simp
          try (with_reducible rfl)
        try go_simp
        refine wpAnyH_take (i := 24) (v := ?_) rfl (by kernel_rfl) (by kernel_rfl) (by kernel_rfl) (fun _ _ _ h => h) (Or.inl ⟨by rfl, ?hyq⟩) hS ?_
        case hyq =>
          intro w hw
          go_simp
          try (with_reducible rfl)
        try go_simp
        refine wpAnyH_take (i := 25) (v := ?_) rfl (by kernel_rfl) (by kernel_rfl) (by kernel_rfl) (fun _ _ _ h => h) (Or.inl ⟨by rfl, ?hyq⟩) hS ?_
        case hyq =>
          intro w hw
          go_simp
          try (with_reducible rfl)
        try go_simp
        refine wpAnyH_take (i := 26) (v := ?_) rfl (by kernel_rfl) (by kernel_rfl) (by kernel_rfl) (fun _ _ _ h => h) (Or.inl ⟨by rfl, ?hyq⟩) hS ?_
        case hyq =>
          intro w hw
          obtain ⟨bb, oo, ee, -, gg⟩ := (HG7.out.below hw).2 (by decide)
          cases ee
          have m0 := gg 0 _ rfl
          clear gg
          go_simp
          try (with_reducible rfl)
        try go_simp
        refine wpAnyH_take (i := 27) (v := ?_) rfl (by kernel_rfl) (by kernel_rfl) (by kernel_rfl) (fun _ _ _ h => h) (Or.inl ⟨by rfl, ?hyq⟩) hS ?_
        case hyq =>
          intro w hw
          go_simp
          try (with_reducible rfl)
        try go_simp
        refine wpAnyH_take (i := 28) (v := ?_) rfl (by kernel_rfl) (by kernel_rfl) (by kernel_rfl) (fun _ _ _ h => h) (Or.inl ⟨by rfl, ?hyq⟩) hS ?_
        case hyq =>
          intro w hw
          go_simp
          try (with_reducible rfl)
        try go_simp
        refine wpAnyH_take (i := 29) (v := ?_) rfl (by kernel_rfl) (by kernel_rfl) (by kernel_rfl) (fun _ _ _ h => h) (Or.inl ⟨by rfl, ?hyq⟩) hS ?_
        case hyq =>
          intro w hw
          go_simp
          try (with_reducible rfl)
        try go_simp
        refine wpAnyH_take (i := 30) (v := ?_) rfl (by kernel_rfl) (by kernel_rfl) (by kernel_rfl) (fun _ _ _ h => h) (Or.inl ⟨by rfl, ?hyq⟩) hS ?_
        case hyq =>
          intro w hw
          go_simp
          try (with_reducible rfl)
        try go_simp
        refine wpAnyH_take (i := 31) (v := ?_) rfl (by kernel_rfl) (by kernel_rfl) (by kernel_rfl) (fun _ _ _ h => h) (Or.inl ⟨by rfl, ?hyq⟩) hS ?_
        case hyq =>
          intro w hw
          go_simp
          try (with_reducible rfl)
        try go_simp
        refine wpAnyH_take (i := 32) (v := ?_) rfl (by kernel_rfl) (by kernel_rfl) (by kernel_rfl) (fun _ _ _ h => h) (Or.inl ⟨by rfl, ?hyq⟩) hS ?_
        case hyq =>
          intro w hw
          obtain ⟨bb, oo, ee, -, gg⟩ := (HG7.out.below hw).2 (by decide)
          cases ee
          have m5 : w.cell? ⟨g4, 5, none⟩ = some (.int .i64 0) := gg 5 _ rfl
          have m6 : w.cell? ⟨g4, 6, none⟩ = some (.int .u32 0) := gg 6 _ rfl
          have m7 : w.cell? ⟨g4, 7, none⟩ = some (.int .u32 0) := gg 7 _ rfl
          have m8 : w.cell? ⟨g4, 8, none⟩ = some (.int .u32 0) := gg 8 _ rfl
          have m9 : w.cell? ⟨g4, 9, none⟩ = some (.int .u32 0) := gg 9 _ rfl
          clear gg
          go_simp
          try (with_reducible rfl)
        try go_simp
        refine wpAnyH_take (i := 33) (v := ?_) rfl (by kernel_rfl) (by kernel_rfl) (by kernel_rfl) (fun _ _ _ h => h) (Or.inl ⟨by rfl, ?hyq⟩) hS ?_
        case hyq =>
          intro w hw
          go_simp
          try (with_reducible rfl)
        try go_simp
        refine wpAnyH_take (i := 34) (v := ?_) rfl (by kernel_rfl) (by kernel_rfl) (by kernel_rfl) (fun _ _ _ h => h) (Or.inl ⟨by rfl, ?hyq⟩) hS ?_
        case hyq =>
          intro w hw
          go_simp
          try (with_reducible rfl)
        try go_simp
        refine wpAnyH_take (i := 35) (v := ?_) rfl (by kernel_rfl) (by kernel_rfl) (by kernel_rfl) (fun _ _ _ h => h) (Or.inl ⟨by rfl, ?hyq⟩) hS ?_
        case hyq =>
          intro w hw
          go_simp
          try (with_reducible rfl)
        try go_simp
        refine wpAnyH_take (i := 36) (v := ?_) rfl (by kernel_rfl) (by kernel_rfl) (by kernel_rfl) (fun _ _ _ h => h) (Or.inl ⟨by rfl, ?hyq⟩) hS ?_
        case hyq =>
          intro w hw
          go_simp
          try (with_reducible rfl)
        try go_simp
        refine wpAnyH_take (i := 37) (v := ?_) rfl (by kernel_rfl) (by kernel_rfl) (by kernel_rfl) (fun _ _ _ h => h) (Or.inl ⟨by rfl, ?hyq⟩) hS ?_
        case hyq =>
          intro w hw
          go_simp
          try (with_reducible rfl)
        try go_simp
        refine wpAnyH_take (i := 38) (v := ?_) rfl (by kernel_rfl) (by kernel_rfl) (by kernel_rfl) (fun _ _ _ h => h) (Or.inl ⟨by rfl, ?hyq⟩) hS ?_
        case hyq =>
          intro w hw
          go_simp
          try (with_reducible rfl)
        try go_simp
        refine wpAnyH_take (i := 39) (v := ?_) rfl (by kernel_rfl) (by kernel_rfl) (by kernel_rfl) (fun _ _ _ h => h) (Or.inl ⟨by rfl, ?hyq⟩) hS ?_
        case hyq =>
          intro w hw
          go_simp
          try (with_reducible rfl)
        try go_simp
        refine wpAnyH_take (i := 40) (v := ?_) rfl (by kernel_rfl) (by kernel_rfl) (by kernel_rfl) (fun _ _ _ h => h) (Or.inl ⟨by rfl, ?hyq⟩) hS ?_
        case hyq =>
          intro w hw
          go_simp
          try (with_reducible rfl)
        try go_simp
        refine wpAnyH_take (i := 41) (v := ?_) rfl (by kernel_rfl) (by kernel_rfl) (by kernel_rfl) (fun _ _ _ h => h) (Or.inl ⟨by rfl, ?hyq⟩) hS ?_
        case hyq =>
          intro w hw
          go_simp
          try (with_reducible rfl)
        try go_simp
        refine wpAnyH_take (i := 42) (v := ?_) rfl (by kernel_rfl) (by kernel_rfl) (by kernel_rfl) (fun _ _ _ h => h) (Or.inl ⟨by rfl, ?hyq⟩) hS ?_
        case hyq =>
          intro w hw
          go_simp
          try (with_reducible rfl)
        try go_simp
        refine wpAnyH_take (i := 43) (v := ?_) rfl (by kernel_rfl) (by kernel_rfl) (by kernel_rfl) (fun _ _ _ h => h) (Or.inl ⟨by rfl, ?hyq⟩) hS ?_
        case hyq =>
          intro w hw
          go_simp
          try (with_reducible rfl)
        try go_simp
        refine wpAnyH_take (i := 44) (v := ?_) rfl (by kernel_rfl) (by kernel_rfl) (by kernel_rfl) (fun _ _ _ h => h) (Or.inl ⟨by rfl, ?hyq⟩) hS ?_
        case hyq =>
          intro w hw
          go_simp
          try (with_reducible rfl)
        try go_simp
        refine wpAnyH_take (i := 45) (v := ?_) rfl (by kernel_rfl) (by kernel_rfl) (by kernel_rfl) (fun _ _ _ h => h) (Or.inl ⟨by rfl, ?hyq⟩) hS ?_
        case hyq =>
          intro w hw
          go_simp
          try (with_reducible rfl)
        try go_simp
        try go_simp
        refine wpAnyH_ready (rs := [46]) (by kernel_rfl) (by simp) ?_
        refine all_consH rfl (fun K hK => ?_) ?_
        · skip
          refine Stp.mk ?_
          go_simp
          go_wp2_with fail
          refine (HK1.out _).mono ?_
          rintro e w8 ⟨rfl, b8⟩
          have hSn := below_to hS b8 hS.size
          clear b8
          go_wp2
          refine hK.out _ _ hSn (fun hS => ?_)
          clear hK K hSn
          refine wpAnyH_take (i := 47) (v := ?_) rfl (by kernel_rfl) (by kernel_rfl) (by kernel_rfl) (fun _ _ _ h => h) (Or.inl ⟨by rfl, ?hyq⟩) hS ?_
          case hyq =>
            intro w hw
            go_simp
            try (with_reducible rfl)
          try go_simp
          refine wpAnyH_take (i := 48) (v := ?_) rfl (by kernel_rfl) (by kernel_rfl) (by kernel_rfl) (fun _ _ _ h => h) (Or.inl ⟨by rfl, ?hyq⟩) hS ?_
          case hyq =>
            intro w hw
            go_simp
            try (with_reducible rfl)
          try go_simp
          refine wpAnyH_take (i := 49) (v := ?_) rfl (by kernel_rfl) (by kernel_rfl) (by kernel_rfl) (fun _ _ _ h => h) (Or.inl ⟨by rfl, ?hyq⟩) hS ?_
          case hyq =>
            intro w hw
            go_simp
            try (with_reducible rfl)
          try go_simp
          refine wpAnyH_take (i := 50) (v := ?_) rfl (by kernel_rfl) (by kernel_rfl) (by kernel_rfl) (fun _ _ _ h => h) (Or.inl ⟨by rfl, ?hyq⟩) hS ?_
          case hyq =>
            intro w hw
            go_simp
            try (with_reducible rfl)
          try go_simp
          try go_simp
          refine wpAnyH_ready (rs := [51]) (by kernel_rfl) (by simp) ?_
          refine all_consH rfl (fun K hK => ?_) ?_
          · skip
            refine Stp.mk ?_
            go_simp
            go_wp2_with fail
            refine (HK2.out _).mono ?_
            rintro e w8 ⟨rfl, b8⟩
            have hSn := below_to hS b8 hS.size
            clear b8
            go_wp2
            refine hK.out _ _ hSn (fun hS => ?_)
            clear hK K hSn
            refine wpAnyH_take (i := 52) (v := ?_) rfl (by kernel_rfl) (by kernel_rfl) (by kernel_rfl) (fun _ _ _ h => h) (Or.inl ⟨by rfl, ?hyq⟩) hS ?_
            case hyq =>
              intro w hw
              go_simp
              try (with_reducible rfl)
            try go_simp
            refine wpAnyH_take (i := 53) (v := ?_) rfl (by kernel_rfl) (by kernel_rfl) (by kernel_rfl) (fun _ _ _ h => h) (Or.inl ⟨by rfl, ?hyq⟩) hS ?_
            case hyq =>
              intro w hw
              go_simp
              try (with_reducible rfl)
            try go_simp
            refine wpAnyH_take (i := 54) (v := ?_) rfl (by kernel_rfl) (by kernel_rfl) (by kernel_rfl) (fun _ _ _ h => h) (Or.inl ⟨by rfl, ?hyq⟩) hS ?_
            case hyq =>
              intro w hw
              go_simp
              try (with_reducible rfl)
            try go_simp
            refine wpAnyH_take (i := 55) (v := ?_) rfl (by kernel_rfl) (by kernel_rfl) (by kernel_rfl) (fun _ _ _ h => h) (Or.inl ⟨by rfl, ?hyq⟩) hS ?_
            case hyq =>
              intro w hw
              go_simp
              try (with_reducible rfl)
            try go_simp
            try go_simp
            refine wpAnyH_ready (rs := [56]) (by kernel_rfl) (by simp) ?_
            refine all_consH rfl (fun K hK => ?_) ?_
            · skip
              refine Stp.mk ?_
              go_simp
              go_wp2_with fail
              refine (HK3.out _).mono ?_
              rintro e w8 ⟨rfl, b8⟩
              have hSn := below_to hS b8 hS.size
              clear b8
              go_wp2
              refine hK.out _ _ hSn (fun hS => ?_)
              clear hK K hSn
              refine wpAnyH_take (i := 57) (v := ?_) rfl (by kernel_rfl) (by kernel_rfl) (by kernel_rfl) (fun _ _ _ h => h) (Or.inl ⟨by rfl, ?hyq⟩) hS ?_
              case hyq =>
                intro w hw
                go_simp
                try (with_reducible rfl)
              try go_simp
              refine wpAnyH_take (i := 58) (v := ?_) rfl (by kernel_rfl) (by kernel_rfl) (by kernel_rfl) (fun _ _ _ h => h) (Or.inl ⟨by rfl, ?hyq⟩) hS ?_
              case hyq =>
                intro w hw
                go_simp
                try (with_reducible rfl)
              try go_simp
              try go_simp
              refine wpAnyH_ready (rs := [59]) (by kernel_rfl) (by simp) ?_
              refine all_consH rfl (fun K hK => ?_) ?_
              · skip
                refine Stp.mk ?_
                go_simp
                have hSn := hS
                refine hK.out _ _ hSn (fun hS => ?_)
                clear hK K hSn
                refine wpAnyH_done (by kernel_rfl) ?_ _
                have h := below_to HB7.out hS HB7.out.size
                go_wp2
                go_ret
                exact ⟨rfl, h⟩
              exact AllReadyH.nil
            exact AllReadyH.nil
          exact AllReadyH.nil
        exact AllReadyH.nil
      exact AllReadyH.nil
    exact AllReadyH.nil
  exact AllReadyH.nil
end Go.Proofs.Ytgcagenhfddpgaa
