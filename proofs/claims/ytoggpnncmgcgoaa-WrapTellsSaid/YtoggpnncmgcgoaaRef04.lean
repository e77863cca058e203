/-
  charterhouseref04: contracts of stretched, turned, Made.
-/
import Derived.Test.YtoggpnncmgcgoaaRef03
import Derived.Test.YtoggpnncmgcgoaaRef01
import Derived.Test.YtoggpnncmgcgoaaAppS
import Derived.Test.YtoggpnncmgcgoaaStretch
import Derived.Test.YtoggpnncmgcgoaaXor
import Derived.Test.YtoggpnncmgcgoaaWrapC
import Derived.Test.YtoggpnncmgcgoaaStp
namespace Go.Proofs.Ytoggpnncmgcgoaa
open Go.RowKit
set_option linter.unusedVariables false
set_option linter.unusedSimpArgs false
set_option maxRecDepth 100000

def RsRel (p : List UInt8) (salt : Nat) (w : World) (v i : Value) (wr : World) : Prop :=
  ∃ A c k, k ≤ 32 ∧ i = .int .i64 (k : Nat) ∧ v = .slice A 16 c ∧ Fr wr w.heap.size 5 1 A 16 c (bvs (stretchN p salt k)) ∧ Below w.heap.size w wr
set_option maxHeartbeats 1000000 in
theorem r_stretched (s : ByteArray) (salt : Nat) (w : World) (hs : (salt : Int) < 4294967296) (h : s.size ≤ 64) : Calls Try.prog 69 #[.string s, .int .u32 (salt : Int)] w fun e w' =>
    ∃ A c, e = .returned (.slice A 16 c) ∧ Fr w' w.heap.size 5 1 A 16 c (bvs (stretchL s.data.toList salt)) ∧ Below w.heap.size w w' := by
  have hwr : IntKind.i64.wrap (salt : Int) = (salt : Int) := by rw [IntKind.wrap_i64]; omega
  have hby := fun W => ref_bytes (salt : Int) 4 W (by omega) (by omega) (by omega)
  rw [Int.toNat_natCast] at hby
  have hlen := size_list s
  have HBY := Lib.hid hby
  have HLEN := Lib.hid hlen
  have H64 := Lib.hid h
  clear hby hs hlen h
  generalize hp : s.data.toList = p at *
  generalize hn : s.size = n at *
  go_enter Try.func69, Try.ntmps69
  go_wp2_with (first
    | (refine wpList_conv_sb rfl (.tmp 8) rfl Try.underlying9 Try.underlying22 Try.underlying5 rfl hp hn (by have := H64.out; omega) ?_; intro d2 w2 f2 b2 z2))
  have HF2 := Lib.hid f2
  have HB2 := Lib.hid b2
  clear f2 b2
  refine (HBY.out w2).mono ?_
  rintro e w3 ⟨A3, rfl, f3, b3⟩
  have HF23 := Lib.hid (HF2.out.below b3 (Nat.le_refl _))
  have HB3 := Lib.hid (below_to HB2.out b3 HB2.out.size)
  have HR3 := Lib.hid f3.rd
  clear f3 b3 HF2 HB2 z2
  go_wp2_with (first
    | (at_builtin; refine wpList_append_to rfl (.tmp 9) (.tmp 12) rfl okB rfl HF23.out rfl HR3.out (bvs_one _) (n + 4) rfl (bvs (p ++ le 4 salt)) (bvs_app _ _).symm (by have := H64.out; unfold maxLen; omega) (by have := H64.out; omega) HB3.out.size ?_; intro D4 d4 w4 f4 g4 _; have b4 := HB3.out.grown g4 HB3.out.size (fun q hq => (HF23.out.row _ hq).1); have HF4 := Lib.hid f4; have HB4 := Lib.hid b4; clear f4 g4 b4))
  have hk := r_key D4 (n + 4) d4 (p ++ le 4 salt) w4 (by rw [List.length_append, le_len]; have := HLEN.out; omega) (by have := H64.out; omega) HF4.out.rd
  refine hk.mono ?_
  rintro e w5 ⟨A5, c5, rfl, f5, b5⟩
  have hf5 : Fr w5 w.heap.size 5 1 A5 16 c5 (bvs (stretchN p salt 0)) := f5.mono HB4.out.size
  have HF5 := Lib.hid hf5
  have HB5 := Lib.hid (below_to HB4.out b5 HB4.out.size)
  clear f5 b5 hk hf5 HF4 HB4 HF23 HB3 HR3
  go_wp2
  go_loopw [6, 7] (fun v i wr => RsRel p salt w v i wr) (fun _ i _ => 32 - (intOf i).toNat)
  case atStart => exact ⟨A5, c5, 0, by omega, rfl, rfl, HF5.out, HB5.out⟩
  case round =>
    clear HF5 HB5
    obtain ⟨A, c, k, hk, rfl, rfl, hf, hb⟩ := hrel
    by_cases hlt : k < 32
    · have h0 : (k : Int) < 32 := by omega
      have hwk : IntKind.u8.wrap (k : Int) = ((UInt8.ofNat k).toNat : Int) := by
        rw [IntKind.wrap_u8, UInt8.toNat_ofNat']
        omega
      have hnx : stretchN p salt (k + 1) = keyB (stretchN p salt k ++ ([UInt8.ofNat k] ++ p)) := rfl
      have hlenN := stretchN_len p salt k
      have HNX := Lib.hid hnx
      have HLN := Lib.hid hlenN
      have HF := Lib.hid (hf.alloc (.cells (bvs [UInt8.ofNat k]).toArray 5))
      have HB := Lib.hid (below_alloc hb (.cells (bvs [UInt8.ofNat k]).toArray 5) (Nat.le_refl _))
      have HR := Lib.hid (Rd.made wr 5 1 1 (bvs [UInt8.ofNat k]) rfl)
      clear hnx hlenN hf hb
      generalize stretchN p salt k = L at *
      generalize UInt8.ofNat k = K at *
      go_wp2_with (first
        | (at_builtin; refine wpList_append_to rfl (.tmp 20) (.tmp 23) rfl okB rfl HF.out rfl HR.out (bvs_one _) 17 rfl (bvs (L ++ [K])) (bvs_app _ _).symm (by unfold maxLen; omega) (by omega) HB.out.size ?_; intro D4 d4 w4 f4 g4 _; have b4 := HB.out.grown g4 HB.out.size (fun q hq => (HF.out.row _ hq).1); have HF4 := Lib.hid f4; have HB4 := Lib.hid b4; clear f4 g4 b4)
        | (at_builtin; refine wpList_append_str rfl (.tmp 25) (.tmp 26) rfl okB Try.underlying9 rfl HF4.out rfl hp hn (17 + n) rfl (bvs (L ++ [K] ++ p)) (bvs_app _ _).symm (by have := H64.out; unfold maxLen; omega) (by have := H64.out; omega) HB4.out.size ?_; intro D5 d5 w5 f5 g5; have b5 := HB4.out.grown g5 HB4.out.size (fun q hq => (HF4.out.row _ hq).1); have HF5 := Lib.hid f5; have HB5 := Lib.hid b5; clear f5 g5 b5))
      have hkk := r_key D5 (17 + n) d5 (L ++ [K] ++ p) w5 (by rw [List.length_append, List.length_append, HLN.out, HLEN.out]; rfl) (by have := H64.out; omega) HF5.out.rd
      refine hkk.mono ?_
      rintro e w6 ⟨A6, c6, rfl, f6, b6⟩
      have hf6 : Fr w6 w.heap.size 5 1 A6 16 c6 (bvs (stretchN p salt (k + 1))) := by
        rw [HNX.out, ← List.append_assoc]
        exact f6.mono HB5.out.size
      have hb6 := below_to HB5.out b6 HB5.out.size
      clear f6 b6 hkk HF HB HR HF4 HB4 HF5 HB5
      go_wp2
      go_roundw
      case rel => exact ⟨A6, c6, k + 1, by omega, by simp, rfl, hf6, hb6⟩
      case measure => simp [intOf]; omega
    · obtain rfl : k = 32 := by omega
      have HF := Lib.hid hf
      have HB := Lib.hid hb
      clear hf hb
      go_wp2
      go_ret
      exact ⟨_, _, rfl, HF.out, HB.out⟩

def TuRel (b m : List UInt8) (w : World) (v i : Value) (wr : World) : Prop :=
  ∃ A c k, k ≤ 16 ∧ i = .int .i64 (k : Nat) ∧ v = .slice A k c ∧ Fr wr w.heap.size 5 1 A k c (bvs ((xorL b m).take k)) ∧ Below w.heap.size w wr
theorem xorL_next (b m : List UInt8) (k : Nat) (hb : k < b.length) (hm : k < m.length) : (xorL b m).take (k + 1) = (xorL b m).take k ++ [b[k] ^^^ m[k]] := by
  rw [List.take_succ_eq_append_getElem (by rw [xorL_len]; exact hb), xorL_get b m k hb hm]
set_option maxHeartbeats 1000000 in
theorem r_turned (B : Option Addr) (d : Nat) (b : List UInt8) (A : Option Addr) (c : Nat) (s : List UInt8) (w : World) (hb : b.length = 16) (hrb : Rd w w.heap.size 1 B 16 (bvs b)) (hs : s.length = 16) (hrs : Rd w w.heap.size 1 A 16 (bvs s)) :
    Calls Try.prog 72 #[.slice B 16 d, .slice A 16 c] w fun e w' => ∃ D e', e = .returned (.slice D 16 e') ∧ Fr w' w.heap.size 5 1 D 16 e' (bvs (xorL b (maskL s))) ∧ Below w.heap.size w w' := by
  have HB := Lib.hid hrb
  have HS := Lib.hid hrs
  clear hrb hrs
  go_enter Try.func72, Try.ntmps72
  go_wp2_with (first
    | (at_builtin; refine wpList_append_to rfl (.tmp 9) (.tmp 10) rfl okB rfl (Fr.none_ (w := w) (base := w.heap.size)) rfl HS.out (bvs_one _) 16 rfl (bvs s) rfl (by unfold maxLen; omega) (by omega) (Nat.le_refl _) ?_; intro D1 d1 w1 f1 g1 _; have b1 := (Below.refl w.heap.size w).grown g1 (Nat.le_refl _) (by intro q hq; rw [rowOf_zero] at hq; cases hq); have HF1 := Lib.hid (f1.alloc (.cells (bvs [1]).toArray 5)); have HB1 := Lib.hid (below_alloc b1 (.cells (bvs [1]).toArray 5) (Nat.le_refl _)); have HR1 := Lib.hid (Rd.made w1 5 1 1 (bvs [1]) rfl); clear f1 g1 b1)
    | (at_builtin; refine wpList_append_to rfl (.tmp 12) (.tmp 13) rfl okB rfl HF1.out rfl HR1.out (bvs_one _) 17 rfl (bvs (s ++ [1])) (bvs_app _ _).symm (by unfold maxLen; omega) (by omega) HB1.out.size ?_; intro D2 d2 w2 f2 g2 _; have b2 := HB1.out.grown g2 HB1.out.size (fun q hq => (HF1.out.row _ hq).1); have HF2 := Lib.hid f2; have HB2 := Lib.hid b2; clear f2 g2 b2))
  have hk := r_key D2 17 d2 (s ++ [1]) w2 (by rw [List.length_append, hs]; rfl) (by omega) HF2.out.rd
  rw [show keyOf (fourOf (s ++ [1])) = maskL s from rfl] at hk
  refine hk.mono ?_
  rintro e w3 ⟨D3, d3, rfl, f3, b3⟩
  have hml := maskL_len s
  generalize hmm : maskL s = m at *
  have HMM := Lib.hid hmm
  clear hmm
  have HB3 := Lib.hid (below_to HB2.out b3 HB2.out.size)
  have HR3 := Lib.hid f3.rd
  have HRB := Lib.hid (HB.out.below (below_to HB2.out b3 HB2.out.size))
  clear f3 b3 hk HF2 HB2 HF1 HB1 HR1
  go_wp2
  go_loopw [7, 8] (fun v i wr => TuRel b m w3 v i wr) (fun _ i _ => 16 - (intOf i).toNat)
  case atStart => exact ⟨none, 0, 0, by omega, rfl, rfl, Fr.none_, Below.refl _ _⟩
  case round =>
    obtain ⟨A4, c4, k, hk, rfl, rfl, hf, hbl⟩ := hrel
    by_cases hlt : k < 16
    · have h1 : (k : Int) < 16 := by omega
      have h0 : ¬ ((k : Int) < 0) := by omega
      obtain ⟨g, o, rfl, hg, cb⟩ := (HRB.out.belowH hbl HB3.out.size).byteR hb hlt
      obtain ⟨g', o', rfl, hg', cm⟩ := (HR3.out.below hbl).byteR hml hlt
      have hnx := xorL_next b m k (by omega) (by omega)
      have hx := xor_u8 (b[k]'(by omega)) (m[k]'(by omega))
      have HNX := Lib.hid hnx
      have HF := Lib.hid hf
      have HBL := Lib.hid hbl
      clear hnx hf hbl hg hg'
      generalize (b[k]'(by omega)) = x at *
      generalize (m[k]'(by omega)) = y at *
      go_wp2_with fail
      refine wp_region_any (by kernel_rfl) ?_
      try (change wpAny _ _ _ _ _ _ _ (World.drew _))
      refine wpAny_take (i := 0) (v := ?_) rfl (by kernel_rfl) (by kernel_rfl) (by kernel_rfl) (fun _ _ _ h => h) (Or.inl ⟨by rfl, ?hyq⟩) ?_
      case hyq => (intro w; go_simp; try (with_reducible rfl))
      refine wpAny_take (i := 1) (v := ?_) rfl (by kernel_rfl) (by kernel_rfl) (by kernel_rfl) (fun _ _ _ h => h) (Or.inl ⟨by rfl, ?hyq⟩) ?_
      case hyq => (intro w; go_simp; try (with_reducible rfl))
      refine wpAny_take (i := 2) (v := ?_) rfl (by kernel_rfl) (by kernel_rfl) (by kernel_rfl) (fun _ _ _ h => h) (Or.inl ⟨by rfl, ?hyq⟩) ?_
      case hyq => (intro w; go_simp; try (with_reducible rfl))
      refine wpAny_take (i := 3) (v := ?_) rfl (by kernel_rfl) (by kernel_rfl) (by kernel_rfl) (fun _ _ _ h => h) (Or.inl ⟨by rfl, ?hyq⟩) ?_
      case hyq => (intro w; go_simp; try (with_reducible rfl))
      refine wpAny_take (i := 5) (v := ?_) rfl (by kernel_rfl) (by kernel_rfl) (by kernel_rfl) (fun _ _ _ h => h) (Or.inl ⟨by rfl, ?hyq⟩) ?_
      case hyq => (intro w; go_simp; try (with_reducible rfl))
      refine wpAny_take (i := 6) (v := ?_) rfl (by kernel_rfl) (by kernel_rfl) (by kernel_rfl) (fun _ _ _ h => h) (Or.inl ⟨by rfl, ?hyq⟩) ?_
      case hyq => (intro w; go_simp; try (with_reducible rfl))
      refine wpAny_take (i := 7) (v := ?_) rfl (by kernel_rfl) (by kernel_rfl) (by kernel_rfl) (fun _ _ _ h => h) (Or.inl ⟨by rfl, ?hyq⟩) ?_
      case hyq => (intro w; go_simp; try (with_reducible rfl))
      refine wpAny_ready (rs := [4, 8]) (by kernel_rfl) (by simp) ?_
      refine all_cons rfl (fun K hK => ?_) ?_
      · skip
        refine stp_load_cell rfl 5 (.tmp 23) rfl Try.underlying5 ⟨g, o + k, none⟩ (by simp [Act.eval, Act.put]) (.int .u8 (x.toNat : Int)) cb ?_
        refine hK _ _ ?_
        clear hK K
        refine wpAny_ready (rs := [8]) (by kernel_rfl) (by simp) ?_
        refine all_cons rfl (fun K hK => ?_) ?_
        · skip
          refine stp_load_cell rfl 5 (.tmp 27) rfl Try.underlying5 ⟨g', o' + k, none⟩ (by simp [Act.eval, Act.put]) (.int .u8 (y.toNat : Int)) cm ?_
          refine hK _ _ ?_
          clear hK K
          refine wpAny_take (i := 9) (v := ?_) rfl (by kernel_rfl) (by kernel_rfl) (by kernel_rfl) (fun _ _ _ h => h) (Or.inl ⟨by rfl, ?hyq⟩) ?_
          case hyq => (intro w; go_simp; try (with_reducible rfl))
          refine wpAny_ready (rs := [10]) (by kernel_rfl) (by simp) ?_
          refine all_cons rfl (fun K hK => ?_) ?_
          · skip
            refine Stp.mk ?_
            go_simp
            try rw [hx]
            have HF1 := Lib.hid (HF.out.drew.alloc (.cells (bvs [x ^^^ y]).toArray 5))
            have HR1 := Lib.hid (Rd.made wr.drew 5 1 1 (bvs [x ^^^ y]) rfl)
            have HB1 := Lib.hid (below_alloc HBL.out.drew (.cells (bvs [x ^^^ y]).toArray 5) (Nat.le_refl _))
            refine hK _ _ ?_
            clear hK K
            refine wpAny_ready (rs := [11]) (by kernel_rfl) (by simp) ?_
            refine all_cons rfl (fun K hK => ?_) ?_
            · skip
              refine stp_append_to (c' := 1) rfl (.tmp 20) (.tmp 30) rfl okB (by simp [Act.eval, Act.put]) HF1.out (by simp [Act.eval, Act.put]) HR1.out (bvs_one _) (k + 1) rfl (bvs ((xorL b m).take (k + 1))) (by rw [HNX.out, bvs_app]) (by unfold maxLen; omega) (by omega) HB1.out.size ?_
              intro D5 d5 w5 f5 g5
              have HB5 := Lib.hid (HB1.out.grown g5.out HB1.out.size (fun q hq => (HF1.out.row _ hq).1))
              refine hK _ _ ?_
              clear hK K
              refine wpAny_ready (rs := [12]) (by kernel_rfl) (by simp) ?_
              refine all_cons rfl (fun K hK => ?_) ?_
              · skip
                refine Stp.mk ?_
                go_simp
                refine hK _ _ ?_
                clear hK K
                refine wpAny_done (by kernel_rfl) ?_ _
                clear HF1 HR1 HB1 HF HBL g5
                go_wp2
                go_roundw
                case rel => exact ⟨D5, d5, k + 1, by omega, by simp, rfl, f5.out, HB5.out⟩
                case measure => simp [intOf]; omega
              exact AllReady.nil
            exact AllReady.nil
          exact AllReady.nil
        exact AllReady.nil
      refine all_cons rfl (fun K hK => ?_) ?_
      · skip
        refine stp_load_cell rfl 5 (.tmp 27) rfl Try.underlying5 ⟨g', o' + k, none⟩ (by simp [Act.eval, Act.put]) (.int .u8 (y.toNat : Int)) cm ?_
        refine hK _ _ ?_
        clear hK K
        refine wpAny_ready (rs := [4]) (by kernel_rfl) (by simp) ?_
        refine all_cons rfl (fun K hK => ?_) ?_
        · skip
          refine stp_load_cell rfl 5 (.tmp 23) rfl Try.underlying5 ⟨g, o + k, none⟩ (by simp [Act.eval, Act.put]) (.int .u8 (x.toNat : Int)) cb ?_
          refine hK _ _ ?_
          clear hK K
          refine wpAny_take (i := 9) (v := ?_) rfl (by kernel_rfl) (by kernel_rfl) (by kernel_rfl) (fun _ _ _ h => h) (Or.inl ⟨by rfl, ?hyq⟩) ?_
          case hyq => (intro w; go_simp; try (with_reducible rfl))
          refine wpAny_ready (rs := [10]) (by kernel_rfl) (by simp) ?_
          refine all_cons rfl (fun K hK => ?_) ?_
          · skip
            refine Stp.mk ?_
            go_simp
            try rw [hx]
            have HF1 := Lib.hid (HF.out.drew.alloc (.cells (bvs [x ^^^ y]).toArray 5))
            have HR1 := Lib.hid (Rd.made wr.drew 5 1 1 (bvs [x ^^^ y]) rfl)
            have HB1 := Lib.hid (below_alloc HBL.out.drew (.cells (bvs [x ^^^ y]).toArray 5) (Nat.le_refl _))
            refine hK _ _ ?_
            clear hK K
            refine wpAny_ready (rs := [11]) (by kernel_rfl) (by simp) ?_
            refine all_cons rfl (fun K hK => ?_) ?_
            · skip
              refine stp_append_to (c' := 1) rfl (.tmp 20) (.tmp 30) rfl okB (by simp [Act.eval, Act.put]) HF1.out (by simp [Act.eval, Act.put]) HR1.out (bvs_one _) (k + 1) rfl (bvs ((xorL b m).take (k + 1))) (by rw [HNX.out, bvs_app]) (by unfold maxLen; omega) (by omega) HB1.out.size ?_
              intro D5 d5 w5 f5 g5
              have HB5 := Lib.hid (HB1.out.grown g5.out HB1.out.size (fun q hq => (HF1.out.row _ hq).1))
              refine hK _ _ ?_
              clear hK K
              refine wpAny_ready (rs := [12]) (by kernel_rfl) (by simp) ?_
              refine all_cons rfl (fun K hK => ?_) ?_
              · skip
                refine Stp.mk ?_
                go_simp
                refine hK _ _ ?_
                clear hK K
                refine wpAny_done (by kernel_rfl) ?_ _
                clear HF1 HR1 HB1 HF HBL g5
                go_wp2
                go_roundw
                case rel => exact ⟨D5, d5, k + 1, by omega, by simp, rfl, f5.out, HB5.out⟩
                case measure => simp [intOf]; omega
              exact AllReady.nil
            exact AllReady.nil
          exact AllReady.nil
        exact AllReady.nil
      exact AllReady.nil
    · obtain rfl : k = 16 := by omega
      have HF := Lib.hid (hf.mono (base' := w.heap.size) HB3.out.size)
      have HBL := Lib.hid (below_to HB3.out hbl HB3.out.size)
      clear hf hbl
      go_wp2
      go_ret
      exact ⟨_, _, rfl, by rw [HMM.out]; have := HF.out; rwa [List.take_of_length_le (by rw [xorL_len, hb]; exact Nat.le_refl _)] at this, HBL.out⟩

/-! ### Made -/
set_option maxHeartbeats 1000000 in
theorem r_made (s : ByteArray) (K : Option Addr) (c : Nat) (k : List UInt8) (salt : Nat) (w : World) (hs : (salt : Int) < 4294967296) (h : s.size ≤ 64) (hk : k.length = 16) (hrk : Rd w w.heap.size 1 K 16 (bvs k)) :
    Calls Try.prog 70 #[.string s, .slice K 16 c, .int .u32 (salt : Int)] w fun e w' => ∃ D d, e = .returned (.slice D 24 d) ∧ Fr w' w.heap.size 5 1 D 24 d (bvs (wrapL s.data.toList k salt)) ∧ Below w.heap.size w w' := by
  have hwr : IntKind.i64.wrap (salt : Int) = (salt : Int) := by rw [IntKind.wrap_i64]; omega
  have hst := r_stretched s salt w hs h
  have hby := fun W => ref_bytes (salt : Int) 4 W (by omega) (by omega) (by omega)
  rw [Int.toNat_natCast] at hby
  have hsl := stretchL_len s.data.toList salt
  have hwl : (le 4 salt ++ xorL k (maskL (stretchL s.data.toList salt))) ++ le 4 (tagOf (stretchL s.data.toList salt) (le 4 salt ++ xorL k (maskL (stretchL s.data.toList salt)))).toNat = wrapL s.data.toList k salt := rfl
  obtain ⟨WL, hWL⟩ : ∃ WL, WL = wrapL s.data.toList k salt := ⟨_, rfl⟩
  rw [← hWL] at hwl ⊢
  obtain ⟨S, hS⟩ : ∃ S, S = stretchL s.data.toList salt := ⟨_, rfl⟩
  rw [← hS] at hwl hsl
  simp only [← hS] at hst
  obtain ⟨b, hb⟩ : ∃ b, b = le 4 salt ++ xorL k (maskL S) := ⟨_, rfl⟩
  rw [← hb] at hwl
  have hbl : b.length = 20 := by rw [hb, List.length_append, le_len, xorL_len, hk]
  obtain ⟨T, hT⟩ : ∃ T, T = tagOf S b := ⟨_, rfl⟩
  rw [← hT] at hwl
  obtain ⟨i0, i1⟩ := wi_lt T
  have hwt : IntKind.i64.wrap (wi T) = wi T := by rw [IntKind.wrap_i64]; omega
  have hbt := fun W => ref_bytes (wi T) 4 W i0 (by omega) (by omega)
  rw [show (wi T).toNat = T.toNat from rfl] at hbt
  have HST := Lib.hid hst
  have HBY := Lib.hid hby
  have HBT := Lib.hid hbt
  have HSL := Lib.hid hsl
  have HWL := Lib.hid hwl
  have HB := Lib.hid hb
  have HBL := Lib.hid hbl
  have HT := Lib.hid hT
  have HRK := Lib.hid hrk
  clear hst hby hbt hsl hwl hb hbl hT hrk hS hWL i0 i1
  go_enter Try.func70, Try.ntmps70
  go_wp2_with fail
  refine HST.out.mono ?_
  rintro e w1 ⟨A1, c1, rfl, f1, b1⟩
  have HF1 := Lib.hid f1
  have HB1 := Lib.hid b1
  clear f1 b1
  go_wp2_with fail
  refine (HBY.out w1).mono ?_
  rintro e w2 ⟨A2, rfl, f2, b2⟩
  have HF2 := Lib.hid f2
  have HS2 := Lib.hid ((HF1.out.rd.below b2).more b2.size)
  have HB2 := Lib.hid (below_to HB1.out b2 HB1.out.size)
  have HB12 := Lib.hid b2
  clear f2 b2
  go_wp2_with fail
  refine (r_turned K c k A1 c1 S w2 hk ((HRK.out.below HB2.out).more HB2.out.size) HSL.out HS2.out).mono ?_
  rintro e w3 ⟨A3, c3, rfl, f3, b3⟩
  have HF23 := Lib.hid (HF2.out.below b3 (Nat.le_refl _))
  have HR3 := Lib.hid f3.rd
  have HB3 := Lib.hid (below_to HB2.out b3 HB2.out.size)
  have HB13 := Lib.hid (below_to HB12.out b3 HB12.out.size)
  clear f3 b3 HF2 HB2 HB12 HS2
  go_wp2_with (first
    | (at_builtin; refine wpList_append_to rfl (.tmp 16) (.tmp 19) rfl okB rfl HF23.out rfl HR3.out (bvs_one _) 20 rfl (bvs b) (by rw [HB.out, bvs_app]) (by unfold maxLen; omega) (by omega) HB13.out.size ?_; intro D4 d4 w4 f4 g4 _; have HB14 := Lib.hid (HB13.out.grown g4 HB13.out.size (fun q hq => (HF23.out.row _ hq).1)); have HF4 := Lib.hid f4; clear f4 g4))
  have HS4 := Lib.hid ((HF1.out.rd.below HB14.out).more HB14.out.size)
  have hof := r_ofT A1 c1 S D4 20 d4 b w4 HSL.out HS4.out HBL.out (by decide) HF4.out.rd
  rw [← HT.out] at hof
  refine hof.mono ?_
  rintro e w5 ⟨rfl, b5⟩
  have HF5 := Lib.hid (HF4.out.below b5 (Nat.le_refl _))
  have HB15 := Lib.hid (below_to HB14.out b5 HB14.out.size)
  clear b5 HF4 HB14 HS4 hof
  go_wp2_with fail
  refine (HBT.out w5).mono ?_
  rintro e w6 ⟨A6, rfl, f6, b6⟩
  have HF6 := Lib.hid (HF5.out.below b6 (Nat.le_refl _))
  have HR6 := Lib.hid f6.rd
  have HB16 := Lib.hid (below_to HB15.out b6 HB15.out.size)
  clear f6 b6 HF5 HB15
  go_wp2_with (first
    | (at_builtin; refine wpList_append_to rfl (.tmp 24) (.tmp 27) rfl okB rfl HF6.out rfl HR6.out (bvs_one _) 24 rfl (bvs WL) (by rw [← HWL.out, bvs_app]) (by unfold maxLen; omega) (by omega) HB16.out.size ?_; intro D7 d7 w7 f7 g7 _; have b7 := HB16.out.grown g7 HB16.out.size (fun q hq => (HF6.out.row _ hq).1)))
  have hf7 := f7.mono (base' := w.heap.size) HB1.out.size
  have hb7 := below_to HB1.out b7 HB1.out.size
  clear f7 g7 b7
  go_ret
  exact ⟨_, _, rfl, hf7, hb7⟩
end Go.Proofs.Ytoggpnncmgcgoaa
