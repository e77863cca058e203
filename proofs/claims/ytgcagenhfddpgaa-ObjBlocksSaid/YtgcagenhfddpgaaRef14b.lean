/-
  charterhouseref14: contracts of Block, Write.
-/
import Derived.Test.YtgcagenhfddpgaaRef14a
import Derived.Test.YtgcagenhfddpgaaZeros
namespace Go.Proofs.Ytgcagenhfddpgaa
open Go.RowKit
set_option linter.unusedVariables false
set_option linter.unusedSimpArgs false
set_option maxRecDepth 100000

/-- The first k pointers' bytes behind the head. -/
def headL (K L : UInt8) (S : Int) : List UInt8 := [K, L] ++ le 2 S.toNat ++ noughts 12
theorem headL_len (K L : UInt8) (S : Int) : (headL K L S).length = 16 := by simp [headL, le_len, noughts_len]
theorem block_all {K L : UInt8} {S : Int} {l : List Pt} (h : l.length = 15) : headL K L S ++ rowK l 15 = blockL K L S l := by
  have e : rowK l 15 = joined l := by
    unfold rowK
    congr 1
    apply List.ext_getElem
    · rw [upto_length, h]
    · intro i h1 h2
      rw [upto_get, ptAt_lt h2]
  rw [e, headL, blockL, List.append_assoc ([K, L] ++ le 2 S.toNat)]
theorem le2 (S : Int) (h0 : 0 ≤ S) (h1 : S ≤ 3840) : bvs (le 2 S.toNat) = [.int .u8 (S % 256), .int .u8 (S / 256)] := by
  obtain ⟨s, rfl⟩ := Int.eq_ofNat_of_zero_le h0
  simp only [le, bvs, bv, List.map_cons, List.map_nil, Int.toNat_natCast, UInt8.toNat_ofNat']
  have e1 : (s : Int) % 256 = ((s % 256 : Nat) : Int) := by omega
  have e2 : (s : Int) / 256 = ((s / 256 : Nat) : Int) := by omega
  rw [e1, e2]
  have e3 : s / 256 % 256 = s / 256 := by omega
  simp [e3]
theorem fr_head {V : World} {a0 a1 a2 a3 : Value} {L4 : List UInt8} (h4 : [a0, a1, a2, a3] = bvs L4) {base : Nat} (hb : base ≤ V.heap.size) {cap : Nat} (hcap : cap = grownCap V 16 4 5) :
    Fr ((V.alloc (.cells (#[a0, a1, a2, a3] ++ (Builtin.zeroCells #[Value.int .u8 0] 12 ++ Builtin.zeroCells #[Value.int .u8 0] (cap - 16))) 5)).drew) base 5 1 (some ⟨V.heap.size, 0, none⟩) 16 cap (bvs (L4 ++ noughts 12)) := by
  have hge : 16 ≤ cap := by rw [hcap]; exact grownCap_ge V 16 4 _
  have hle : cap ≤ maxLen := by rw [hcap]; exact grownCap_le_maxLen V 16 4 _ (by unfold maxLen; omega)
  have hl : L4.length = 4 := by have := congrArg List.length h4; rw [bvs_len] at this; exact this.symm
  have e : (#[a0, a1, a2, a3] ++ (Builtin.zeroCells #[Value.int .u8 0] 12 ++ Builtin.zeroCells #[Value.int .u8 0] (cap - 16))) = (bvs (L4 ++ noughts 12) ++ bvs (List.replicate (cap - 16) 0)).toArray := by
    rw [zeroCells_u8, zeroCells_u8, bvs_app, ← h4, noughts]
    simp
  rw [e]
  refine (Fr.made V _ 16 cap hb hle hge ?_ ?_ ?_).drew
  · simp [bvs_len, hl, noughts_len]
    omega
  · simp [bvs_len, hl, noughts_len]
  · exact List.take_left' (by simp [bvs_len, hl, noughts_len])
def BkR (K L : UInt8) (S : Int) (l : List Pt) (w : World) (W : World) (v x : Value) (wr : World) : Prop :=
  ∃ (k c : Nat) (A : Option Addr), k ≤ 15 ∧ x = .int .i64 (k : Int) ∧ v = .slice A (16 + 16 * k) c ∧ Fr wr (w.heap.size + 1) 5 1 A (16 + 16 * k) c (bvs (headL K L S ++ rowK l k)) ∧ Below W.heap.size W wr
set_option maxHeartbeats 4000000 in
theorem q_block (Kd Ld Sd : Int) (A : Option Addr) (c : Nat) (l : List Pt) (w : World) (hr : Rd w w.heap.size 5 A 15 (pcs l)) (hU : AllU l) (hm : ObMay Kd Ld Sd l) :
    Calls Try.prog 62 #[.agg #[.int .u8 Kd, .int .i64 Ld, .int .i64 Sd, .slice A 15 c]] w fun e w' => ∃ D d, e = .returned (.slice D 256 d) ∧ Fr w' w.heap.size 5 1 D 256 d (bvs (obB Kd Ld Sd l)) ∧ Below w.heap.size w w' := by
  obtain ⟨⟨k1, k2⟩, ⟨l1, l2⟩, ⟨s1, s2⟩, hl, hM⟩ := hm
  have hob := obB_yes (K := Kd) (L := Ld) (S := Sd) (l := l) ⟨⟨k1, k2⟩, ⟨l1, l2⟩, ⟨s1, s2⟩, hl, hM⟩
  rw [hob, ← block_all hl]
  have hx := ObBox.new w Kd Ld Sd (.slice A 15 c)
  have hb := below_new w (.cells #[.int .u8 Kd, .int .i64 Ld, .int .i64 Sd, .slice A 15 c] 50)
  obtain ⟨W, hW⟩ : ∃ V, V = w.alloc (.cells #[.int .u8 Kd, .int .i64 Ld, .int .i64 Sd, .slice A 15 c] 50) := ⟨_, rfl⟩
  have hz : W.heap.size = w.heap.size + 1 := by rw [hW]; simp
  rw [← hW] at hx hb
  obtain ⟨d0, d1, d2, d3⟩ := hx.cells
  have h4 : [.int .u8 Kd, .int .u8 (Ld % 256), .int .u8 (Sd % 256), .int .u8 (Sd / 256)] = bvs ([byteOf Kd, byteOf Ld] ++ le 2 Sd.toNat) := by
    rw [bvs_app, le2 Sd s1 s2]
    have e1 := byteOf_toNat (n := Kd) (by omega) (by omega)
    have e2 := byteOf_toNat (n := Ld) (by omega) (by omega)
    simp only [bvs, bv, List.map_cons, List.map_nil, e1, e2, List.cons_append, List.nil_append]
    rw [Int.emod_eq_of_lt (by omega) (by omega)]
  have HB := Lib.hid hb
  have HX := Lib.hid hx
  have HR := Lib.hid (hr.below hb)
  have HM := Lib.hid hM
  have HU := Lib.hid hU
  have HL := Lib.hid hl
  have HZ := Lib.hid hz
  have HW := Lib.hid hW
  have H4 := Lib.hid h4
  clear hx hb hr hM hU hl hz hW h4 hob k1 k2 l1 l2
  go_enter Try.func62, Try.ntmps62
  go_wp2
  have hF := fr_head (V := (w.alloc (.cells #[.int .u8 Kd, .int .i64 Ld, .int .i64 Sd, .slice A 15 c] 50)).alloc (.cells #[.int .u8 Kd, .int .u8 (Ld % 256), .int .u8 (Sd % 256), .int .u8 (Sd / 256)] 5)) H4.out (base := w.heap.size + 1) (by simp) rfl
  rw [World.size_alloc, World.size_alloc] at hF
  have HF := Lib.hid hF
  have hbb := below_alloc (below_alloc (Below.refl W.heap.size W) (.cells #[.int .u8 Kd, .int .u8 (Ld % 256), .int .u8 (Sd % 256), .int .u8 (Sd / 256)] 5) (Nat.le_refl _)) (.cells (#[.int .u8 Kd, .int .u8 (Ld % 256), .int .u8 (Sd % 256), .int .u8 (Sd / 256)] ++ (Builtin.zeroCells #[Value.int .u8 0] 12 ++ Builtin.zeroCells #[Value.int .u8 0] (grownCap ((w.alloc (.cells #[.int .u8 Kd, .int .i64 Ld, .int .i64 Sd, .slice A 15 c] 50)).alloc (.cells #[.int .u8 Kd, .int .u8 (Ld % 256), .int .u8 (Sd % 256), .int .u8 (Sd / 256)] 5)) 16 4 5 - 16))) 5) (Nat.le_refl _)
  rw [HW.out] at hbb
  have HBB := Lib.hid hbb.drew
  clear hF hbb d0 d1 d2 d3 s1 s2
  go_loopw [3, 4] (fun v x wr => BkR (byteOf Kd) (byteOf Ld) Sd l w W v x wr) (fun _ x _ => 15 - (intOf x).toNat)
  case atStart =>
    refine ⟨0, _, _, Nat.zero_le _, rfl, rfl, HF.out, ?_⟩
    rw [HW.out]
    exact HBB.out
  case round =>
    clear HF HBB
    obtain ⟨k, kc, KA, hk, rfl, rfl, hf, hb⟩ := hrel
    obtain ⟨d0, d1, d2, d3⟩ := (HX.out.below hb HX.out.lt).cells
    by_cases hlt : k < 15
    · have hst := rowK_step l k
      have hpa := ptAt_lt (l := l) (k := k) (by have := HL.out; omega)
      obtain ⟨b, off, hA, hbb, c0, c1, c2, c3, c4⟩ := (HR.out.below (hb.mono HB.out.size)).at5 (k := k) (by omega) HL.out
      rw [← hpa] at c0 c1 c2 c3 c4
      rw [hA] at d3
      have g0 : ¬ ((k : Int) < 0) := by omega
      have g1 : (k : Int) < 15 := by omega
      have hY := fun V => q_pbytes (ptAt l k) (ptAt_may HM.out k) (ptAt_U HU.out k) V
      have HST := Lib.hid hst
      have HF := Lib.hid hf
      have HBR := Lib.hid hb
      clear hst hpa hA hbb hf hb HM HU HR HL
      generalize ptAt l k = p at *
      have HY := Lib.hid hY
      clear hY
      go_wp2_with fail
      refine (HY.out _).mono ?_
      rintro e w3 ⟨A3, c3', rfl, f3, b3⟩
      have HF3 := Lib.hid (HF.out.below b3 (Nat.le_refl _))
      have HR3 := Lib.hid f3.rd
      have HB3 := Lib.hid (below_to HBR.out b3 HBR.out.size)
      have HZ3 := Lib.hid (show w.heap.size + 1 ≤ w3.heap.size from by have := HBR.out.size; have := b3.size; have := HZ.out; omega)
      clear f3 b3 HY HF HBR c0 c1 c2 c3 c4 d0 d1 d2 d3
      go_wp2_with (at_builtin; go_loud (refine wpList_append_to rfl (.tmp 25) (.tmp 31) rfl okB rfl HF3.out rfl HR3.out (bvs_one _) (16 + 16 * (k + 1)) (by omega) (bvs (headL (byteOf Kd) (byteOf Ld) Sd ++ rowK l (k + 1))) (by rw [← HST.out, ← bvs_app, List.append_assoc]) (by unfold maxLen; omega) (by omega) HZ3.out ?_); intro D4 d4 w4 f4 g4 _)
      have HB4 := Lib.hid (HB3.out.grown g4 HB3.out.size (fun g hg => by have := (HF3.out.row g hg).1; have := HZ.out; omega))
      have HF4 := Lib.hid f4
      clear f4 g4
      go_wp2
      go_roundw
      case rel => exact ⟨k + 1, _, _, by omega, by simp, rfl, HF4.out, HB4.out⟩
      case measure => simp [intOf]; omega
    · obtain rfl : k = 15 := by omega
      have HF := Lib.hid (hf.mono (base' := w.heap.size) (by omega))
      have HBE := Lib.hid (below_to HB.out hb HB.out.size)
      clear hf hb d0 d1 d2 d3
      go_wp2
      go_ret
      exact ⟨_, _, rfl, HF.out, HBE.out⟩
set_option maxHeartbeats 1000000 in
theorem q_owrite (Kd Ld Sd : Int) (A : Option Addr) (n c : Nat) (l : List Pt) (w : World) (hl : l.length = n) (hU : AllU l) (hr : Rd w w.heap.size 5 A n (pcs l)) (hK8 : 0 ≤ Kd ∧ Kd ≤ 255) (B : List UInt8) (E : Int) (m : Nat) (hB : obB Kd Ld Sd l = B) (hE : obE Kd Ld Sd l = E) (hm : B.length = m) :
    Calls Try.prog 42 #[.agg #[.int .u8 Kd, .int .i64 Ld, .int .i64 Sd, .slice A n c]] w fun e w' => ∃ D d, e = .returned (.tuple #[.slice D m d, .int .i64 E]) ∧ Fr w' w.heap.size 5 1 D m d (bvs B) ∧ Below w.heap.size w w' := by
  have hx := ObBox.new w Kd Ld Sd (.slice A n c)
  have hb := below_new w (.cells #[.int .u8 Kd, .int .i64 Ld, .int .i64 Sd, .slice A n c] 50)
  obtain ⟨d0, d1, d2, d3⟩ := hx.cells
  have HB := Lib.hid hb
  have HX := Lib.hid hx
  have HR := Lib.hid hr
  have hr1 := (hr.below hb).more hb.size
  by_cases ho : ObMay Kd Ld Sd l
  · have hM := q_omay Kd Ld Sd A n c l _ hl hr1 hK8 true (decide_eq_true ho).symm
    obtain rfl : n = 15 := by rw [← hl]; exact ho.2.2.2.1
    obtain rfl : E = 0 := by rw [← hE]; exact obE_yes ho
    obtain rfl : m = 256 := by rw [← hm, ← hB]; exact obB_len ho
    have HM := Lib.hid hM
    have HK := Lib.hid (fun V h => q_block Kd Ld Sd A c l V h hU ho)
    rw [hB] at HK
    clear hx hb hr hr1 hM hl hU hK8 hB hE hm ho
    go_enter Try.func42, Try.ntmps42
    go_wp2_with fail
    refine HM.out.mono ?_
    rintro e w1 ⟨rfl, b1⟩
    have HB1 := Lib.hid (below_to HB.out b1 HB.out.size)
    have hx1 := HX.out.below b1 HX.out.lt
    clear d0 d1 d2 d3 b1
    obtain ⟨d0, d1, d2, d3⟩ := hx1.cells
    go_wp2_with fail
    refine (HK.out _ ((HR.out.below HB1.out).more HB1.out.size)).mono ?_
    rintro e w2 ⟨D, d, rfl, f2, b2⟩
    have HF2 := Lib.hid (f2.mono HB1.out.size)
    have HB2 := Lib.hid (below_to HB1.out b2 HB1.out.size)
    clear f2 b2
    go_wp2
    go_ret2
    exact ⟨_, _, rfl, HF2.out, HB2.out⟩
  · have hM := q_omay Kd Ld Sd A n c l _ hl hr1 hK8 false (decide_eq_false ho).symm
    obtain rfl : E = 8 := by rw [← hE]; exact obE_no ho
    obtain rfl : B = [] := by rw [← hB]; exact obB_no ho
    obtain rfl : m = 0 := hm.symm
    have HM := Lib.hid hM
    clear hx hb hr hr1 hM hl hU hK8 hB hE hm ho
    go_enter Try.func42, Try.ntmps42
    go_wp2_with fail
    refine HM.out.mono ?_
    rintro e w1 ⟨rfl, b1⟩
    have HB1 := Lib.hid (below_to HB.out b1 HB.out.size)
    clear b1
    go_wp2
    go_ret2
    exact ⟨_, _, rfl, Fr.none_, HB1.out⟩
end Go.Proofs.Ytgcagenhfddpgaa
