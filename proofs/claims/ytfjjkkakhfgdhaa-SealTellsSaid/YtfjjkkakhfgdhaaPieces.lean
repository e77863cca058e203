/-
  cipher.pieces: the stream's pieces, by their contract.
-/
import Derived.Test.YtfjjkkakhfgdhaaMac
import Derived.Test.YtfjjkkakhfgdhaaFour
import Derived.Test.YtfjjkkakhfgdhaaRangeG
namespace Go.Proofs.Ytfjjkkakhfgdhaa
open Go.RowKit Go.Shelf
set_option linter.unusedVariables false
set_option linter.unusedSimpArgs false
set_option maxRecDepth 100000
attribute [local go_sem] Oper.semAt_some

/-- A piece of the stream. -/
def blk (k : List UInt8) (iv j : Nat) : List UInt8 := keyOf (fourOf (k ++ (le 4 iv ++ le 4 j)))
theorem blk_len (k : List UInt8) (iv j : Nat) : (blk k iv j).length = 16 := keyOf_len _

theorem c_pieces (A : Option Addr) (n c : Nat) (iv : Nat) (hiv : (iv : Int) < 4294967296) (w : World) :
    Calls Try.prog 56 #[.slice A n c, .int .u32 (iv : Int)] w fun e w' => ∃ F g1 c1, e = .returned (.func (.func 75) #[] #[.pointer (some ⟨w.heap.size, 0, none⟩), .pointer (some ⟨F, 0, none⟩)]) ∧
      Boxed w' w.heap.size 28 (.slice A n c) ∧ Boxed w' F 28 (.slice (some ⟨g1, 0, none⟩) 4 c1) ∧ Rd w' w'.heap.size 1 (some ⟨g1, 0, none⟩) 4 (bvs (le 4 iv)) ∧ w.heap.size < F ∧ w.heap.size ≤ g1 ∧ Below w.heap.size w w' := by
  have hx := Boxed.new w 28 (.slice A n c)
  have hb := below_new w (.cells #[.slice A n c] 28)
  have HX := Lib.hid hx
  have HB := Lib.hid hb
  clear hx hb
  go_enter Try.func56, Try.ntmps56
  go_wp2_with fail
  refine (put_ok4 (iv : Int) _ (by omega) hiv).mono ?_
  rintro e w1 ⟨A1, c1, rfl, f1, b1⟩
  rw [Int.toNat_natCast] at f1
  obtain ⟨g1, rfl, hg1, hg2⟩ := f1.form (by have := f1.nc; omega)
  have hx1 : Boxed w1 w.heap.size 28 (.slice A n c) := (b1.block _ HX.out.lt).trans HX.out
  have hB1 := below_to HB.out b1 HB.out.size
  have hr1 := f1.rd
  have hz : w.heap.size < w1.heap.size := hx1.lt
  have hgg : w.heap.size ≤ g1 := by rw [World.size_alloc] at hg1; omega
  clear HX HB f1 b1 hg1
  go_wp2
  go_ret
  exact ⟨_, _, _, rfl, hx1.alloc _, Boxed.new _ _ _, (hr1.alloc (Nat.le_refl _) _).more (by rw [World.size_alloc]; omega), hz, hgg, below_alloc hB1 _ (Nat.le_refl _)⟩

theorem Boxed.low {W W' : World} {B H : Nat} {t : TypeId} {v : Value} (h : Boxed W B t v) (hb : Below H W W') (hB : B < H) : Boxed W' B t v := (hb.block B hB).trans h
theorem three_new (w : World) (v0 v1 v2 : Value) (t : TypeId) : Rd (w.alloc (.cells #[v0, v1, v2] t)) (w.alloc (.cells #[v0, v1, v2] t)).heap.size 1 (some ⟨w.heap.size, 0, none⟩) 3 [v0, v1, v2] :=
  Rd.ofRow (cs := [v0, v1, v2]) (heap_alloc_new w _) rfl
theorem three_cat (w : World) (a b c : Sl) (ha : a.ok w) (hb : b.ok w) (hc : c.ok w) :
    Calls Try.prog 53 #[.slice (some ⟨w.heap.size, 0, none⟩) 3 3] (w.alloc (.cells #[a.v, b.v, c.v] 28)) fun e w' => ∃ D d, e = .returned (.slice D (joinS [a, b, c]).length d) ∧ Fr w' (w.heap.size + 1) 5 1 D (joinS [a, b, c]).length d (bvs (joinS [a, b, c])) ∧ Below (w.heap.size + 1) (w.alloc (.cells #[a.v, b.v, c.v] 28)) w' := by
  have h := m_concat (some ⟨w.heap.size, 0, none⟩) 3 3 [a, b, c] _ rfl (by decide) (three_new w a.v b.v c.v 28) (by
    intro s hs
    have hn := below_new w (.cells #[a.v, b.v, c.v] 28)
    simp only [List.mem_cons, List.not_mem_nil, or_false] at hs
    rcases hs with rfl | rfl | rfl
    · exact ha.below hn
    · exact hb.below hn
    · exact hc.below hn)
  rw [World.size_alloc] at h
  exact h
/-- What a round leaves of what lay when the range began: all but the consumer's own box. -/
def KpS (HB OB : Nat) (W W' : World) : Prop := (∀ b, b < HB → b ≠ OB → W'.heap[b]? = W.heap[b]?) ∧ W.heap.size ≤ W'.heap.size
theorem KpS.refl (HB OB : Nat) (W : World) : KpS HB OB W W := ⟨fun _ _ _ => rfl, Nat.le_refl _⟩
theorem KpS.trans {HB OB : Nat} {A B C : World} (h : KpS HB OB A B) (k : KpS HB OB B C) : KpS HB OB A C := ⟨fun b h1 h2 => (k.1 b h1 h2).trans (h.1 b h1 h2), Nat.le_trans h.2 k.2⟩
theorem KpS.below {HB OB H : Nat} {W W' : World} (h : Below H W W') (hH : HB ≤ H) : KpS HB OB W W' := ⟨fun b h1 _ => h.block b (by omega), h.size⟩
theorem Rd.kp {w W : World} {B n g off HB OB : Nat} {xs : List Value} (h : Rd w B 1 (some ⟨g, off, none⟩) n xs) (hk : KpS HB OB w W) (hg : g < HB) (ho : g ≠ OB) (hW : g < W.heap.size) : Rd W W.heap.size 1 (some ⟨g, off, none⟩) n xs :=
  ⟨h.1, fun hn => by
    obtain ⟨b, off', e, hb, hc⟩ := h.2 hn
    cases e
    exact ⟨g, off, rfl, hW, fun j u hu => (World.cell?_of_block (a := ⟨g, off + j, none⟩) (hk.1 g hg ho)).trans (hc j u hu)⟩⟩
theorem grown_none {W W' : World} (h : Below W.heap.size W W') : W.grownBy W' none := ⟨h.os, h.tape, h.output, h.size, fun k hk _ => h.block k hk⟩

set_option maxHeartbeats 4000000 in
theorem pieces_endless (n : Nat) (hn : 1 ≤ n) (KB FB OB N : Nat) (hN : N ≤ 100000) (bk off c g1 c1 : Nat) (k : List UInt8) (iv : Nat) (hk : k.length = 16) (w0 : World)
    (hK : Boxed w0 KB 28 (.slice (some ⟨bk, off, none⟩) 16 c)) (hF : Boxed w0 FB 28 (.slice (some ⟨g1, 0, none⟩) 4 c1)) (hrk : Rd w0 w0.heap.size 1 (some ⟨bk, off, none⟩) 16 (bvs k)) (hrf : Rd w0 w0.heap.size 1 (some ⟨g1, 0, none⟩) 4 (bvs (le 4 iv)))
    (hbk : bk < w0.heap.size) (hbk' : bk ≠ OB) (hg1 : g1 < w0.heap.size) (hg1' : g1 ≠ OB) (hKO : KB ≠ OB) (hFO : FB ≠ OB) :
    Endless Fence.wide n Try.prog 75 #[.pointer (some ⟨KB, 0, none⟩), .pointer (some ⟨FB, 0, none⟩)] (fun x : Option Addr × Nat => #[Value.slice x.1 16 x.2]) (KpS w0.heap.size OB) (fun j x W => Rd W W.heap.size 1 x.1 16 (bvs (blk k iv j))) N w0 := by
  intro l J Jx W hW hJ hJN hY h0
  have hKl := hK.lt
  have hFl := hF.lt
  have hWz := hW.size
  refine callsIn_of_wp Try.func75 rfl trivial ?_ rfl
  simp only [Try.ntmps75, List.size_toArray, List.length_cons, List.length_nil, Nat.reduceAdd, Nat.reduceSub, Array.replicate_succ, Array.replicate_zero, List.push_toArray, List.append_toArray, List.nil_append, List.cons_append]
  gi_wp2
  gi_loopw [4] (fun i wr => ∃ pre : List (Option Addr × Nat), i = .int .i64 (pre.length : Int) ∧ J pre wr ∧ KpS w0.heap.size OB W wr) (fun i _ => N - (intOf i).toNat)
  case atStart => exact ⟨[], rfl, h0, KpS.refl _ _ _⟩
  case round =>
    obtain ⟨pre, rfl, hj, hkp⟩ := hrel
    have hsz := hkp.2
    have hlt := hJN pre wr hj
    have hkw : KpS w0.heap.size OB w0 wr := (KpS.below hW (Nat.le_refl _)).trans hkp
    have bK : Boxed wr KB 28 (.slice (some ⟨bk, off, none⟩) 16 c) := (hkw.1 KB hKl hKO).trans hK
    have bF : Boxed wr FB 28 (.slice (some ⟨g1, 0, none⟩) 4 c1) := (hkw.1 FB hFl hFO).trans hF
    have rK := hrk.kp hkw hbk hbk' (by omega)
    have rF := hrf.kp hkw hg1 hg1' (by omega)
    have HBK := Lib.hid bK
    have HBF := Lib.hid bF
    have HRK := Lib.hid rK
    have HRF := Lib.hid rF
    have HJ := Lib.hid hj
    have HKP := Lib.hid hkp
    have HSZ := Lib.hid hsz
    have HYY := Lib.hid hY
    have HJA := Lib.hid hJ
    clear bK bF rK rF hj hkp hkw hY hJ h0 hK hF hrk hrf
    gi_wp2_with (first
      | (refine ⟨trivial, ?_⟩; gi_at_call 48; go_loud (refine (callsIn_wide.2 (put_ok4 (pre.length : Int) wr (by omega) (by omega))).mono ?_; rintro e w1 ⟨A1, d1, rfl, f1, b1⟩; rw [Int.toNat_natCast] at f1; have cK := (Boxed.low HBK.out b1 HBK.out.lt).cell; have cF := (Boxed.low HBF.out b1 HBF.out.lt).cell; have HF1 := Lib.hid f1; have HB1 := Lib.hid b1; clear f1 b1))
      | (refine ⟨trivial, ?_⟩; gi_at_call 53; go_loud (refine (callsIn_wide.2 (three_cat w1 ⟨some ⟨bk, off, none⟩, 16, c, k⟩ ⟨some ⟨g1, 0, none⟩, 4, c1, le 4 iv⟩ ⟨A1, 4, d1, le 4 pre.length⟩ ⟨hk, (by decide : 16 ≤ 1000000), (HRK.out.below HB1.out).more HB1.out.size⟩ ⟨le_len 4 iv, (by decide : 4 ≤ 1000000), (HRF.out.below HB1.out).more HB1.out.size⟩ ⟨le_len 4 _, (by decide : 4 ≤ 1000000), HF1.out.rd⟩)).mono ?_; rintro e w2 ⟨A2, d2, rfl, f2, b2⟩; have hj2 : joinS [⟨some ⟨bk, off, none⟩, 16, c, k⟩, ⟨some ⟨g1, 0, none⟩, 4, c1, le 4 iv⟩, ⟨A1, 4, d1, le 4 pre.length⟩] = k ++ (le 4 iv ++ le 4 pre.length) := (by simp [joinS]); rw [hj2] at f2 ⊢; have hl2 : (k ++ (le 4 iv ++ le 4 pre.length)).length = 24 := (by simp only [List.length_append, le_len, hk]); rw [hl2] at f2 ⊢; have hB2 : Below wr.heap.size wr w2 := ((HB1.out.alloc HB1.out.size _).trans (b2.mono (by have := HB1.out.size; omega))); have HF2 := Lib.hid f2; have HL2 := Lib.hid hl2; have HB2 := Lib.hid hB2; clear f2 b2 hB2 hj2 hl2))
      | (refine ⟨trivial, ?_⟩; gi_at_call 25; go_loud (refine (callsIn_wide.2 (x_key A2 24 d2 (k ++ (le 4 iv ++ le 4 pre.length)) w2 HL2.out (by decide) HF2.out.nc HF2.out.rd)).mono ?_; rintro e w3 ⟨A3, d3, rfl, f3, b3⟩; have hB3 := below_to HB2.out b3 HB2.out.size; have hj3 := HJA.out pre wr w3 none HJ.out (grown_none hB3) (fun r e => by cases e); obtain ⟨fn, tmps, assign, body, hy, hR⟩ := HYY.out pre (A3, d3) w3 hj3 f3.rd; dsimp only at hy; have HB3 := Lib.hid hB3; clear f3 b3 hj3 hB3)))
    refine hR.mono ?_
    rintro e W3 (⟨rfl, hJ3, hk3⟩ | ⟨rfl, hJx3⟩)
    · have hq := HKP.out.trans ((KpS.below (OB := OB) HB3.out (by have := HSZ.out; omega)).trans hk3)
      gi_wp2
      go_roundw
      case rel => exact ⟨pre ++ [(A3, d3)], by simp, hJ3, hq⟩
      case measure => simp [intOf]; omega
    · gi_wp2
      refine bodyPost_ret (results_none rfl _ _ _) rfl ?_
      exact ⟨⟨_, rfl⟩, _, hJx3⟩
end Go.Proofs.Ytfjjkkakhfgdhaa
