/-
  code.Get: the iterator slices.Backward over bytes, by its contract, and Get over it.
-/
import Derived.Test.YtgcagenhfddpgaaCode
import Derived.RangeFuncNested
import Derived.RangeFuncBound
import Derived.RangeFuncCalls
import Derived.RangeFuncLeaves
import Derived.Shelf.Abstract
import Derived.Shelf.RegionOpen
import Derived.OwnWalkIn
import Derived.TacticsInMore
import Derived.LoopNIn
import Derived.LoopIn
namespace Go.Proofs.Ytgcagenhfddpgaa
open Go.RowKit Go.Shelf
set_option linter.unusedVariables false
attribute [local go_sem] Oper.semAt_some

/-- What a round that goes on keeps: whatever lay below n₀, and the iterator's own box. -/
def KpB (n₀ Bs : Nat) (W W' : World) : Prop := Below n₀ W W' ∧ W'.heap[Bs]? = W.heap[Bs]?
theorem KpB.refl (n₀ Bs : Nat) (W : World) : KpB n₀ Bs W W := ⟨Below.refl _ _, rfl⟩
theorem KpB.trans {n₀ Bs : Nat} {A B C : World} (h : KpB n₀ Bs A B) (k : KpB n₀ Bs B C) : KpB n₀ Bs A C := ⟨h.1.trans k.1, k.2.trans h.2⟩
theorem KpB.put {n₀ Bs : Nat} {w : World} (hn : n₀ ≤ w.heap.size) (hB : Bs < w.heap.size) (W : World) (l : Nat) (o o' : Obj) (hl : w.heap.size ≤ l) (h : W.heap[l]? = some o) (h1 : o.isCells = false) (h2 : o.isWalk = false) : KpB n₀ Bs W (W.putObj l o') :=
  ⟨belowK_b hn W l o o' hl h h1 h2, World.putObj_heap_other (by omega)⟩

set_option maxRecDepth 100000 in
set_option maxHeartbeats 2000000 in
theorem backward1_in (F : Fence) (n : Nat) (hf : F.fn 63) (hro : F.round = none) (hn : 1 ≤ n) (l Bs n₀ len cap : Nat) (A : Option Addr) (bs : List UInt8) (hlen : bs.length = len) (hmax : len ≤ 1000000000) (J Jx : List (Nat × UInt8) → World → Prop)
    (hY : ∀ pre x W, J pre W → pre.length < len → YieldAt F (n - 1) Try.prog l #[.int .i64 (x.1 : Int), .int .u8 (x.2.toNat : Int)] W fun e W' =>
      (e = .returned (.bool true) ∧ J (pre ++ [x]) W' ∧ KpB n₀ Bs W W') ∨ (e = .returned (.bool false) ∧ Jx (pre ++ [x]) W'))
    (W : World) (hBs : W.heap[Bs]? = some (.cells #[.slice A len cap] 23 (0, 0))) (hc : Rd W n₀ 1 A len (bvs bs)) (h0 : J [] W) :
    CallsIn F n Try.prog 63 #[.func (.yield l) #[] #[], .pointer (some ⟨Bs, 0, none⟩)] W fun e W' => (∃ v, e = .returned v) ∧
      ((∃ ys, ys = upto (pairs bs) len ∧ J ys W') ∨ (∃ pre, (∃ k, k ≤ len ∧ pre = upto (pairs bs) k) ∧ Jx pre W')) := by
  refine callsIn_of_wp Try.func63 rfl hf ?_ hro
  simp only [Try.ntmps63, List.size_toArray, List.length_cons, List.length_nil, Nat.reduceAdd, Nat.reduceSub, Array.replicate_succ, Array.replicate_zero, List.push_toArray, List.append_toArray, List.nil_append, List.cons_append]
  have hbx : W.cell? ⟨Bs, 0, none⟩ = some (.slice A len cap) := by simp [World.cell?, hBs]
  gi_wp2
  gi_loopw [3] (fun i wr => ∃ r : Nat, r ≤ len ∧ i = .int .i64 ((r : Int) - 1) ∧ J (upto (pairs bs) (len - r)) wr ∧ KpB n₀ Bs W wr)
    (fun i _ => (intOf i + 1).toNat)
  case atStart => exact ⟨len, Nat.le_refl _, by simp, by rw [Nat.sub_self]; exact h0, KpB.refl _ _ _⟩
  case round =>
    obtain ⟨r, hr, rfl, hJs, hnx⟩ := hrel
    have hbr : wr.cell? ⟨Bs, 0, none⟩ = some (.slice A len cap) := by simp [World.cell?, hnx.2, hBs]
    rcases Nat.eq_zero_or_pos r with rfl | hpos
    · have e : ((0 : Nat) : Int) - 1 = -1 := rfl
      rw [e]
      gi_wp2
      go_end0
      exact ⟨⟨_, rfl⟩, .inl ⟨_, rfl, hJs⟩⟩
    · obtain ⟨m, rfl⟩ : ∃ m, r = m + 1 := ⟨r - 1, by omega⟩
      have e : ((m + 1 : Nat) : Int) - 1 = (m : Int) := by omega
      rw [e]
      obtain ⟨b, off, rfl, hb, hcc⟩ := (hc.below hnx.1).2 (by omega)
      have hm : m < bs.length := by omega
      have hcell : wr.cell? ⟨b, off + m, none⟩ = some (.int .u8 (bs[m].toNat : Int)) := hcc m _ (by rw [bvs_get, List.getElem?_eq_getElem hm]; rfl)
      have hp : pairs bs (len - (m + 1)) = (m, bs[m]) := by
        have e2 : bs.length - 1 - (len - (m + 1)) = m := by omega
        simp only [pairs, e2, List.getElem?_eq_getElem hm, Option.getD_some]
      have hnext : upto (pairs bs) (len - m) = upto (pairs bs) (len - (m + 1)) ++ [(m, bs[m])] := by
        rw [← hp, ← upto_succ]
        congr 1
        omega
      have HN := Lib.hid hnext
      obtain ⟨fn, tmps, assign, body, hy, hR⟩ := hY _ (m, bs[m]) wr hJs (by rw [upto_length]; omega)
      dsimp only at hy
      generalize bs[m] = c at *
      clear hp hnext hcc hc
      have h1 : ¬ ((m : Int) < 0) := by omega
      have h2 : (m : Int) < (len : Int) := by omega
      gi_wp2
      refine hR.mono ?_
      rintro e W3 (⟨rfl, hJ3, hk3⟩ | ⟨rfl, hJx3⟩)
      · gi_wp2
        go_roundw
        case rel => exact ⟨m, by omega, rfl, by rw [HN.out]; exact hJ3, hnx.trans hk3⟩
        case measure => simp [intOf]
      · gi_wp2
        refine bodyPost_ret (results_none rfl _ _ _) rfl ?_
        exact ⟨⟨_, rfl⟩, .inr ⟨_, ⟨len - m, by omega, HN.out.symm⟩, hJx3⟩⟩

theorem backward_in (F : Fence) (n : Nat) (hf : F.fn 48) (hro : F.round = none) (a : Option Addr) (len cap : Nat) (w : World) :
    CallsIn F n Try.prog 48 #[.slice a len cap] w fun e w' => e = .returned (.func (.func 63) #[] #[.pointer (some ⟨w.heap.size, 0, none⟩)]) ∧ w' = w.alloc (.cells #[.slice a len cap] 23) := by
  refine callsIn_of_wp Try.func48 rfl hf ?_ hro
  simp only [Try.ntmps48, List.size_toArray, List.length_cons, List.length_nil, Nat.reduceAdd, Nat.reduceSub, Array.replicate_succ, Array.replicate_zero, List.push_toArray, List.append_toArray, List.nil_append, List.cons_append]
  gi_wp2
  go_ret
  exact ⟨rfl, rfl⟩

theorem backward_stops (F : Fence) (n : Nat) (hf : F.fn 63) (hro : F.round = none) (hn : 1 ≤ n) (Bs n₀ len cap : Nat) (A : Option Addr) (bs : List UInt8) (hlen : bs.length = len) (hmax : len ≤ 1000000000) (w : World)
    (hBs : w.heap[Bs]? = some (.cells #[.slice A len cap] 23 (0, 0))) (hn₀ : n₀ ≤ w.heap.size) (hc : Rd w n₀ 1 A len (bvs bs)) :
    SeqStopsK F n Try.prog 63 #[.pointer (some ⟨Bs, 0, none⟩)] (fun x : Nat × UInt8 => #[Value.int .i64 (x.1 : Int), Value.int .u8 (x.2.toNat : Int)]) (KpB n₀ Bs) (fun ys => ys = upto (pairs bs) len) (fun pre => ∃ k, k ≤ len ∧ pre = upto (pairs bs) k) len w := fun l J Jx W hW _ _ hY h0 => by
  have hlt : Bs < w.heap.size := (Array.getElem?_eq_some_iff.1 hBs).1
  exact (backward1_in F n hf hro hn l Bs n₀ len cap A bs hlen hmax J Jx hY W ((hW.block Bs hlt).trans hBs) (hc.below (hW.mono hn₀)) h0)

/-! ### Get -/
theorem get_size (A : Option Addr) (len cap : Nat) (at_ s : Int) (w : World) (h : s ≤ 0 ∨ 4 < s) : Calls Try.prog 23 #[.slice A len cap, .int .i64 at_, .int .i64 s] w fun e w' => e = .returned (.tuple #[.int .i64 0, .int .i64 2]) ∧ w = w' := by
  have H := Lib.hid h; clear h
  go_enter Try.func23, Try.ntmps23
  go_wp2_with (go_at_call 46; refine (sized_no _ _ H.out).mono ?_; rintro e w' ⟨rfl, rfl⟩)
  go_ret2
  exact ⟨rfl, rfl⟩
theorem get_neg (A : Option Addr) (len cap : Nat) (at_ s : Int) (w : World) (h1 : 0 < s) (h2 : s ≤ 4) (ha : at_ < 0) : Calls Try.prog 23 #[.slice A len cap, .int .i64 at_, .int .i64 s] w fun e w' => e = .returned (.tuple #[.int .i64 0, .int .i64 2]) ∧ w = w' := by
  go_enter Try.func23, Try.ntmps23
  go_wp2_with (go_at_call 46; refine (sized_yes _ _ h1 h2).mono ?_; rintro e w' ⟨rfl, rfl⟩)
  go_ret2
  exact ⟨rfl, rfl⟩
theorem get_far (A : Option Addr) (len cap : Nat) (at_ s : Int) (w : World) (h1 : 0 < s) (h2 : s ≤ 4) (ha : 0 ≤ at_) (hb : (len : Int) < at_) : Calls Try.prog 23 #[.slice A len cap, .int .i64 at_, .int .i64 s] w fun e w' => e = .returned (.tuple #[.int .i64 0, .int .i64 2]) ∧ w = w' := by
  have ha' : ¬ at_ < 0 := by omega
  go_enter Try.func23, Try.ntmps23
  go_wp2_with (go_at_call 46; refine (sized_yes _ _ h1 h2).mono ?_; rintro e w' ⟨rfl, rfl⟩)
  go_ret2
  exact ⟨rfl, rfl⟩
theorem get_bad (A : Option Addr) (len cap : Nat) (at_ s : Int) (w : World) (hl : (len : Int) ≤ 1000000000) (h1 : 0 < s) (h2 : s ≤ 4) (ha : 0 ≤ at_) (hb : at_ ≤ (len : Int)) (hs : (len : Int) < at_ + s) : Calls Try.prog 23 #[.slice A len cap, .int .i64 at_, .int .i64 s] w fun e w' => e = .returned (.tuple #[.int .i64 0, .int .i64 8]) ∧ w = w' := by
  have ha' : ¬ at_ < 0 := by omega
  have hb' : ¬ (len : Int) < at_ := by omega
  go_enter Try.func23, Try.ntmps23
  go_wp2_with (go_at_call 46; refine (sized_yes _ _ h1 h2).mono ?_; rintro e w' ⟨rfl, rfl⟩)
  go_ret2
  exact ⟨rfl, rfl⟩

set_option maxRecDepth 100000 in
set_option maxHeartbeats 1000000 in
theorem get_ok (A : Option Addr) (len cap : Nat) (at_ s : Int) (w : World) (bs : List UInt8) (hl : (len : Int) ≤ 1000000000) (hcap : len ≤ cap) (hr : Rd w w.heap.size 1 A len (bvs bs)) (h1 : 0 < s) (h2 : s ≤ 4) (ha : 0 ≤ at_) (hs : at_ + s ≤ (len : Int)) :
    Calls Try.prog 23 #[.slice A len cap, .int .i64 at_, .int .i64 s] w fun e w' => e = .returned (.tuple #[.int .i64 (num ((bs.drop at_.toNat).take s.toNat) : Int), .int .i64 0]) ∧ Below w.heap.size w w' := by
  have ha' : ¬ at_ < 0 := by omega
  have hb' : ¬ (len : Int) < at_ := by omega
  have hs' : ¬ (len : Int) < at_ + s := by omega
  have hc0 : at_ + s ≤ (cap : Int) := by omega
  refine (callsIn_wide (n := 9)).1 ?_
  refine callsIn_of_wp_marks Try.func23 rfl trivial ?_ rfl
  simp only [Try.ntmps23, List.size_toArray, List.length_cons, List.length_nil, Nat.reduceAdd, Nat.reduceSub, Array.replicate_succ, Array.replicate_zero, List.push_toArray, List.append_toArray, List.nil_append, List.cons_append]
  gi_wp2_with (first | (refine ⟨trivial, ?_⟩; gi_at_call 46; refine (callsIn_wide.2 (sized_yes _ _ h1 h2)).mono ?_; rintro e w' ⟨rfl, rfl⟩) | (refine ⟨trivial, ?_⟩; gi_at_call 48; refine (backward_in Fence.wide _ trivial rfl _ _ _ _).mono ?_; rintro e w' ⟨rfl, rfl⟩))
  have HL : ∃ len', len' = (at_ + s).toNat - at_.toNat ∧ len' = s.toNat := ⟨_, rfl, by omega⟩
  obtain ⟨len', e1, e2⟩ := HL
  rw [← e1]
  have hrd : Rd w w.heap.size 1 (Option.map (fun x => x.add at_.toNat) A) len' (bvs ((bs.drop at_.toNat).take s.toNat)) := by
    have h := (hr.cut (l := at_.toNat) (m := cap) (by omega) hcap).take (k := len') (by omega)
    rw [if_neg (by omega)] at h
    simp only [Nat.mul_one] at h
    rw [bvs_take, bvs_drop, ← e2]
    exact h
  have hlen' : ((bs.drop at_.toNat).take s.toNat).length = len' := by have := hrd.len; simpa [bvs_len] using this
  have hsmall : len' ≤ 4 := by omega
  clear e1 e2
  generalize hcs : (bs.drop at_.toNat).take s.toNat = cs at *
  have HCS := Lib.hid hcs
  clear hcs
  generalize Option.map (fun x => Addr.add x at_.toNat) A = A' at *
  generalize cap - at_.toNat = cap' at *
  have hB0 : Below w.heap.size w ((w.alloc (.cells #[.int .i64 0] 3)).alloc (.cells #[.slice A' len' cap'] 23)) := ((Below.refl _ w).alloc (Nat.le_refl _) _).alloc (by simp) _
  have hbox : Boxed ((w.alloc (.cells #[.int .i64 0] 3)).alloc (.cells #[.slice A' len' cap'] 23)) (w.heap.size + 1) 23 (.slice A' len' cap') := by
    have := Boxed.new (w.alloc (.cells #[.int .i64 0] 3)) 23 (.slice A' len' cap')
    rwa [World.size_alloc] at this
  have hn0 : Boxed ((w.alloc (.cells #[.int .i64 0] 3)).alloc (.cells #[.slice A' len' cap'] 23)) w.heap.size 3 (.int .i64 0) := (Boxed.new w _ _).alloc _
  refine wpIn_rangeFunc_ownF rfl (by omega) (gf := 63) (lb := #[.pointer (some ⟨w.heap.size + 1, 0, none⟩)]) rfl trivial (enters_of Try.func63 (by kernel_rfl) rfl)
    (backward_stops Fence.wide _ trivial rfl (by omega) (w.heap.size + 1) w.heap.size len' cap' A' cs hlen' (by omega) _ hbox (by simp; omega) (hrd.below hB0)) (fun h k => h.trans k) (KpB.put (by simp; omega) (by simp)) (Below.refl _ _) (fun _ => rfl)
    (fun pre W => Boxed W w.heap.size 3 (.int .i64 (back pre : Int)) ∧ Below w.heap.size w W)
    (fun _ _ _ => False)
    (OwnFrom.and (Own.from (boxed_own _ _ _) _) (ownFrom_below (Nat.le_refl _) (by simp; omega)))
    (fun _ _ _ _ _ hs _ _ => hs)
    ⟨hn0, hB0⟩
    (fun x => { tmps := #[.slice A len cap, .int .i64 at_, .int .i64 s, undef, undef, undef, .int .i64 0, .int .i64 0, .pointer (some ⟨w.heap.size, 0, none⟩), undef, .int .u8 (x.2.toNat : Int), .bool (decide ((len : Int) < at_)), .int .i64 s, .bool true, .bool false, .int .i64 at_, .bool (decide (at_ < 0)), .int .i64 at_, .slice A len cap, .int .i64 len, .bool (decide ((len : Int) < at_)), .bool (decide ((len : Int) < at_ + s)), .int .i64 at_, .int .i64 s, .int .i64 (at_ + s), .slice A len cap, .int .i64 len, .bool (decide ((len : Int) < at_ + s)), .slice A len cap, .int .i64 at_, .int .i64 at_, .int .i64 s, .int .i64 (at_ + s), .slice A' len' cap', .func (.func 63) #[] #[.pointer (some ⟨w.heap.size + 1, 0, none⟩)], .int .i64 (x.1 : Int), .int .u8 (x.2.toNat : Int), undef, undef, undef, undef, undef, undef], defers := [] }) ?assign ?body ?done ?stop
  case assign =>
    intro l x W K hK
    gi_wp2
    exact hK
  case body =>
    rintro l pre x W ⟨hb1, hB⟩ hlt
    have hV := back_lt pre
    have hV4 : 256 ^ pre.length ≤ 256 ^ 3 := Nat.pow_le_pow_right (by omega) (by omega)
    have hsn := back_snoc pre x
    have hx2 := x.2.toNat_lt
    have hle : ((256 * back pre + x.2.toNat : Nat) : Int) = 256 * (back pre : Int) + (x.2.toNat : Int) := by omega
    have HE := Lib.hid hle
    have HS := Lib.hid hsn
    clear hle hsn
    have hv : (back pre : Int) < 16777216 := by omega
    have hv0 : 0 ≤ (back pre : Int) := by omega
    have hx3 : (x.2.toNat : Int) < 256 := by omega
    clear hV hV4
    have hcell := hb1.cell
    have hfro := hb1.frozen
    generalize (back pre : Int) = V at *
    gi_wp2
    refine ⟨KeepsOthers.setCell _ _ _, ⟨(Below.refl w.heap.size W).setCell (p := ⟨w.heap.size, 0, none⟩) (Nat.le_refl _) _, Below.heap_setCell _ _ _ _ (by simp)⟩, ?_, hB.setCell (p := ⟨w.heap.size, 0, none⟩) (Nat.le_refl _) _⟩
    have := hb1.set (.int .i64 (256 * V + (x.2.toNat : Int)))
    rw [HS.out, HE.out]
    exact this
  case done =>
    rintro D ys W hD rfl ⟨hb1, hB⟩ hK
    have hcell := hb1.cell
    gi_wp2
    refine ⟨by simp, .inl ⟨_, _, rfl, run_takeDeferred hK, ?_⟩⟩
    refine ⟨_, results_tmp2 rfl _ _ _, ?_, hB.trans (belowK_b (w := w) (Nat.le_refl _) W D _ _ (by simp at hD; omega) hK rfl rfl)⟩
    rw [HCS.out]
    simp [← hlen', back_all]
  case stop =>
    rintro D c pre W _ _ h _
    exact h.elim

theorem get_any (A : Option Addr) (n c : Nat) (a s : Int) (w : World) (l : List UInt8) (hl : l.length = n) (hn : (n : Int) ≤ 1000000000) (hcap : n ≤ c) (hr : Rd w w.heap.size 1 A n (bvs l)) :
    Calls Try.prog 23 #[.slice A n c, .int .i64 a, .int .i64 s] w fun e w' => e = .returned (.tuple #[.int .i64 (getV l a s), .int .i64 (getE l a s)]) ∧ Below w.heap.size w w' := by
  subst hl
  unfold getV getE
  by_cases h : GetArg l.length a s
  · obtain ⟨h1, h2, h3, h4⟩ := h
    rw [if_neg (not_not_intro ⟨h1, h2, h3, h4⟩)]
    by_cases h5 : (l.length : Int) < a + s
    · rw [if_pos h5, if_neg (by omega)]
      refine (get_bad A l.length c a s w hn h1 h2 h3 h4 h5).mono ?_
      rintro e w' ⟨rfl, rfl⟩
      exact ⟨rfl, Below.refl _ _⟩
    · rw [if_neg h5, if_pos ⟨⟨h1, h2, h3, h4⟩, by omega⟩]
      exact get_ok A l.length c a s w l hn hcap hr h1 h2 h3 (by omega)
  · rw [if_pos h, if_neg (fun hh => h hh.1)]
    have done : (Calls Try.prog 23 #[.slice A l.length c, .int .i64 a, .int .i64 s] w fun e w' => e = .returned (.tuple #[.int .i64 0, .int .i64 2]) ∧ w = w') := by
      unfold GetArg at h
      by_cases h1 : 0 < s ∧ s ≤ 4
      · by_cases h2 : a < 0
        · exact get_neg A l.length c a s w h1.1 h1.2 h2
        · exact get_far A l.length c a s w h1.1 h1.2 (by omega) (by omega)
      · exact get_size A l.length c a s w (by omega)
    refine done.mono ?_
    rintro e w' ⟨rfl, rfl⟩
    exact ⟨rfl, Below.refl _ _⟩
end Go.Proofs.Ytgcagenhfddpgaa
