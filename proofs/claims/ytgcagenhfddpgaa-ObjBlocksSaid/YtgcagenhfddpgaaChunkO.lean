/-
  slices.Chunk over bytes, by its contract: pieces of k out of k * m bytes of one row, from any place of it on.
-/
import Derived.Test.YtgcagenhfddpgaaGet
namespace Go.Proofs.Ytgcagenhfddpgaa
open Go.RowKit Go.Shelf
set_option linter.unusedVariables false
set_option maxRecDepth 100000
attribute [local go_sem] Oper.semAt_some

/-- What a round that goes on keeps: the row, and the iterator's own boxes. -/
def KpC (g Bs : Nat) (W W' : World) : Prop := W'.heap[g]? = W.heap[g]? ∧ W'.heap[Bs]? = W.heap[Bs]? ∧ W'.heap[Bs + 1]? = W.heap[Bs + 1]?
theorem KpC.refl (g Bs : Nat) (W : World) : KpC g Bs W W := ⟨rfl, rfl, rfl⟩
theorem KpC.trans {g Bs : Nat} {A B C : World} (h : KpC g Bs A B) (k : KpC g Bs B C) : KpC g Bs A C := ⟨k.1.trans h.1, k.2.1.trans h.2.1, k.2.2.trans h.2.2⟩
theorem KpC.put {g Bs : Nat} {w : World} (hg : g < w.heap.size) (hB : Bs + 1 < w.heap.size) (W : World) (l : Nat) (o o' : Obj) (hl : w.heap.size ≤ l) (h : W.heap[l]? = some o) (h1 : o.isCells = false) (h2 : o.isWalk = false) : KpC g Bs W (W.putObj l o') :=
  ⟨World.putObj_heap_other (by omega), World.putObj_heap_other (by omega), World.putObj_heap_other (by omega)⟩
theorem KpC.below {g Bs H : Nat} {W W' : World} (h : Below H W W') (hg : g < H) (hB : Bs + 1 < H) : KpC g Bs W W' := ⟨h.block _ hg, h.block _ (by omega), h.block _ hB⟩

/-- The first r places. -/
def fst (m r : Nat) : List (Fin m) := (List.finRange m).take r
theorem fst_zero (m : Nat) : fst m 0 = [] := rfl
theorem fst_len (m r : Nat) (h : r ≤ m) : (fst m r).length = r := by simp [fst]; omega
theorem fst_succ (m r : Nat) (h : r < m) : fst m (r + 1) = fst m r ++ [⟨r, h⟩] := by
  unfold fst
  rw [List.take_succ_eq_append_getElem (by simpa using h), List.getElem_finRange]
  rfl
theorem chunk_in (F : Fence) (n : Nat) (hf : F.fn 55) (hro : F.round = none) (a : Option Addr) (len cap : Nat) (k : Int) (hk : 1 ≤ k) (w : World) :
    CallsIn F n Try.prog 55 #[.slice a len cap, .int .i64 k] w fun e w' => e = .returned (.func (.func 65) #[] #[.pointer (some ⟨w.heap.size, 0, none⟩), .pointer (some ⟨w.heap.size + 1, 0, none⟩)]) ∧ w' = (w.alloc (.cells #[.slice a len cap] 23)).alloc (.cells #[.int .i64 k] 3) := by
  refine callsIn_of_wp Try.func55 rfl hf ?_ hro
  simp only [Try.ntmps55, List.size_toArray, List.length_cons, List.length_nil, Nat.reduceAdd, Nat.reduceSub, Array.replicate_succ, Array.replicate_zero, List.push_toArray, List.append_toArray, List.nil_append, List.cons_append]
  gi_wp2
  go_ret
  exact ⟨rfl, rfl⟩

set_option maxHeartbeats 2000000 in
theorem chunk1_in (F : Fence) (n : Nat) (hf : F.fn 65) (hro : F.round = none) (hn : 1 ≤ n) (l Bs g o k m c : Nat) (hk : 1 ≤ k) (hk9 : k ≤ 1000) (hm : m ≤ 1000000) (hc : k * m ≤ c) (J Jx : List (Fin m) → World → Prop)
    (hY : ∀ pre x W, J pre W → pre.length < m → YieldAt F (n - 1) Try.prog l #[.slice (some ⟨g, o + k * x.val, none⟩) k k] W fun e W' =>
      (e = .returned (.bool true) ∧ J (pre ++ [x]) W' ∧ KpC g Bs W W') ∨ (e = .returned (.bool false) ∧ Jx (pre ++ [x]) W'))
    (hJd : ∀ pre W, J pre W → J pre W.drew)
    (W : World) (hBs : W.heap[Bs]? = some (.cells #[.slice (some ⟨g, o, none⟩) (k * m) c] 23 (0, 0))) (hBk : W.heap[Bs + 1]? = some (.cells #[.int .i64 (k : Int)] 3 (0, 0))) (h0 : J [] W) :
    CallsIn F n Try.prog 65 #[.func (.yield l) #[] #[], .pointer (some ⟨Bs, 0, none⟩), .pointer (some ⟨Bs + 1, 0, none⟩)] W fun e W' => (∃ v, e = .returned v) ∧
      ((∃ ys, ys = fst m m ∧ J ys W') ∨ (∃ pre, True ∧ Jx pre W')) := by
  refine callsIn_of_wp Try.func65 rfl hf ?_ hro
  simp only [Try.ntmps65, List.size_toArray, List.length_cons, List.length_nil, Nat.reduceAdd, Nat.reduceSub, Array.replicate_succ, Array.replicate_zero, List.push_toArray, List.append_toArray, List.nil_append, List.cons_append]
  have hKM : k * m ≤ 1000000000 := Nat.mul_le_mul hk9 hm
  gi_wp2
  gi_loopw [4] (fun i wr => ∃ r : Nat, r ≤ m ∧ i = .int .i64 ((k * r : Nat) : Int) ∧ J (fst m r) wr ∧ KpC g Bs W wr)
    (fun i _ => k * m + 1 - (intOf i).toNat)
  case atStart => exact ⟨0, Nat.zero_le _, by simp, h0, KpC.refl _ _ _⟩
  case round =>
    obtain ⟨r, hr, rfl, hJs, hnx⟩ := hrel
    have hbr : wr.cell? ⟨Bs, 0, none⟩ = some (.slice (some ⟨g, o, none⟩) (k * m) c) := by simp [World.cell?, hnx.2.1, hBs]
    have hbk : wr.cell? ⟨Bs + 1, 0, none⟩ = some (.int .i64 (k : Int)) := by simp [World.cell?, hnx.2.2, hBk]
    rcases Nat.lt_or_ge r m with hlt | hge
    · have hs1 : k * (r + 1) ≤ k * m := Nat.mul_le_mul_left k hlt
      rw [Nat.mul_succ] at hs1
      have hX := hY (fst m r) ⟨r, hlt⟩ wr.drew (hJd _ _ hJs) (by rw [fst_len _ _ hr]; exact hlt)
      have hnext : fst m (r + 1) = fst m r ++ [⟨r, hlt⟩] := fst_succ m r hlt
      have HN := Lib.hid hnext
      have HJ := Lib.hid hJs
      have hnx' : KpC g Bs W wr.drew := hnx
      have HX := Lib.hid hnx'
      have hmul : k * (r + 1) = k * r + k := Nat.mul_succ k r
      have HM := Lib.hid hmul
      clear hnext hJs hnx hnx' hmul hJd hY
      obtain ⟨fn, tmps, assign, body, hy, hR⟩ := hX
      dsimp only at hy
      generalize k * r = p at *
      generalize k * m = N at *
      have h1 : (p : Int) < (N : Int) := by omega
      have h2 : (0 : Int) ≤ (p : Int) := by omega
      have h3 : (p : Int) + (k : Int) ≤ (N : Int) := by omega
      have h4 : IntKind.i64.wrap ((p : Int) + (k : Int)) = (p : Int) + (k : Int) := IntWalk.i64_in _ (by omega)
      have h5 : ¬ (N - p < k) := by omega
      have h7 : p + k - p = k := by omega
      have h8 : ¬ (p + k < p) := by omega
      have h6 : (p : Int) + (k : Int) ≤ (c : Int) := by omega
      gi_wp2
      gi_region
      all_goals
        gi_wp2
        refine hR.mono ?_
        rintro e W3 (⟨rfl, hJ3, hk3⟩ | ⟨rfl, hJx3⟩)
        · have hq := HX.out.trans hk3
          have hbk3 : W3.cell? ⟨Bs + 1, 0, none⟩ = some (.int .i64 (k : Int)) := by simp [World.cell?, hq.2.2, hBk]
          gi_wp2
          go_roundw
          case rel => exact ⟨r + 1, hlt, by rw [HM.out]; simp, by rw [HN.out]; exact hJ3, hq⟩
          case measure => simp [intOf]; omega
        · gi_wp2
          refine bodyPost_ret (results_none rfl _ _ _) rfl ?_
          exact ⟨⟨_, rfl⟩, .inr ⟨_, trivial, hJx3⟩⟩
    · have hrm : r = m := by omega
      subst r
      gi_wp2
      go_end0
      exact ⟨⟨_, rfl⟩, .inl ⟨_, rfl, hJs⟩⟩
theorem chunk_stops (F : Fence) (n : Nat) (hf : F.fn 65) (hro : F.round = none) (hn : 1 ≤ n) (Bs g o k m c : Nat) (hk : 1 ≤ k) (hk9 : k ≤ 1000) (hm : m ≤ 1000000) (hc : k * m ≤ c) (w : World)
    (hBs : w.heap[Bs]? = some (.cells #[.slice (some ⟨g, o, none⟩) (k * m) c] 23 (0, 0))) (hBk : w.heap[Bs + 1]? = some (.cells #[.int .i64 (k : Int)] 3 (0, 0))) :
    SeqStopsK F n Try.prog 65 #[.pointer (some ⟨Bs, 0, none⟩), .pointer (some ⟨Bs + 1, 0, none⟩)] (fun x : Fin m => #[Value.slice (some ⟨g, o + k * x.val, none⟩) k k]) (KpC g Bs) (fun ys => ys = fst m m) (fun pre => True) m w := fun l J Jx W hW hJ _ hY h0 => by
  have hlt : Bs < w.heap.size := (Array.getElem?_eq_some_iff.1 hBs).1
  have hlt2 : Bs + 1 < w.heap.size := (Array.getElem?_eq_some_iff.1 hBk).1
  exact chunk1_in F n hf hro hn l Bs g o k m c hk hk9 hm hc J Jx hY (fun pre W' h => hJ pre W' W'.drew none h ⟨rfl, rfl, rfl, Nat.le_refl _, fun _ _ _ => rfl⟩ (fun r e => by cases e)) W ((hW.block Bs hlt).trans hBs) ((hW.block (Bs + 1) hlt2).trans hBk) h0
end Go.Proofs.Ytgcagenhfddpgaa
