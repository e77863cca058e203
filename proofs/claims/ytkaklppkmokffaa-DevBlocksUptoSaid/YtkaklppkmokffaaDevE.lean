/-
  Contracts of bytes.Clone, slices.Clone of blocks, slices.Clip of writes; of package dev: all, Crash's mark, lasts.
-/
import Derived.Test.YtkaklppkmokffaaDevD
import Derived.Test.YtkaklppkmokffaaOwn
import Derived.Shelf.GgClosure.Gives
namespace Go.Proofs.Ytkaklppkmokffaa
open Go.RowKit
set_option linter.unusedVariables false
set_option linter.unusedSimpArgs false
set_option maxRecDepth 100000

def CloneP (s : Sl) (w : World) (e : Ending) (w' : World) : Prop := ∃ s' : Sl, e = .returned (.slice s'.A s'.n s'.c) ∧ s'.l = s.l ∧ s'.n = s.n ∧ s'.came w' ∧ Own w' w.heap.size s' ∧ Below w.heap.size w w'
set_option maxHeartbeats 1000000 in
theorem b_clone (s : Sl) (w : World) (hs : s.came w) (hn : (s.n : Int) ≤ 1000000000) : Calls Try.prog 52 #[s.v] w (CloneP s w) := by
  obtain ⟨A, n, c, l⟩ := s
  obtain ⟨hl, hr, hnc, hc⟩ := hs
  simp only [Sl.v] at *
  have HR := Lib.hid hr
  have HL := Lib.hid hl
  clear hr hl
  cases A with
  | none =>
    have h0 : n = 0 := by
      rcases Nat.eq_zero_or_pos n with h | h
      · exact h
      · obtain ⟨b, off, e, _⟩ := HR.out.2 h
        cases e
    subst h0
    have hl : l = [] := List.eq_nil_of_length_eq_zero HL.out
    subst hl
    have hq := fun W => Lib.run_eql_slice_nil (P := Try.prog) W 41 5 none 0 c 0 0 Try.underlying41
    go_enter Try.func52, Try.ntmps52
    go_wp2
    go_ret
    exact ⟨⟨none, 0, 0, []⟩, rfl, rfl, rfl, ⟨rfl, Rd.nil_, Nat.le_refl _, Nat.zero_le _⟩, fun h => absurd h (Nat.lt_irrefl _), Below.refl _ _⟩
  | some a =>
    have hq := fun W => Lib.run_eql_slice_nil (P := Try.prog) W 41 5 (some a) n c 0 0 Try.underlying41
    go_enter Try.func52, Try.ntmps52
    go_wp2_with (at_builtin; go_loud (refine wpList_append_to rfl (.tmp 5) (.tmp 6) rfl okB rfl (Fr.zero_ (base := w.heap.size)) rfl (HR.out.alloc (Nat.le_refl _) _) (bvs_one _) n (by omega) (bvs l) rfl (by unfold maxLen; omega) (by omega) (by simp) ?_; intro D d w2 f2 g2 _))
    have hb := (below_new' w (.cells #[] 5)).grown g2 (by simp) (by intro q hq; rw [rowOf_zero] at hq; cases hq)
    go_ret
    exact ⟨⟨D, n, d, l⟩, rfl, rfl, rfl, f2.cameS, f2.ownS, hb⟩

def CloneB (A : Option Addr) (n : Nat) (bs : List Sl) (w : World) (e : Ending) (w' : World) : Prop := ∃ D d, e = .returned (.slice D n d) ∧ Fr w' w.heap.size 41 1 D n d (bs.map Sl.v) ∧ Below w.heap.size w w'
theorem svs_one (l : List Sl) : ∀ u ∈ l.map Sl.v, u.oneCell' = true := by
  intro u hu
  obtain ⟨s, _, rfl⟩ := List.mem_map.1 hu
  rfl
set_option maxHeartbeats 1000000 in
theorem s_clone (A : Option Addr) (n c : Nat) (bs : List Sl) (w : World) (hl : bs.length = n) (hr : Rd w w.heap.size 1 A n (bs.map Sl.v)) (hn : (n : Int) ≤ 1000000) : Calls Try.prog 60 #[.slice A n c] w (CloneB A n bs w) := by
  have HR := Lib.hid hr
  have HL := Lib.hid hl
  clear hr hl
  cases A with
  | none =>
    have h0 : n = 0 := by
      rcases Nat.eq_zero_or_pos n with h | h
      · exact h
      · obtain ⟨b, off, e, _⟩ := HR.out.2 h
        cases e
    subst h0
    have hl : bs = [] := List.eq_nil_of_length_eq_zero HL.out
    subst hl
    have hq := fun W => Lib.run_eql_slice_nil (P := Try.prog) W 22 41 none 0 c 0 0 Try.underlying22
    go_enter Try.func60, Try.ntmps60
    go_wp2
    go_ret
    exact ⟨none, 0, rfl, Fr.none_, Below.refl _ _⟩
  | some a =>
    have hq := fun W => Lib.run_eql_slice_nil (P := Try.prog) W 22 41 (some a) n c 0 0 Try.underlying22
    go_enter Try.func60, Try.ntmps60
    go_wp2_with (at_builtin; go_loud (refine wpList_append_to rfl (.tmp 5) (.tmp 6) rfl okBs rfl (Fr.zero_ (base := w.heap.size)) rfl (HR.out.alloc (Nat.le_refl _) _) (svs_one _) n (by omega) (bs.map Sl.v) rfl (by unfold maxLen; omega) (by omega) (by simp) ?_; intro D d w2 f2 g2 _))
    have hb := (below_new' w (.cells #[] 41)).grown g2 (by simp) (by intro q hq; rw [rowOf_zero] at hq; cases hq)
    go_ret
    exact ⟨D, d, rfl, f2, hb⟩

theorem s_clip (A : Option Addr) (n c : Nat) (w : World) (hnc : n ≤ c) (hc : c ≤ maxLen) : Calls Try.prog 48 #[.slice A n c] w fun e w' => e = .returned (.slice A n n) ∧ w = w' := by
  unfold maxLen at hc
  go_enter Try.func48, Try.ntmps48
  go_wp2
  go_ret
  exact ⟨rfl, rfl⟩

/-- What is asked of the function value that tells which writes are so. -/
def Tells (g : Nat) (lb : Array Value) (so : Nat → Bool) (nW : Nat) (w : World) : Prop :=
  ∀ (W : World) (i : Nat), (i : Int) < (nW : Int) → Below w.heap.size w W → Calls Try.prog g (#[.int .i64 (i : Int)] ++ lb) W fun e w' => e = .returned (.bool (so i)) ∧ W = w'
theorem Tells.below {g : Nat} {lb : Array Value} {so : Nat → Bool} {nW : Nat} {w w' : World} (h : Tells g lb so nW w) (hb : Below w.heap.size w w') : Tells g lb so nW w' :=
  fun W i hi hW => h W i hi (below_to hb hW hb.size)
theorem d_all (nW : Nat) (w : World) : Tells 37 #[] (fun _ => true) nW w := by
  intro W i hi hb
  simp only [Array.append_empty]
  go_enter Try.func37, Try.ntmps37
  go_wp2
  go_ret
  exact ⟨rfl, rfl⟩
/-- A box of one slice. -/
def KeepBox (w : World) (g : Nat) (X : Value) : Prop := w.heap[g]? = some (.cells #[X] 26 (0, 0))
def bos (l : List Bool) : List Value := l.map .bool
def markB (keep : List Bool) (i : Nat) : Bool := keep.getD i false
theorem d_mark (G : Nat) (A : Option Addr) (n c : Nat) (keep : List Bool) (w : World) (hg : G < w.heap.size) (hk : w.cell? ⟨G, 0, none⟩ = some (.slice A n c)) (hl : keep.length = n) (hn : (n : Int) ≤ 1000000) (hr : Rd w w.heap.size 1 A n (bos keep)) :
    Tells 41 #[.pointer (some ⟨G, 0, none⟩)] (markB keep) n w := by
  intro W i hi hb
  obtain ⟨b, off, u, rfl, hbb, hu, hc⟩ := (hr.below hb).at_ (k := i) (by omega)
  have hv : u = .bool (markB keep i) := by
    unfold markB
    rw [bos, List.getElem?_map, List.getElem?_eq_getElem (by omega)] at hu
    rw [List.getD_eq_getElem?_getD, List.getElem?_eq_getElem (by omega)]
    exact (Option.some.inj hu).symm
  subst hv
  have hx := (hb.cell (p := ⟨G, 0, none⟩) hg).trans hk
  have h0 : ¬ ((i : Int) < 0) := by omega
  clear hu hk hr hb
  generalize markB keep i = q at *
  simp only [List.append_toArray, List.cons_append, List.nil_append]
  go_enter Try.func41, Try.ntmps41
  go_wp2
  go_ret
  exact ⟨rfl, rfl⟩

/-! ### lasts -/
def LsR (ws : List Wt) (so : Nat → Bool) (b nW : Nat) (w : World) (x : Value) (wr : World) : Prop :=
  ∃ (k : Nat) (D : DataW WH), k ≤ nW ∧ x = .int .i64 (k : Int) ∧ wr.ownsMap Try.prog 3 RW b k D ∧ MapIs ws so k D ∧ Below w.heap.size w wr
def LastsP (d : Dk) (so : Nat → Bool) (w : World) (e : Ending) (w' : World) : Prop :=
  ∃ (b : Nat) (D : DataW WH), e = .returned (.map (some b)) ∧ w'.ownsMap Try.prog 3 RW b d.nW D ∧ MapIs d.ws so d.nW D ∧ w.heap.size ≤ b ∧ Below w.heap.size w w'
set_option maxHeartbeats 1000000 in
theorem d_lasts (d : Dk) (w : World) (hd : d.ok w) (hW6 : (d.nW : Int) ≤ 1000000) (so : Nat → Bool) (g : Nat) (lb : Array Value) (eg : ∀ args w, (callFunc g args).run Try.prog w = .ok (.enter g args) w)
    (hso : Tells g lb so d.nW w) : Calls Try.prog 61 #[d.v, .func (.func g) #[] lb] w (LastsP d so w) := by
  have HD := Lib.hid hd
  have hlw := hd.lw
  have HSO := Lib.hid hso
  clear hd hso
  obtain ⟨A, nB, cB, bs, W, nW, cW, ws⟩ := d
  simp only [Dk.v] at *
  have hx0 := DkBox.new w (.slice A nB cB) (.slice W nW cW)
  obtain ⟨c0, c1⟩ := hx0.cells
  have hmm := @run_makeMap Try.prog
  go_enter Try.func61, Try.ntmps61
  clear hx0
  go_wp2
  have hb1 := (below_new' w (.cells #[.slice A nB cB, .slice W nW cW] 25)).alloc (by simp) (.map #[] 0)
  have hm1 := World.ownsMap_made (w.alloc (.cells #[.slice A nB cB, .slice W nW cW] 25)) Try.prog 3 RW
  have HB1 := Lib.hid hb1
  have HM1 := Lib.hid hm1
  clear hb1 hm1 c0 c1 hmm
  go_loopw [12] (fun x wr => LsR ws so (w.heap.size + 1) nW w x wr) (fun x _ => nW - (intOf x).toNat)
  case atStart => exact ⟨0, .map [], Nat.zero_le _, rfl, by have := HM1.out; simpa using this, MapIs.start _ _, HB1.out⟩
  case round =>
    obtain ⟨k, D, hk, rfl, hown, hmi, hb⟩ := hrel
    by_cases hlt : k < nW
    · obtain ⟨b, off, rfl, hbb, c2, c3⟩ := (HD.out.rw_.below hb).at2 hlt hlw
      have hkl : k < ws.length := by omega
      have hi64 := (HD.out.sw _ (List.getElem_mem hkl)).2
      have hput := fun h => hmi.put hkl (so := so) h hi64
      have hskip := fun h => hmi.skip (so := so) h
      have HPUT := Lib.hid hput
      have HSKIP := Lib.hid hskip
      have HOWN := Lib.hid hown
      have HB := Lib.hid hb
      have HKEY := Lib.hid (keyOf64 hi64)
      have HV := Lib.hid (RW_v ws[k])
      have h0 : ¬ ((k : Int) < 0) := by omega
      have h1 : (k : Int) < (nW : Int) := by omega
      clear hput hskip hown hb hmi hi64
      generalize ws[k] = p at *
      have hwx := WtBox.new wr (.int .i64 p.a) (.slice p.s.A p.s.n p.s.c)
      obtain ⟨x0, x1⟩ := hwx.cells
      have hbn := below_alloc HB.out (.cells #[.int .i64 p.a, .slice p.s.A p.s.n p.s.c] 54) HB.out.size
      have HBN := Lib.hid hbn
      have hcall := HSO.out (wr.alloc (.cells #[.int .i64 p.a, .slice p.s.A p.s.n p.s.c] 54)) k h1 hbn
      have hon := HOWN.out.alloc (.cells #[.int .i64 p.a, .slice p.s.A p.s.n p.s.c] 54)
      have HON := Lib.hid hon
      clear hwx hbn hon
      cases hq : so k with
      | true =>
        rw [hq] at hcall
        have HQ := Lib.hid hq
        clear hq
        go_wp2_with (first
          | (go_at_fn g; refine hcall.mono ?_; rintro e w3 ⟨rfl, rfl⟩)
          | (at_mapUpdate; go_loud (refine wpList_mapUpdate_own _ rfl _ _ _ 78 rfl 3 54 keyI Try.underlying78 RW (w.heap.size + 1) k _ rfl HON.out (by unfold maxLen; omega) _ _ _ rfl rfl HKEY.out _ [] HV.out ?_; intro w4 hown4 hgrow4)))
        have HB4 := Lib.hid (HBN.out.grown hgrow4 HBN.out.size (by intro q hq; cases hq; omega))
        go_roundw
        case rel => exact ⟨k + 1, _, by omega, by simp, hown4, HPUT.out HQ.out, HB4.out⟩
        case measure => simp [intOf]; omega
      | false =>
        rw [hq] at hcall
        have HQ := Lib.hid hq
        clear hq
        go_wp2_with (go_at_fn g; refine hcall.mono ?_; rintro e w3 ⟨rfl, rfl⟩)
        go_roundw
        case rel => exact ⟨k + 1, _, by omega, by simp, HON.out.mono (Nat.le_succ _), HSKIP.out HQ.out, HBN.out⟩
        case measure => simp [intOf]; omega
    · obtain rfl : nW = k := by omega
      go_wp2
      go_ret
      exact ⟨_, D, rfl, hown, hmi, by omega, hb⟩
end Go.Proofs.Ytkaklppkmokffaa
