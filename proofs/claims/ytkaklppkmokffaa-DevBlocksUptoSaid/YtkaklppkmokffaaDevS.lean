/-
  Contracts of slices.EqualFunc of writes, slices.CompareFunc of blocks, dev.Same.
-/
import Derived.Test.YtkaklppkmokffaaDevO
namespace Go.Proofs.Ytkaklppkmokffaa
open Go.RowKit
set_option linter.unusedVariables false
set_option linter.unusedSimpArgs false
set_option maxRecDepth 100000

theorem e_same1 : ∀ args w, (callFunc 53 args).run Try.prog w = .ok (.enter 53 args) w := enters_of Try.func53 (by kernel_rfl) rfl
theorem e_same2 : ∀ args w, (callFunc 56 args).run Try.prog w = .ok (.enter 56 args) w := enters_of Try.func56 (by kernel_rfl) rfl
/-- A box of one function. -/
def FnBox (w : World) (g : Nat) (X : Value) : Prop := w.heap[g]? = some (.cells #[X] 71 (0, 0))
theorem FnBox.cell {w : World} {g : Nat} {X : Value} (h : FnBox w g X) : w.cell? ⟨g, 0, none⟩ = some X := by
  unfold FnBox at h
  rw [cell_of_row _ _ 0 _ _ _ h]
  rfl
theorem FnBox.lt {w : World} {g : Nat} {X : Value} (h : FnBox w g X) : g < w.heap.size := (Array.getElem?_eq_some_iff.1 h).1
theorem FnBox.below {w w' : World} {g H : Nat} {X : Value} (h : FnBox w g X) (hb : Below H w w') (hg : g < H) : FnBox w' g X := (hb.block g hg).trans h
def wtS (x y : Wt) : Bool := decide (x.a = y.a) && decide (Lib.compareBytes x.s.l y.s.l = 0)
theorem wtS_iff (x y : Wt) : wtS x y = true ↔ x.c = y.c := by
  unfold wtS
  rw [Bool.and_eq_true, decide_eq_true_eq, decide_eq_true_eq, cmp_zero]
  simp [Wt.c]
set_option maxHeartbeats 1000000 in
theorem d_same2 (G : Nat) (x y : Wt) (w : World) (hG : FnBox w G (.func (.func 53) #[] #[])) (hx : x.s.came w) (hy : y.s.came w) (v : Bool) (hv : v = wtS x y) :
    Calls Try.prog 56 #[.agg #[.int .i64 x.a, .slice x.s.A x.s.n x.s.c], .agg #[.int .i64 y.a, .slice y.s.A y.s.n y.s.c], .pointer (some ⟨G, 0, none⟩)] w fun e w' => e = .returned (.bool v) ∧ Below w.heap.size w w' := by
  obtain ⟨w2, hw2⟩ : ∃ V, V = (w.alloc (.cells #[.int .i64 x.a, .slice x.s.A x.s.n x.s.c] 54)).alloc (.cells #[.int .i64 y.a, .slice y.s.A y.s.n y.s.c] 54) := ⟨_, rfl⟩
  have hb : Below w.heap.size w w2 := by rw [hw2]; exact (below_new' w _).alloc (by simp) _
  have hx1 : WtBox w2 w.heap.size (.int .i64 x.a) (.slice x.s.A x.s.n x.s.c) := by rw [hw2]; exact (WtBox.new w _ _).alloc _
  have hx2 : WtBox w2 (w.heap.size + 1) (.int .i64 y.a) (.slice y.s.A y.s.n y.s.c) := by
    rw [hw2]
    have := WtBox.new (w.alloc (.cells #[.int .i64 x.a, .slice x.s.A x.s.n x.s.c] 54)) (.int .i64 y.a) (.slice y.s.A y.s.n y.s.c)
    rw [World.size_alloc] at this
    exact this
  have hc := d_same1 x.s y.s w2 (hx.below hb) (hy.below hb)
  have hg := hG.cell
  clear hx1 hx2
  have hv2 : v = if x.a = y.a then decide (Lib.compareBytes x.s.l y.s.l = 0) else false := by
    rw [hv, wtS]
    by_cases h : x.a = y.a <;> simp [h]
  have HB := Lib.hid hb
  have HC := Lib.hid hc
  have HV := Lib.hid hv2
  have hgG : G < w.heap.size := hG.lt
  subst hw2
  clear hb hc hv hv2 hG hx hy
  generalize Lib.compareBytes x.s.l y.s.l = r at *
  by_cases ha : x.a = y.a
  · have ha2 : (x.a == y.a) = true := by simp [ha]
    have hvr : v = decide (r = 0) := by have := HV.out; rw [if_pos ha] at this; exact this
    have HA := Lib.hid ha
    clear HV ha
    go_enter Try.func56, Try.ntmps56
    go_wp2_with fail
    refine HC.out.mono ?_
    rintro e w3 ⟨rfl, rfl⟩
    have hr2 : (r == 0) = v := by
      rw [hvr, Bool.eq_iff_iff]
      simp
    have HR := Lib.hid hr2
    clear hvr hr2
    go_wp2
    rw [HR.out]
    go_ret
    exact ⟨rfl, HB.out⟩
  · have ha2 : (x.a == y.a) = false := by simp [ha]
    have hvr : v = false := by have := HV.out; rw [if_neg ha] at this; exact this
    subst hvr
    clear HV ha
    go_enter Try.func56, Try.ntmps56
    go_wp2
    go_ret
    exact ⟨rfl, HB.out⟩

/-! ### slices.EqualFunc, slices.CompareFunc -/
def allS (a b : List Wt) (k : Nat) : Bool := (List.range k).all fun i => wtS (a.getD i ⟨0, ⟨none, 0, 0, []⟩⟩) (b.getD i ⟨0, ⟨none, 0, 0, []⟩⟩)
theorem take_eq {α β : Type} (f : α → β) {a b : List α} {k : Nat} (h : ∀ i (h1 : i < a.length) (h2 : i < b.length), i < k → f a[i] = f b[i]) (hl : a.length = b.length) (hk : a.length ≤ k) : a.map f = b.map f := by
  apply List.ext_getElem
  · simp [hl]
  · intro i h1 h2
    simp only [List.getElem_map]
    exact h i (by simpa using h1) (by simpa using h2) (by simp at h1; omega)
def EfR (a b : List Wt) (w : World) (n : Nat) (x : Value) (wr : World) : Prop :=
  ∃ k : Nat, k ≤ n ∧ x = .int .i64 (k : Int) ∧ (∀ i (h1 : i < a.length) (h2 : i < b.length), i < k → (a[i]).c = (b[i]).c) ∧ Below w.heap.size w wr
set_option maxHeartbeats 1000000 in
theorem s_equalFunc (A A' : Option Addr) (n c n' c' : Nat) (a b : List Wt) (w : World) (hl : a.length = n) (hl' : b.length = n') (hr : Rd w w.heap.size 2 A n (wcs a)) (hr' : Rd w w.heap.size 2 A' n' (wcs b)) (ha : ∀ x ∈ a, x.s.came w) (hb : ∀ x ∈ b, x.s.came w)
    (hn : (n : Int) ≤ 1000000) (hn' : (n' : Int) ≤ 1000000) (G : Nat) (hG : FnBox w G (.func (.func 53) #[] #[])) (v : Bool) (hv : v = decide (a.map Wt.c = b.map Wt.c)) :
    Calls Try.prog 55 #[.slice A n c, .slice A' n' c', .func (.func 56) #[] #[.pointer (some ⟨G, 0, none⟩)]] w fun e w' => e = .returned (.bool v) ∧ Below w.heap.size w w' := by
  have HR := Lib.hid hr
  have HR' := Lib.hid hr'
  have HA := Lib.hid ha
  have HB := Lib.hid hb
  have HG := Lib.hid hG
  have HV := Lib.hid hv
  have eg := e_same2
  clear hr hr' ha hb hG hv
  by_cases hnn : n = n'
  · subst hnn
    have h2 : ((n : Int) != (n : Int)) = false := by simp
    go_enter Try.func55, Try.ntmps55
    go_wp2
    go_loopw [17] (fun x wr => EfR a b w n x wr) (fun x _ => n - (intOf x).toNat)
    case atStart => exact ⟨0, Nat.zero_le _, rfl, fun i _ _ h => absurd h (Nat.not_lt_zero _), Below.refl _ _⟩
    case round =>
      obtain ⟨k, hk, rfl, heq, hbl⟩ := hrel
      have HBL := Lib.hid hbl
      have HEQ := Lib.hid heq
      clear hbl heq
      by_cases hlt : k < n
      · obtain ⟨b1, off1, rfl, hbb1, p0, p1⟩ := (HR.out.below HBL.out).at2 hlt hl
        obtain ⟨b2, off2, rfl, hbb2, q0, q1⟩ := (HR'.out.below HBL.out).at2 hlt hl'
        have hx := (HA.out _ (List.getElem_mem (show k < a.length by omega))).below HBL.out
        have hy := (HB.out _ (List.getElem_mem (show k < b.length by omega))).below HBL.out
        have hw1 : b1 < wr.heap.size := Nat.lt_of_lt_of_le hbb1 HBL.out.size
        have hw2 : b2 < wr.heap.size := Nat.lt_of_lt_of_le hbb2 HBL.out.size
        have hbn : Below wr.heap.size wr ((wr.alloc (.cells #[.int .i64 (a[k]).a, .slice (a[k]).s.A (a[k]).s.n (a[k]).s.c] 54)).alloc (.cells #[.int .i64 (b[k]).a, .slice (b[k]).s.A (b[k]).s.n (b[k]).s.c] 54)) := (below_new' wr _).alloc (by simp) _
        obtain ⟨r, hr⟩ : ∃ r, r = wtS a[k] b[k] := ⟨_, rfl⟩
        have hc := d_same2 G a[k] b[k] _ ((HG.out.below HBL.out HG.out.lt).below hbn (Nat.lt_of_lt_of_le HG.out.lt HBL.out.size)) (hx.below hbn) (hy.below hbn) r hr
        have hstep : r = true → ∀ i (h1 : i < a.length) (h2 : i < b.length), i < k + 1 → (a[i]).c = (b[i]).c := by
          intro h i h1 h2 hi
          by_cases e : i < k
          · exact HEQ.out i h1 h2 e
          · obtain rfl : i = k := by omega
            exact (wtS_iff _ _).1 (by rw [← hr]; exact h)
        have hend : r = false → v = false := by
          intro h
          rw [HV.out, decide_eq_false_iff_not]
          intro e
          have h3 : (a.map Wt.c)[k]? = (b.map Wt.c)[k]? := by rw [e]
          rw [List.getElem?_map, List.getElem?_map, List.getElem?_eq_getElem (show k < a.length by omega), List.getElem?_eq_getElem (show k < b.length by omega)] at h3
          have h4 := (wtS_iff a[k] b[k]).2 (Option.some.inj h3)
          rw [← hr, h] at h4
          cases h4
        have HC := Lib.hid hc
        have HS := Lib.hid hstep
        have HE := Lib.hid hend
        have HBN := Lib.hid (below_to HBL.out hbn HBL.out.size)
        have h0 : ¬ ((k : Int) < 0) := by omega
        have h1 : (k : Int) < (n : Int) := by omega
        clear hx hy hbn hc hstep hend hr
        generalize a[k] = x at *
        generalize b[k] = y at *
        cases r with
        | true =>
          go_wp2_with (go_at_fn 56; refine HC.out.mono ?_; rintro e w3 ⟨rfl, hb3⟩)
          have HB3 := Lib.hid (below_to HBN.out hb3 HBN.out.size)
          go_roundw
          case rel => exact ⟨k + 1, by omega, by simp, HS.out (by trivial), HB3.out⟩
          case measure => simp [intOf]; omega
        | false =>
          obtain rfl := HE.out rfl
          go_wp2_with (go_at_fn 56; refine HC.out.mono ?_; rintro e w3 ⟨rfl, hb3⟩)
          have HB3 := Lib.hid (below_to HBN.out hb3 HBN.out.size)
          go_ret
          exact ⟨rfl, HB3.out⟩
      · obtain rfl : n = k := by omega
        have hvt : v = true := by
          rw [HV.out, decide_eq_true_eq]
          exact take_eq Wt.c HEQ.out (by omega) (by omega)
        subst hvt
        go_wp2
        go_ret
        exact ⟨rfl, HBL.out⟩
  · have h2 : ((n : Int) != (n' : Int)) = true := by simp; omega
    have hvf : v = false := by
      rw [HV.out, decide_eq_false_iff_not]
      intro e
      have := congrArg List.length e
      simp at this
      omega
    subst hvf
    have HN := Lib.hid hnn
    clear hnn
    go_enter Try.func55, Try.ntmps55
    go_wp2
    go_ret
    exact ⟨rfl, Below.refl _ _⟩
def CfR (a b : List Sl) (w : World) (n : Nat) (x : Value) (wr : World) : Prop :=
  ∃ k : Nat, k ≤ n ∧ x = .int .i64 (k : Int) ∧ (∀ i, i < k → ∃ (h1 : i < a.length) (h2 : i < b.length), (a[i]).l = (b[i]).l) ∧ w = wr
set_option maxHeartbeats 1000000 in
theorem s_compareFunc (A A' : Option Addr) (n c n' c' : Nat) (a b : List Sl) (w : World) (hl : a.length = n) (hl' : b.length = n') (hr : Rd w w.heap.size 1 A n (a.map Sl.v)) (hr' : Rd w w.heap.size 1 A' n' (b.map Sl.v)) (ha : ∀ x ∈ a, x.came w) (hb : ∀ x ∈ b, x.came w)
    (hn : (n : Int) ≤ 1000000) (hn' : (n' : Int) ≤ 1000000) :
    Calls Try.prog 57 #[.slice A n c, .slice A' n' c', .func (.func 53) #[] #[]] w fun e w' => ∃ r : Int, e = .returned (.int .i64 r) ∧ (r = 0 ↔ a.map Sl.l = b.map Sl.l) ∧ w = w' := by
  have HR := Lib.hid hr
  have HR' := Lib.hid hr'
  have HA := Lib.hid ha
  have HB := Lib.hid hb
  have eg := e_same1
  clear hr hr' ha hb
  go_enter Try.func57, Try.ntmps57
  go_wp2
  go_loopw [13] (fun x wr => CfR a b w n x wr) (fun x _ => n - (intOf x).toNat)
  case atStart => exact ⟨0, Nat.zero_le _, rfl, fun i h => absurd h (Nat.not_lt_zero _), rfl⟩
  case round =>
    obtain ⟨k, hk, rfl, heq, rfl⟩ := hrel
    have HEQ := Lib.hid heq
    clear heq
    by_cases hlt : k < n
    · obtain ⟨b1, off1, rfl, hbb1, p0⟩ := HR.out.atS hlt hl
      by_cases hlt' : k < n'
      · obtain ⟨b2, off2, rfl, hbb2, q0⟩ := HR'.out.atS hlt' hl'
        have hx := HA.out _ (List.getElem_mem (show k < a.length by omega))
        have hy := HB.out _ (List.getElem_mem (show k < b.length by omega))
        obtain ⟨r, hr⟩ : ∃ r, r = Lib.compareBytes (a[k]).l (b[k]).l := ⟨_, rfl⟩
        have hc := d_same1 a[k] b[k] w hx hy
        rw [← hr] at hc
        have hz := cmp_zero (a[k]).l (b[k]).l
        rw [← hr] at hz
        have hstep : r = 0 → ∀ i, i < k + 1 → ∃ (h1 : i < a.length) (h2 : i < b.length), (a[i]).l = (b[i]).l := by
          intro h i hi
          by_cases e : i < k
          · exact HEQ.out i e
          · obtain rfl : i = k := by omega
            exact ⟨by omega, by omega, hz.1 h⟩
        have hend : ¬ r = 0 → ¬ a.map Sl.l = b.map Sl.l := by
          intro h e
          have h3 : (a.map Sl.l)[k]? = (b.map Sl.l)[k]? := by rw [e]
          rw [List.getElem?_map, List.getElem?_map, List.getElem?_eq_getElem (show k < a.length by omega), List.getElem?_eq_getElem (show k < b.length by omega)] at h3
          exact h (hz.2 (Option.some.inj h3))
        have HC := Lib.hid hc
        have HS := Lib.hid hstep
        have HE := Lib.hid hend
        have h0 : ¬ ((k : Int) < 0) := by omega
        have h1 : (k : Int) < (n : Int) := by omega
        have h2 : (k : Int) < (n' : Int) := by omega
        have h3 : ¬ ((n' : Int) ≤ (k : Int)) := by omega
        clear hx hy hc hstep hend hr hz
        generalize a[k] = x at *
        generalize b[k] = y at *
        by_cases hr0 : r = 0
        · subst hr0
          go_wp2_with (go_at_fn 53; refine HC.out.mono ?_; rintro e w3 ⟨rfl, rfl⟩)
          go_roundw
          case rel => exact ⟨k + 1, by omega, by simp, HS.out (by trivial), rfl⟩
          case measure => simp [intOf]; omega
        · have hr1 : (r == 0) = false := by simp [hr0]
          have hr2 : (r != 0) = true := by simp [hr0]
          have HE2 := Lib.hid (HE.out hr0)
          have HR0 := Lib.hid hr0
          clear hr0 HE
          go_wp2_with (go_at_fn 53; refine HC.out.mono ?_; rintro e w3 ⟨rfl, rfl⟩)
          go_ret
          exact ⟨r, rfl, ⟨fun h => absurd h HR0.out, fun h => absurd h HE2.out⟩, rfl⟩
      · have hne : ¬ a.map Sl.l = b.map Sl.l := by
          intro e
          have := congrArg List.length e
          simp at this
          omega
        have HNE := Lib.hid hne
        have h0 : ¬ ((k : Int) < 0) := by omega
        have h1 : (k : Int) < (n : Int) := by omega
        have h3 : (n' : Int) ≤ (k : Int) := by omega
        clear hne
        generalize a[k] = x at *
        go_wp2
        go_ret
        exact ⟨1, rfl, ⟨fun h => absurd h (by decide), fun h => absurd h HNE.out⟩, rfl⟩
    · obtain rfl : n = k := by omega
      by_cases hnn : n < n'
      · have hne : ¬ a.map Sl.l = b.map Sl.l := by
          intro e
          have := congrArg List.length e
          simp at this
          omega
        have HNE := Lib.hid hne
        have h3 : (n : Int) < (n' : Int) := by omega
        clear hne
        go_wp2
        go_ret
        exact ⟨-1, rfl, ⟨fun h => absurd h (by decide), fun h => absurd h HNE.out⟩, rfl⟩
      · have hnl : n ≤ n' ∧ n' ≤ n := by
          refine ⟨?_, by omega⟩
          rcases Nat.eq_zero_or_pos n with h | h
          · omega
          · obtain ⟨_, h2, _⟩ := HEQ.out (n - 1) (by omega)
            omega
        have heq : a.map Sl.l = b.map Sl.l := take_eq Sl.l (k := n) (fun i h1 h2 hi => by
          obtain ⟨_, _, h⟩ := HEQ.out i hi
          exact h) (by omega) (by omega)
        have HE := Lib.hid heq
        have h3 : ¬ ((n : Int) < (n' : Int)) := by omega
        have h4 : decide ((n : Int) < (n' : Int)) = false := by simp; omega
        clear heq
        go_wp2
        go_ret
        exact ⟨0, rfl, ⟨fun _ => HE.out, fun _ => rfl⟩, rfl⟩

/-! ### Same -/
theorem run_store_new1 {P : Program} (w : World) (u v : Value) (t : TypeId) (h1 : v.oneCell' = true) : (store ⟨w.heap.size, 0, none⟩ v).run P (w.alloc (.cells #[u] t)) = .ok () (w.alloc (.cells #[v] t)) := by
  have hh := heap_alloc_new w (.cells #[u] t)
  have hf : (w.alloc (.cells #[u] t)).frozen? ⟨w.heap.size, 0, none⟩ = false := by
    unfold World.frozen?
    simp only [hh]
    rfl
  rw [run_store _ _ _ _ _ h1, cell_of_row _ _ 0 _ _ _ hh, setCell_eq_setRow _ _ _ _ _ _ _ hh, World.setRow_alloc_new]
  simp [hf]
instance : DecidableEq Ct := fun a b => decidable_of_iff (a.b = b.b ∧ a.w = b.w) (by cases a; cases b; simp)
theorem c_eq (d o : Dk) : d.c = o.c ↔ d.ws.map Wt.c = o.ws.map Wt.c ∧ d.bs.map Sl.l = o.bs.map Sl.l := by
  unfold Dk.c
  constructor
  · intro h
    injection h with h1 h2
    exact ⟨h2, h1⟩
  · rintro ⟨h1, h2⟩
    rw [h1, h2]
set_option maxHeartbeats 1000000 in
theorem d_same (d o : Dk) (w : World) (hd : d.ok w) (ho : o.ok w) (hB6 : (d.nB : Int) ≤ 1000000) (hW6 : (d.nW : Int) ≤ 1000000) (hB7 : (o.nB : Int) ≤ 1000000) (hW7 : (o.nW : Int) ≤ 1000000) (v : Bool) (hv : v = decide (d.c = o.c)) :
    Calls Try.prog 29 #[d.v, o.v] w fun e w' => e = .returned (.bool v) ∧ Below w.heap.size w w' := by
  obtain ⟨w2, hw2⟩ : ∃ V, V = (w.alloc (.cells #[.slice d.A d.nB d.cB, .slice d.W d.nW d.cW] 25)).alloc (.cells #[.slice o.A o.nB o.cB, .slice o.W o.nW o.cW] 25) := ⟨_, rfl⟩
  obtain ⟨w3, hw3⟩ : ∃ V, V = w2.alloc (.cells #[.func (.func 53) #[] #[]] 71) := ⟨_, rfl⟩
  have z2 : w2.heap.size = w.heap.size + 2 := by rw [hw2]; simp
  have hb2 : Below w.heap.size w w2 := by rw [hw2]; exact (below_new' w _).alloc (by simp) _
  have hb3 : Below w.heap.size w w3 := by rw [hw3]; exact hb2.alloc (by omega) _
  have hx : DkBox w3 w.heap.size (.slice d.A d.nB d.cB) (.slice d.W d.nW d.cW) := by rw [hw3, hw2]; exact ((DkBox.new w _ _).alloc _).alloc _
  have hy : DkBox w3 (w.heap.size + 1) (.slice o.A o.nB o.cB) (.slice o.W o.nW o.cW) := by
    rw [hw3, hw2]
    have := DkBox.new (w.alloc (.cells #[.slice d.A d.nB d.cB, .slice d.W d.nW d.cW] 25)) (.slice o.A o.nB o.cB) (.slice o.W o.nW o.cW)
    rw [World.size_alloc] at this
    exact this.alloc _
  have hf : FnBox w3 (w.heap.size + 2) (.func (.func 53) #[] #[]) := by
    rw [hw3, ← z2]
    exact heap_alloc_new _ _
  obtain ⟨v1, hv1⟩ : ∃ q, q = decide (d.ws.map Wt.c = o.ws.map Wt.c) := ⟨_, rfl⟩
  have hd3 := hd.below hb3
  have ho3 := ho.below hb3
  have hc1 := s_equalFunc d.W o.W d.nW d.cW o.nW o.cW d.ws o.ws w3 hd.lw ho.lw hd3.rw_ ho3.rw_ (fun x hx => (hd3.sw x hx).1) (fun x hx => (ho3.sw x hx).1) hW6 hW7 (w.heap.size + 2) hf v1 hv1
  have hc2 := fun W (hW : Below w3.heap.size w3 W) => s_compareFunc d.A o.A d.nB d.cB o.nB o.cB d.bs o.bs W hd.lb ho.lb (hd3.below hW).rb (ho3.below hW).rb (hd3.below hW).sb (ho3.below hW).sb hB6 hB7
  have hv2 : v = (v1 && decide (d.bs.map Sl.l = o.bs.map Sl.l)) := by
    rw [hv, hv1, ← Bool.decide_and]
    exact decide_eq_decide.2 (c_eq d o)
  have HC1 := Lib.hid hc1
  have HC2 := Lib.hid hc2
  have HB3 := Lib.hid hb3
  have HX := Lib.hid hx
  have HY := Lib.hid hy
  have HF := Lib.hid hf
  have HV := Lib.hid hv2
  have hst : (store ⟨w.heap.size + 1 + 1, 0, none⟩ (.func (.func 53) #[] #[])).run Try.prog (w2.alloc (.cells #[.nilFunc] 71)) = .ok () w3 := by
    rw [hw3, show w.heap.size + 1 + 1 = w2.heap.size by omega]
    exact run_store_new1 w2 _ _ _ rfl
  rw [hw2] at hst
  clear hw2 hw3 z2 hb2 hb3 hx hy hf hv1 hd3 ho3 hc1 hc2 hv2 hv hd ho
  simp only [Dk.v] at *
  obtain ⟨a0, a1⟩ := HX.out.cells
  obtain ⟨b0, b1⟩ := HY.out.cells
  go_enter Try.func29, Try.ntmps29
  go_wp2_with fail
  refine HC1.out.mono ?_
  rintro e w4 ⟨rfl, hb4⟩
  have hX := HX.out.below hb4 HX.out.lt
  have hY := HY.out.below hb4 HY.out.lt
  have hF := (HF.out.below hb4 HF.out.lt).cell
  have hc2 := HC2.out w4 hb4
  have HB4 := Lib.hid (below_to HB3.out hb4 HB3.out.size)
  have HCC := Lib.hid hc2
  clear a0 a1 b0 b1 hst hb4 hc2 HC1 HC2
  obtain ⟨a0, a1⟩ := hX.cells
  obtain ⟨b0, b1⟩ := hY.cells
  clear hX hY
  cases v1 with
  | true =>
    have hv := HV.out
    rw [Bool.true_and] at hv
    have HV2 := Lib.hid hv
    clear hv HV
    go_wp2_with fail
    refine HCC.out.mono ?_
    rintro e w5 ⟨r, rfl, hr, rfl⟩
    have hv : (r == 0) = v := by
      rw [HV2.out, Bool.eq_iff_iff]
      simp [hr]
    have HR := Lib.hid hv
    clear hv hr
    go_wp2
    rw [HR.out]
    go_ret
    exact ⟨rfl, HB4.out⟩
  | false =>
    have hv := HV.out
    rw [Bool.false_and] at hv
    subst hv
    go_wp2
    go_ret
    exact ⟨rfl, HB4.out⟩
end Go.Proofs.Ytkaklppkmokffaa
