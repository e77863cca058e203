/-
  Contract of charterhouseref09.Twin.
-/
import Derived.Test.YtkaklppkmokffaaRf9c
import Derived.Test.YtkaklppkmokffaaLaw09b
import Derived.Deep.CutRange
namespace Go.Proofs.Ytkaklppkmokffaa
open Go.RowKit
set_option linter.unusedVariables false
set_option linter.unusedSimpArgs false
set_option maxRecDepth 100000

theorem stp_new {P : Program} {ops : Array Oper} {o : Oper} {a : Act} {w : World} {K : Act → World → Prop} {Q : Exit → Act → World → Prop} {E : Prop} (hgd : o.guard = none) (v : Nat → Value) (ob : Obj) (hr : (execOp a.eval o).run P w = .ok (.value (v w.heap.size)) (w.alloc ob))
    (hK : ∀ g w', Hid (w.heap.size = g ∧ g < w'.heap.size ∧ w'.heap[g]? = some ob) → Hid (Below w.heap.size w w') → K (a.put o.dst (v g)) w') : Stp P ops o a w K Q E :=
  stp_run hgd hr (hK _ _ (Lib.hid ⟨rfl, by simp, heap_alloc_new w ob⟩) (Lib.hid (below_new' w ob)))
theorem Fr.ofHeap {w : World} {base sz n g : Nat} {e : TypeId} {xs : List Value} (h : w.heap[g]? = some (.cells xs.toArray e)) (hb : base ≤ g) (hm : n ≤ maxLen) (hx : xs.length = n * sz) : Fr w base e sz (some ⟨g, 0, none⟩) n n xs :=
  ⟨hx, Nat.le_refl _, hm, .inr ⟨g, xs.toArray, (0, 0), rfl, hb, h, by simp, by simpa using hx, by rw [List.take_of_length_le (by simp [hx])]⟩⟩
/-! ### tables of writes -/
def nilW : Wt := ⟨0, nilS⟩
theorem nilW_cs (n : Nat) : ∀ j, j < n * 2 → (wcs (List.replicate n nilW))[j]? = some (if j % 2 = 0 then .int .i64 0 else .slice none 0 0) := by
  intro j hj
  have hk : j / 2 < (List.replicate n nilW).length := by rw [List.length_replicate]; omega
  obtain ⟨h1, h2⟩ := wcs_get hk
  rw [List.getElem_replicate] at h1 h2
  rcases Nat.mod_two_eq_zero_or_one j with h | h
  · rw [if_pos h, show j = j / 2 * 2 by omega]
    exact h1
  · rw [if_neg (by omega), show j = j / 2 * 2 + 1 by omega]
    exact h2
theorem run_mkWs (kl kc : IntKind) (n : Nat) (hn : n ≤ 1000000) (w : World) :
    (Instr.makeSlice 23 (.int kl (n : Int)) (.int kc (n : Int))).run Try.prog w = .ok (.slice (some ⟨w.heap.size, 0, none⟩) n n) (w.alloc (.cells (wcs (List.replicate n nilW)).toArray 54)) := by
  obtain ⟨ht, _, _, i, hi, hz, hs, hb⟩ := okW
  have h := run_make (P := Try.prog) w 23 54 i _ ht hi hz kl kc n n (by omega) (by omega) (by rw [hb]; omega) (by omega)
  rw [h]
  simp only [Int.toNat_natCast, hs]
  congr 3
  apply Array.ext
  · simp only [madeCells, List.size_toArray, wcs_len, List.length_replicate]
    simp
  · intro j h1 h2
    simp only [List.size_toArray, wcs_len, List.length_replicate] at h2
    have e := nilW_cs n j h2
    have e3 := List.getElem?_eq_getElem (l := wcs (List.replicate n nilW)) (i := j) (by rw [wcs_len, List.length_replicate]; exact h2)
    rw [e] at e3
    simp only [madeCells, Value.cells]
    simp
    rw [← Option.some.inj e3]
    rcases Nat.mod_two_eq_zero_or_one j with h | h <;> simp [h]
theorem wcs_set0 : ∀ (us : List Wt) (k : Nat) (a : Int) (h : k < us.length), (wcs us).set (k * 2) (.int .i64 a) = wcs (us.set k ⟨a, (us[k]).s⟩)
  | x :: us, 0, a, h => by simp [wcs]
  | x :: us, k + 1, a, h => by
    have := wcs_set0 us k a (by simpa using h)
    rw [show (k + 1) * 2 = k * 2 + 2 by omega]
    simpa [wcs] using this
theorem wcs_set1 : ∀ (us : List Wt) (k : Nat) (s : Sl) (h : k < us.length), (wcs us).set (k * 2 + 1) s.v = wcs (us.set k ⟨(us[k]).a, s⟩)
  | x :: us, 0, s, h => by simp [wcs]
  | x :: us, k + 1, s, h => by
    have := wcs_set1 us k s (by simpa using h)
    rw [show (k + 1) * 2 + 1 = (k * 2 + 1) + 2 by omega]
    simpa [wcs] using this
structure Wk (n k : Nat) (want : Nat → Int × List UInt8) (us : List Wt) (base : Nat) (w : World) : Prop where
  len : us.length = n
  own : ∀ x ∈ us, x.s.came w ∧ Own w base x.s ∧ I64 x.a
  done : ∀ i, i < k → (us[i]?).map Wt.c = some (want i)
  rest : ∀ i, k ≤ i → i < n → us[i]? = some nilW
theorem Wk.start (n : Nat) (want : Nat → Int × List UInt8) (base : Nat) (w : World) : Wk n 0 want (List.replicate n nilW) base w :=
  ⟨List.length_replicate, fun s hs => by rw [List.eq_of_mem_replicate hs]; exact ⟨nilS_came w, nilS_own w base, ⟨by decide, by decide⟩⟩, fun i h => absurd h (Nat.not_lt_zero _), fun i _ h => by rw [List.getElem?_replicate, if_pos h]⟩
theorem Wk.grown {n k : Nat} {want : Nat → Int × List UInt8} {us : List Wt} {base : Nat} {w w' : World} {row : Option Nat} (h : Wk n k want us base w) (hg : w.grownBy w' row) (hr : ∀ j, row = some j → j < base ∨ ∃ cur fz e, w.heap[j]? = some (.cells cur e fz) ∧ e ≠ 5) : Wk n k want us base w' :=
  ⟨h.len, fun x hx => ⟨(own_came (h.own x hx).1 (h.own x hx).2.1 hg hr).1, (own_came (h.own x hx).1 (h.own x hx).2.1 hg hr).2, (h.own x hx).2.2⟩, h.done, h.rest⟩
theorem Wk.below {n k : Nat} {want : Nat → Int × List UInt8} {us : List Wt} {base : Nat} {w w' : World} (h : Wk n k want us base w) (hb : Below w.heap.size w w') : Wk n k want us base w' := h.grown (grown_of_below hb none) (fun j hj => by cases hj)
theorem Wk.step {n k : Nat} {want : Nat → Int × List UInt8} {us : List Wt} {base : Nat} {w : World} (h : Wk n k want us base w) (hk : k < n) {x : Wt} (hs : x.s.came w) (ho : Own w base x.s) (ha : I64 x.a) (hl : x.c = want k) : Wk n (k + 1) want (us.set k x) base w := by
  have hkl : k < us.length := by rw [h.len]; exact hk
  refine ⟨by rw [List.length_set]; exact h.len, fun t ht => ?_, fun i hi => ?_, fun i h1 h2 => ?_⟩
  · rcases List.mem_or_eq_of_mem_set ht with h1 | rfl
    · exact h.own t h1
    · exact ⟨hs, ho, ha⟩
  · rw [List.getElem?_set]
    by_cases e : k = i
    · subst e
      rw [if_pos rfl, if_pos hkl, Option.map_some, hl]
    · rw [if_neg e]
      exact h.done i (by omega)
  · rw [List.getElem?_set, if_neg (by omega)]
    exact h.rest i (by omega) h2
theorem Wk.vals {n : Nat} {want : Nat → Int × List UInt8} {us : List Wt} {base : Nat} {w : World} (h : Wk n n want us base w) : us.map Wt.c = (List.range n).map want := by
  apply List.ext_getElem?
  intro i
  rw [List.getElem?_map, List.getElem?_map]
  by_cases hi : i < n
  · rw [h.done i hi, List.getElem?_range hi]
    rfl
  · rw [List.getElem?_eq_none (by rw [h.len]; omega), List.getElem?_eq_none (by simp; omega)]
    rfl
def wantB (d : Dk) (i : Nat) : List UInt8 := (d.bs.getD i nilS).l
def wantW (d : Dk) (i : Nat) : Int × List UInt8 := (d.ws.getD i nilW).c
theorem range_getD {α β : Type} (l : List α) (z : α) (f : α → β) : (List.range l.length).map (fun i => f (l.getD i z)) = l.map f := by
  apply List.ext_getElem
  · simp
  · intro i h1 h2
    have hi : i < l.length := by simpa using h2
    simp [List.getD_eq_getElem?_getD, List.getElem?_eq_getElem hi]
/-! ### no two of the slices share a block -/
def blkA (A : Option Addr) : Option Nat := A.map Addr.block
structure Ap (ps : List Sl) (us : List Wt) : Prop where
  bb : ∀ (i j : Nat) (s t : Sl), ps[i]? = some s → ps[j]? = some t → i ≠ j → 0 < s.n → 0 < t.n → blkA s.A ≠ blkA t.A
  bw : ∀ s ∈ ps, ∀ x ∈ us, 0 < s.n → 0 < x.s.n → blkA s.A ≠ blkA x.s.A
theorem came_blk {s : Sl} {w : World} (h : s.came w) (hn : 0 < s.n) : ∃ b, blkA s.A = some b ∧ b < w.heap.size := by
  obtain ⟨b, off, e, hb, _⟩ := h.2.1.2 hn
  exact ⟨b, by rw [e]; rfl, hb⟩
theorem own_blk {s : Sl} {w : World} {base : Nat} (h : Own w base s) (hn : 0 < s.n) : ∃ b, blkA s.A = some b ∧ base ≤ b := by
  obtain ⟨g, off, cur, fz, e, hb, _⟩ := h hn
  exact ⟨g, by rw [e]; rfl, hb⟩
theorem new_blk {s t : Sl} {w V : World} (h : s.came V) (ht : Own w V.heap.size t) (h1 : 0 < s.n) (h2 : 0 < t.n) : blkA s.A ≠ blkA t.A := by
  obtain ⟨b, e, hb⟩ := came_blk h h1
  obtain ⟨g, e', hg⟩ := own_blk ht h2
  rw [e, e']
  intro q
  have := Option.some.inj q
  omega
theorem Ap.start (n m : Nat) : Ap (List.replicate n nilS) (List.replicate m nilW) :=
  ⟨fun i j s t hi _ _ hs _ => by
    have := List.eq_of_mem_replicate (List.mem_of_getElem? hi)
    subst this
    exact absurd hs (Nat.lt_irrefl _), fun s hs x hx h1 _ => by
    have := List.eq_of_mem_replicate hs
    subst this
    exact absurd h1 (Nat.lt_irrefl _)⟩
theorem Ap.stepB {ps : List Sl} {us : List Wt} (h : Ap ps us) {V w : World} (hp : ∀ s ∈ ps, s.came V) (hu : ∀ x ∈ us, x.s.came V) {t : Sl} (ht : Own w V.heap.size t) (k : Nat) : Ap (ps.set k t) us := by
  refine ⟨fun i j a b hi hj hij ha hb => ?_, fun s hs x hx h1 h2 => ?_⟩
  · rw [List.getElem?_set] at hi hj
    by_cases hk : k = i
    · rw [if_pos hk] at hi
      rw [if_neg (by omega)] at hj
      split at hi
      · cases hi
        exact (new_blk (hp b (List.mem_of_getElem? hj)) ht hb ha).symm
      · cases hi
    · rw [if_neg hk] at hi
      by_cases hk2 : k = j
      · rw [if_pos hk2] at hj
        split at hj
        · cases hj
          exact new_blk (hp a (List.mem_of_getElem? hi)) ht ha hb
        · cases hj
      · rw [if_neg hk2] at hj
        exact h.bb i j a b hi hj hij ha hb
  · rcases List.mem_or_eq_of_mem_set hs with hs | rfl
    · exact h.bw s hs x hx h1 h2
    · exact (new_blk (hu x hx) ht h2 h1).symm
theorem Ap.stepW {ps : List Sl} {us : List Wt} (h : Ap ps us) {V w : World} (hp : ∀ s ∈ ps, s.came V) {x : Wt} (ht : Own w V.heap.size x.s) (k : Nat) : Ap ps (us.set k x) := by
  refine ⟨h.bb, fun s hs y hy h1 h2 => ?_⟩
  rcases List.mem_or_eq_of_mem_set hy with hy | rfl
  · exact h.bw s hs y hy h1 h2
  · exact new_blk (hp s hs) ht h1 h2
/-! ### Twin -/
def T0R (nB nW : Nat) (X Y : Value) (w : World) (p : Value) (wc : World) : Prop :=
  ∃ G gB gW : Nat, p = .pointer (some ⟨G, 0, none⟩) ∧ DkBox wc w.heap.size X Y ∧ DkBox wc (w.heap.size + 1) (.slice none 0 0) (.slice none 0 0) ∧ DkBox wc G (.slice (some ⟨gB, 0, none⟩) nB nB) (.slice (some ⟨gW, 0, none⟩) nW nW) ∧ w.heap.size + 2 ≤ G ∧
    Fr wc (w.heap.size + 2) 41 1 (some ⟨gB, 0, none⟩) nB nB ((List.replicate nB nilS).map Sl.v) ∧ Fr wc (w.heap.size + 2) 54 2 (some ⟨gW, 0, none⟩) nW nW (wcs (List.replicate nW nilW)) ∧ Below w.heap.size w wc
/-- What holds of the boxes, the two tables and the world all along. -/
structure TwI (d : Dk) (w : World) (G gB gW : Nat) (ps : List Sl) (us : List Wt) (V : World) : Prop where
  x : DkBox V w.heap.size (.slice d.A d.nB d.cB) (.slice d.W d.nW d.cW)
  r : DkBox V (w.heap.size + 1) (.slice none 0 0) (.slice none 0 0)
  y : DkBox V G (.slice (some ⟨gB, 0, none⟩) d.nB d.nB) (.slice (some ⟨gW, 0, none⟩) d.nW d.nW)
  fb : Fr V (w.heap.size + 2) 41 1 (some ⟨gB, 0, none⟩) d.nB d.nB (ps.map Sl.v)
  fw : Fr V (w.heap.size + 2) 54 2 (some ⟨gW, 0, none⟩) d.nW d.nW (wcs us)
  b : Below w.heap.size w V
theorem TwI.below {d : Dk} {w : World} {G gB gW : Nat} {ps : List Sl} {us : List Wt} {V V' : World} (h : TwI d w G gB gW ps us V) (hb : Below V.heap.size V V') : TwI d w G gB gW ps us V' :=
  ⟨h.x.below hb h.x.lt, h.r.below hb h.r.lt, h.y.below hb h.y.lt, h.fb.below hb (Nat.le_refl _), h.fw.below hb (Nat.le_refl _), below_to h.b hb h.b.size⟩
theorem fr_row_ne {w : World} {base sz n c g : Nat} {e : TypeId} {A : Option Addr} {xs : List Value} {cur : Array Value} {e' : TypeId} {fz : Nat × Nat} (h : Fr w base e sz A n c xs) (hg : w.heap[g]? = some (.cells cur e' fz)) (hne : e ≠ e') : rowOf A c ≠ some g := by
  intro e1
  obtain ⟨cur', fz', hc⟩ := h.cells_ g e1
  rw [hg] at hc
  cases hc
  exact hne rfl
theorem dk_ne {w : World} {g G : Nat} {X Y : Value} {cur : Array Value} {e : TypeId} {fz : Nat × Nat} (h : DkBox w G X Y) (hg : w.heap[g]? = some (.cells cur e fz)) (hne : e ≠ 25) : g ≠ G := by
  rintro rfl
  unfold DkBox at h
  rw [hg] at h
  cases h
  exact hne rfl
theorem TwI.putB {d : Dk} {w : World} {G gB gW : Nat} {ps : List Sl} {us : List Wt} {V : World} (h : TwI d w G gB gW ps us V) {k : Nat} (hk : k < d.nB) (s : Sl) : TwI d w G gB gW (ps.set k s) us (V.setCell ⟨gB, k, none⟩ s.v) := by
  obtain ⟨cur, fz, hc⟩ := h.fb.cells_ gB (rowOf_some _ _ _ (by omega))
  have hge := (h.fb.row gB (rowOf_some _ _ _ (by omega))).1
  exact ⟨h.x.set ⟨gB, k, none⟩ (dk_ne h.x hc (by decide)) _, h.r.set ⟨gB, k, none⟩ (dk_ne h.r hc (by decide)) _, h.y.set ⟨gB, k, none⟩ (dk_ne h.y hc (by decide)) _, by rw [← vset]; exact h.fb.setG (by omega) k _, h.fw.setCell (fr_row_ne h.fw hc (by decide)) _, h.b.setCell (by simp; omega) _⟩
theorem TwI.putW {d : Dk} {w : World} {G gB gW : Nat} {ps : List Sl} {us : List Wt} {V : World} (h : TwI d w G gB gW ps us V) {k i : Nat} (hk : k < d.nW) (u : Value) (us' : List Wt) (he : (wcs us).set i u = wcs us') : TwI d w G gB gW ps us' (V.setCell ⟨gW, i, none⟩ u) := by
  obtain ⟨cur, fz, hc⟩ := h.fw.cells_ gW (rowOf_some _ _ _ (by omega))
  have hge := (h.fw.row gW (rowOf_some _ _ _ (by omega))).1
  exact ⟨h.x.set ⟨gW, i, none⟩ (dk_ne h.x hc (by decide)) _, h.r.set ⟨gW, i, none⟩ (dk_ne h.r hc (by decide)) _, h.y.set ⟨gW, i, none⟩ (dk_ne h.y hc (by decide)) _, h.fb.setCell (fr_row_ne h.fb hc (by decide)) _, by rw [← he]; exact h.fw.setG (by omega) i _, h.b.setCell (by simp; omega) _⟩
def T1R (d : Dk) (w : World) (G gB gW : Nat) (us : List Wt) (x : Value) (wr : World) : Prop :=
  ∃ (k : Nat) (ps : List Sl), k ≤ d.nB ∧ x = .int .i64 (k : Int) ∧ TwI d w G gB gW ps us wr ∧ Bk d.nB k (wantB d) ps (w.heap.size + 2) wr ∧ Ap ps us
def T2R (d : Dk) (w : World) (G gB gW : Nat) (ps : List Sl) (x : Value) (wr : World) : Prop :=
  ∃ (k : Nat) (us : List Wt), k ≤ d.nW ∧ x = .int .i64 (k : Int) ∧ TwI d w G gB gW ps us wr ∧ Bk d.nB d.nB (wantB d) ps (w.heap.size + 2) wr ∧ Wk d.nW k (wantW d) us (w.heap.size + 2) wr ∧ Ap ps us
/-- What the reads of a round lean on. -/
structure TwS (d : Dk) (w : World) (G gB gW : Nat) (b : Nat) (o : Nat) (u : Value) (V : World) : Prop where
  x : DkBox V w.heap.size (.slice d.A d.nB d.cB) (.slice d.W d.nW d.cW)
  y : DkBox V G (.slice (some ⟨gB, 0, none⟩) d.nB d.nB) (.slice (some ⟨gW, 0, none⟩) d.nW d.nW)
  c : V.cell? ⟨b, o, none⟩ = some u
theorem TwS.of {d : Dk} {w : World} {G gB gW : Nat} {ps : List Sl} {us : List Wt} {V : World} (h : TwI d w G gB gW ps us V) {b o : Nat} {u : Value} (hb : b < w.heap.size) (hc : w.cell? ⟨b, o, none⟩ = some u) : TwS d w G gB gW b o u V :=
  ⟨h.x, h.y, (h.b.cell (p := ⟨b, o, none⟩) hb).trans hc⟩
set_option maxHeartbeats 4000000 in
theorem r_twinA (d : Dk) (w : World) (hd : d.ok w) (hB6 : (d.nB : Int) ≤ 1000000) (hW6 : (d.nW : Int) ≤ 1000000) (hs6 : ∀ s ∈ d.bs, (s.n : Int) ≤ 1000000000) (hx6 : ∀ x ∈ d.ws, (x.s.n : Int) ≤ 1000000000) :
    Calls Try.prog 13 #[d.v] w fun e w' => ∃ d' : Dk, e = .returned (.agg #[.slice d'.A d'.nB d'.cB, .slice d'.W d'.nW d'.cW]) ∧ Nw d.c w.heap.size d' w' ∧ Below w.heap.size w w' ∧ Ap d'.bs d'.ws := by
  obtain ⟨w2, hw2⟩ : ∃ V, V = (w.alloc (.cells #[.slice d.A d.nB d.cB, .slice d.W d.nW d.cW] 25)).alloc (.cells #[.slice none 0 0, .slice none 0 0] 25) := ⟨_, rfl⟩
  have hb2 : Below w.heap.size w w2 := by rw [hw2]; exact (below_new' w _).alloc (by simp) _
  have hx2 : DkBox w2 w.heap.size (.slice d.A d.nB d.cB) (.slice d.W d.nW d.cW) := by rw [hw2]; exact (DkBox.new w _ _).alloc _
  have hz2 : w2.heap.size = w.heap.size + 2 := by rw [hw2]; simp
  have hr2 : DkBox w2 (w.heap.size + 1) (.slice none 0 0) (.slice none 0 0) := by
    rw [hw2]
    have := DkBox.new (w.alloc (.cells #[.slice d.A d.nB d.cB, .slice d.W d.nW d.cW] 25)) (.slice none 0 0) (.slice none 0 0)
    rw [World.size_alloc] at this
    exact this
  have HX := Lib.hid hx2
  have HR := Lib.hid hr2
  have HB := Lib.hid hb2
  have HZ := Lib.hid hz2
  have HW2 := Lib.hid hw2
  have HD := Lib.hid hd
  have HS6 := Lib.hid hs6
  have HX6 := Lib.hid hx6
  clear hb2 hx2 hz2 hr2 hw2 hd hs6 hx6
  simp only [Dk.v] at *
  go_enter Try.func13, Try.ntmps13
  go_wp2
  rw [← HW2.out]
  clear HW2
  go_cut [3] from 6 (fun p wc => T0R d.nB d.nW (.slice d.A d.nB d.cB) (.slice d.W d.nW d.cW) w p wc)
  case first =>
    have hwx : DkBox w2.drew w.heap.size (.slice d.A d.nB d.cB) (.slice d.W d.nW d.cW) := HX.out
    have hbd := HB.out.drew
    replace HB := Lib.hid hbd
    replace HR := Lib.hid (show DkBox w2.drew (w.heap.size + 1) (.slice none 0 0) (.slice none 0 0) from HR.out)
    have HL := Lib.hid (show w.heap.size + 2 ≤ w2.drew.heap.size from by show _ ≤ w2.heap.size; rw [HZ.out]; exact Nat.le_refl _)
    have hm1 := run_mkBs .i64 .i64 d.nB (by omega)
    have hm2 := run_mkWs .i64 .i64 d.nW (by omega)
    have HM1 := Lib.hid hm1
    have HM2 := Lib.hid hm2
    clear hbd hm1 hm2 HX HZ
    refine wp_region_held_drew (S := fun V => DkBox V w.heap.size (.slice d.A d.nB d.cB) (.slice d.W d.nW d.cW)) (by kernel_rfl) hwx (fun hS => ?_)
    refine wpAnyH_take (i := 0) (v := ?_) rfl (by kernel_rfl) (by kernel_rfl) (by kernel_rfl) (fun _ _ _ h => h) (Or.inl ⟨by rfl, ?hyq⟩) hS ?_
    case hyq =>
      intro w hw
      go_simp
      try (with_reducible rfl)
    refine wpAnyH_take (i := 1) (v := ?_) rfl (by kernel_rfl) (by kernel_rfl) (by kernel_rfl) (fun _ _ _ h => h) (Or.inl ⟨by rfl, ?hyq⟩) hS ?_
    case hyq =>
      intro w hw
      obtain ⟨k0, k1⟩ := hw.cells
      go_simp
      try (with_reducible rfl)
    refine wpAnyH_take (i := 2) (v := ?_) rfl (by kernel_rfl) (by kernel_rfl) (by kernel_rfl) (fun _ _ _ h => h) (Or.inl ⟨by rfl, ?hyq⟩) hS ?_
    case hyq =>
      intro w hw
      go_simp
      try (with_reducible rfl)
    refine wpAnyH_take (i := 4) (v := ?_) rfl (by kernel_rfl) (by kernel_rfl) (by kernel_rfl) (fun _ _ _ h => h) (Or.inl ⟨by rfl, ?hyq⟩) hS ?_
    case hyq =>
      intro w hw
      go_simp
      try (with_reducible rfl)
    refine wpAnyH_take (i := 5) (v := ?_) rfl (by kernel_rfl) (by kernel_rfl) (by kernel_rfl) (fun _ _ _ h => h) (Or.inl ⟨by rfl, ?hyq⟩) hS ?_
    case hyq =>
      intro w hw
      obtain ⟨k0, k1⟩ := hw.cells
      go_simp
      try (with_reducible rfl)
    refine wpAnyH_take (i := 6) (v := ?_) rfl (by kernel_rfl) (by kernel_rfl) (by kernel_rfl) (fun _ _ _ h => h) (Or.inl ⟨by rfl, ?hyq⟩) hS ?_
    case hyq =>
      intro w hw
      go_simp
      try (with_reducible rfl)
    try go_simp
    refine wpAnyH_ready (rs := [3, 7, 9]) (by kernel_rfl) (by simp) ?_
    refine all_consH rfl (fun K hK => ?_) ?_
    · skip
      refine stp_new rfl (fun g => .slice (some ⟨g, 0, none⟩) d.nB d.nB) (.cells ((List.replicate d.nB nilS).map Sl.v).toArray 41) (by have hm1 := HM1.out; go_simp) ?_
      intro gB w3 hn hb
      have hSn := hS.below hb.out hS.lt
      have HFB := Lib.hid (Fr.ofHeap (base := w.heap.size + 2) (sz := 1) (n := d.nB) hn.out.2.2 (by have := HL.out; have := hn.out.1; omega) (by unfold maxLen; omega) (by simp))
      replace HR := Lib.hid (HR.out.below hb.out HR.out.lt)
      replace HB := Lib.hid (below_to HB.out hb.out HB.out.size)
      replace HL := Lib.hid (Nat.le_trans HL.out hb.out.size)
      clear hn hb
      refine hK.out _ _ hSn (fun hS => ?_)
      clear hK K hSn
      try go_simp
      refine wpAnyH_ready (rs := [7, 9]) (by kernel_rfl) (by simp) ?_
      refine all_consH rfl (fun K hK => ?_) ?_
      · skip
        refine stp_new rfl (fun g => .slice (some ⟨g, 0, none⟩) d.nW d.nW) (.cells (wcs (List.replicate d.nW nilW)).toArray 54) (by have hm2 := HM2.out; go_simp) ?_
        intro gW w7 hn hb
        have hSn := hS.below hb.out hS.lt
        have HFW := Lib.hid (Fr.ofHeap (base := w.heap.size + 2) (sz := 2) (n := d.nW) hn.out.2.2 (by have := HL.out; have := hn.out.1; omega) (by unfold maxLen; omega) (by rw [wcs_len, List.length_replicate]))
        replace HFB := Lib.hid (HFB.out.below hb.out (Nat.le_refl _))
        replace HR := Lib.hid (HR.out.below hb.out HR.out.lt)
        replace HB := Lib.hid (below_to HB.out hb.out HB.out.size)
        replace HL := Lib.hid (Nat.le_trans HL.out hb.out.size)
        clear hn hb
        refine hK.out _ _ hSn (fun hS => ?_)
        clear hK K hSn
        refine wpAnyH_take (i := 8) (v := ?_) rfl (by kernel_rfl) (by kernel_rfl) (by kernel_rfl) (fun _ _ _ h => h) (Or.inl ⟨by rfl, ?hyq⟩) hS ?_
        case hyq =>
          intro w hw
          go_simp
          try (with_reducible rfl)
        try go_simp
        refine wpAnyH_ready (rs := [9]) (by kernel_rfl) (by simp) ?_
        refine all_consH rfl (fun K hK => ?_) ?_
        · skip
          refine stp_new rfl (fun g => .pointer (some ⟨g, 0, none⟩)) (.cells #[.slice none 0 0, .slice none 0 0] 25) (by go_simp) ?_
          intro G w9 hn hb
          have hSn := hS.below hb.out hS.lt
          have HY := Lib.hid (show DkBox w9 G (.slice none 0 0) (.slice none 0 0) from hn.out.2.2)
          have HGl := Lib.hid (show w.heap.size + 2 ≤ G from by have := HL.out; have := hn.out.1; omega)
          replace HFB := Lib.hid (HFB.out.below hb.out (Nat.le_refl _))
          replace HFW := Lib.hid (HFW.out.below hb.out (Nat.le_refl _))
          replace HR := Lib.hid (HR.out.below hb.out HR.out.lt)
          replace HB := Lib.hid (below_to HB.out hb.out HB.out.size)
          replace HL := Lib.hid (Nat.le_trans HL.out hb.out.size)
          clear hn hb
          refine hK.out _ _ hSn (fun hS => ?_)
          clear hK K hSn
          try go_simp
          refine wpAnyH_ready (rs := [10]) (by kernel_rfl) (by simp) ?_
          refine all_consH rfl (fun K hK => ?_) ?_
          · skip
            refine Stp.mk ?_
            obtain ⟨m0, m1⟩ := HY.out.cells
            have mf := HY.out.frozen
            have hY := (HY.out.put0 (.slice (some ⟨gB, 0, none⟩) d.nB d.nB)).put1 (.slice (some ⟨gW, 0, none⟩) d.nW d.nW)
            have hFB := fr_box (fr_box HFB.out (grown_setCell _ ⟨G, 0, none⟩ (.slice (some ⟨gB, 0, none⟩) d.nB d.nB)) HY.out (by decide)) (grown_setCell _ ⟨G, 1, none⟩ (.slice (some ⟨gW, 0, none⟩) d.nW d.nW)) (HY.out.put0 _) (by decide)
            have hFW := fr_box (fr_box HFW.out (grown_setCell _ ⟨G, 0, none⟩ (.slice (some ⟨gB, 0, none⟩) d.nB d.nB)) HY.out (by decide)) (grown_setCell _ ⟨G, 1, none⟩ (.slice (some ⟨gW, 0, none⟩) d.nW d.nW)) (HY.out.put0 _) (by decide)
            have hB9 := (HB.out.setCell (p := ⟨G, 0, none⟩) (by have := HGl.out; simp; omega) (.slice (some ⟨gB, 0, none⟩) d.nB d.nB)).setCell (p := ⟨G, 1, none⟩) (by have := HGl.out; simp; omega) (.slice (some ⟨gW, 0, none⟩) d.nW d.nW)
            have hR9 := (HR.out.set ⟨G, 0, none⟩ (by have := HGl.out; simp; omega) (.slice (some ⟨gB, 0, none⟩) d.nB d.nB)).set ⟨G, 1, none⟩ (by have := HGl.out; simp; omega) (.slice (some ⟨gW, 0, none⟩) d.nW d.nW)
            have hSn := (hS.set ⟨G, 0, none⟩ (by have := HGl.out; simp; omega) (.slice (some ⟨gB, 0, none⟩) d.nB d.nB)).set ⟨G, 1, none⟩ (by have := HGl.out; simp; omega) (.slice (some ⟨gW, 0, none⟩) d.nW d.nW)
            go_simp
            clear m0 m1 mf
            refine hK.out _ _ hSn (fun hS => ?_)
            clear hK K hSn
            refine wpAnyH_done (by kernel_rfl) ?_ _
            go_wp2
            go_meet
            case rel => exact ⟨G, gB, gW, rfl, hS, hR9, hY, HGl.out, hFB, hFW, hB9⟩
          exact AllReadyH.nil
        exact AllReadyH.nil
      refine all_consH rfl (fun K hK => ?_) ?_
      · skip
        refine stp_new rfl (fun g => .pointer (some ⟨g, 0, none⟩)) (.cells #[.slice none 0 0, .slice none 0 0] 25) (by go_simp) ?_
        intro G w9 hn hb
        have hSn := hS.below hb.out hS.lt
        have HY := Lib.hid (show DkBox w9 G (.slice none 0 0) (.slice none 0 0) from hn.out.2.2)
        have HGl := Lib.hid (show w.heap.size + 2 ≤ G from by have := HL.out; have := hn.out.1; omega)
        replace HFB := Lib.hid (HFB.out.below hb.out (Nat.le_refl _))
        replace HR := Lib.hid (HR.out.below hb.out HR.out.lt)
        replace HB := Lib.hid (below_to HB.out hb.out HB.out.size)
        replace HL := Lib.hid (Nat.le_trans HL.out hb.out.size)
        clear hn hb
        refine hK.out _ _ hSn (fun hS => ?_)
        clear hK K hSn
        try go_simp
        refine wpAnyH_ready (rs := [7]) (by kernel_rfl) (by simp) ?_
        refine all_consH rfl (fun K hK => ?_) ?_
        · skip
          refine stp_new rfl (fun g => .slice (some ⟨g, 0, none⟩) d.nW d.nW) (.cells (wcs (List.replicate d.nW nilW)).toArray 54) (by have hm2 := HM2.out; go_simp) ?_
          intro gW w7 hn hb
          have hSn := hS.below hb.out hS.lt
          have HFW := Lib.hid (Fr.ofHeap (base := w.heap.size + 2) (sz := 2) (n := d.nW) hn.out.2.2 (by have := HL.out; have := hn.out.1; omega) (by unfold maxLen; omega) (by rw [wcs_len, List.length_replicate]))
          replace HFB := Lib.hid (HFB.out.below hb.out (Nat.le_refl _))
          replace HY := Lib.hid (HY.out.below hb.out HY.out.lt)
          replace HR := Lib.hid (HR.out.below hb.out HR.out.lt)
          replace HB := Lib.hid (below_to HB.out hb.out HB.out.size)
          replace HL := Lib.hid (Nat.le_trans HL.out hb.out.size)
          clear hn hb
          refine hK.out _ _ hSn (fun hS => ?_)
          clear hK K hSn
          refine wpAnyH_take (i := 8) (v := ?_) rfl (by kernel_rfl) (by kernel_rfl) (by kernel_rfl) (fun _ _ _ h => h) (Or.inl ⟨by rfl, ?hyq⟩) hS ?_
          case hyq =>
            intro w hw
            go_simp
            try (with_reducible rfl)
          try go_simp
          refine wpAnyH_ready (rs := [10]) (by kernel_rfl) (by simp) ?_
          refine all_consH rfl (fun K hK => ?_) ?_
          · skip
            refine Stp.mk ?_
            obtain ⟨m0, m1⟩ := HY.out.cells
            have mf := HY.out.frozen
            have hY := (HY.out.put0 (.slice (some ⟨gB, 0, none⟩) d.nB d.nB)).put1 (.slice (some ⟨gW, 0, none⟩) d.nW d.nW)
            have hFB := fr_box (fr_box HFB.out (grown_setCell _ ⟨G, 0, none⟩ (.slice (some ⟨gB, 0, none⟩) d.nB d.nB)) HY.out (by decide)) (grown_setCell _ ⟨G, 1, none⟩ (.slice (some ⟨gW, 0, none⟩) d.nW d.nW)) (HY.out.put0 _) (by decide)
            have hFW := fr_box (fr_box HFW.out (grown_setCell _ ⟨G, 0, none⟩ (.slice (some ⟨gB, 0, none⟩) d.nB d.nB)) HY.out (by decide)) (grown_setCell _ ⟨G, 1, none⟩ (.slice (some ⟨gW, 0, none⟩) d.nW d.nW)) (HY.out.put0 _) (by decide)
            have hB9 := (HB.out.setCell (p := ⟨G, 0, none⟩) (by have := HGl.out; simp; omega) (.slice (some ⟨gB, 0, none⟩) d.nB d.nB)).setCell (p := ⟨G, 1, none⟩) (by have := HGl.out; simp; omega) (.slice (some ⟨gW, 0, none⟩) d.nW d.nW)
            have hR9 := (HR.out.set ⟨G, 0, none⟩ (by have := HGl.out; simp; omega) (.slice (some ⟨gB, 0, none⟩) d.nB d.nB)).set ⟨G, 1, none⟩ (by have := HGl.out; simp; omega) (.slice (some ⟨gW, 0, none⟩) d.nW d.nW)
            have hSn := (hS.set ⟨G, 0, none⟩ (by have := HGl.out; simp; omega) (.slice (some ⟨gB, 0, none⟩) d.nB d.nB)).set ⟨G, 1, none⟩ (by have := HGl.out; simp; omega) (.slice (some ⟨gW, 0, none⟩) d.nW d.nW)
            go_simp
            clear m0 m1 mf
            refine hK.out _ _ hSn (fun hS => ?_)
            clear hK K hSn
            refine wpAnyH_done (by kernel_rfl) ?_ _
            go_wp2
            go_meet
            case rel => exact ⟨G, gB, gW, rfl, hS, hR9, hY, HGl.out, hFB, hFW, hB9⟩
          exact AllReadyH.nil
        exact AllReadyH.nil
      exact AllReadyH.nil
    refine all_consH rfl (fun K hK => ?_) ?_
    · skip
      refine stp_new rfl (fun g => .slice (some ⟨g, 0, none⟩) d.nW d.nW) (.cells (wcs (List.replicate d.nW nilW)).toArray 54) (by have hm2 := HM2.out; go_simp) ?_
      intro gW w7 hn hb
      have hSn := hS.below hb.out hS.lt
      have HFW := Lib.hid (Fr.ofHeap (base := w.heap.size + 2) (sz := 2) (n := d.nW) hn.out.2.2 (by have := HL.out; have := hn.out.1; omega) (by unfold maxLen; omega) (by rw [wcs_len, List.length_replicate]))
      replace HR := Lib.hid (HR.out.below hb.out HR.out.lt)
      replace HB := Lib.hid (below_to HB.out hb.out HB.out.size)
      replace HL := Lib.hid (Nat.le_trans HL.out hb.out.size)
      clear hn hb
      refine hK.out _ _ hSn (fun hS => ?_)
      clear hK K hSn
      try go_simp
      refine wpAnyH_ready (rs := [3, 9]) (by kernel_rfl) (by simp) ?_
      refine all_consH rfl (fun K hK => ?_) ?_
      · skip
        refine stp_new rfl (fun g => .slice (some ⟨g, 0, none⟩) d.nB d.nB) (.cells ((List.replicate d.nB nilS).map Sl.v).toArray 41) (by have hm1 := HM1.out; go_simp) ?_
        intro gB w3 hn hb
        have hSn := hS.below hb.out hS.lt
        have HFB := Lib.hid (Fr.ofHeap (base := w.heap.size + 2) (sz := 1) (n := d.nB) hn.out.2.2 (by have := HL.out; have := hn.out.1; omega) (by unfold maxLen; omega) (by simp))
        replace HFW := Lib.hid (HFW.out.below hb.out (Nat.le_refl _))
        replace HR := Lib.hid (HR.out.below hb.out HR.out.lt)
        replace HB := Lib.hid (below_to HB.out hb.out HB.out.size)
        replace HL := Lib.hid (Nat.le_trans HL.out hb.out.size)
        clear hn hb
        refine hK.out _ _ hSn (fun hS => ?_)
        clear hK K hSn
        refine wpAnyH_take (i := 8) (v := ?_) rfl (by kernel_rfl) (by kernel_rfl) (by kernel_rfl) (fun _ _ _ h => h) (Or.inl ⟨by rfl, ?hyq⟩) hS ?_
        case hyq =>
          intro w hw
          go_simp
          try (with_reducible rfl)
        try go_simp
        refine wpAnyH_ready (rs := [9]) (by kernel_rfl) (by simp) ?_
        refine all_consH rfl (fun K hK => ?_) ?_
        · skip
          refine stp_new rfl (fun g => .pointer (some ⟨g, 0, none⟩)) (.cells #[.slice none 0 0, .slice none 0 0] 25) (by go_simp) ?_
          intro G w9 hn hb
          have hSn := hS.below hb.out hS.lt
          have HY := Lib.hid (show DkBox w9 G (.slice none 0 0) (.slice none 0 0) from hn.out.2.2)
          have HGl := Lib.hid (show w.heap.size + 2 ≤ G from by have := HL.out; have := hn.out.1; omega)
          replace HFB := Lib.hid (HFB.out.below hb.out (Nat.le_refl _))
          replace HFW := Lib.hid (HFW.out.below hb.out (Nat.le_refl _))
          replace HR := Lib.hid (HR.out.below hb.out HR.out.lt)
          replace HB := Lib.hid (below_to HB.out hb.out HB.out.size)
          replace HL := Lib.hid (Nat.le_trans HL.out hb.out.size)
          clear hn hb
          refine hK.out _ _ hSn (fun hS => ?_)
          clear hK K hSn
          try go_simp
          refine wpAnyH_ready (rs := [10]) (by kernel_rfl) (by simp) ?_
          refine all_consH rfl (fun K hK => ?_) ?_
          · skip
            refine Stp.mk ?_
            obtain ⟨m0, m1⟩ := HY.out.cells
            have mf := HY.out.frozen
            have hY := (HY.out.put0 (.slice (some ⟨gB, 0, none⟩) d.nB d.nB)).put1 (.slice (some ⟨gW, 0, none⟩) d.nW d.nW)
            have hFB := fr_box (fr_box HFB.out (grown_setCell _ ⟨G, 0, none⟩ (.slice (some ⟨gB, 0, none⟩) d.nB d.nB)) HY.out (by decide)) (grown_setCell _ ⟨G, 1, none⟩ (.slice (some ⟨gW, 0, none⟩) d.nW d.nW)) (HY.out.put0 _) (by decide)
            have hFW := fr_box (fr_box HFW.out (grown_setCell _ ⟨G, 0, none⟩ (.slice (some ⟨gB, 0, none⟩) d.nB d.nB)) HY.out (by decide)) (grown_setCell _ ⟨G, 1, none⟩ (.slice (some ⟨gW, 0, none⟩) d.nW d.nW)) (HY.out.put0 _) (by decide)
            have hB9 := (HB.out.setCell (p := ⟨G, 0, none⟩) (by have := HGl.out; simp; omega) (.slice (some ⟨gB, 0, none⟩) d.nB d.nB)).setCell (p := ⟨G, 1, none⟩) (by have := HGl.out; simp; omega) (.slice (some ⟨gW, 0, none⟩) d.nW d.nW)
            have hR9 := (HR.out.set ⟨G, 0, none⟩ (by have := HGl.out; simp; omega) (.slice (some ⟨gB, 0, none⟩) d.nB d.nB)).set ⟨G, 1, none⟩ (by have := HGl.out; simp; omega) (.slice (some ⟨gW, 0, none⟩) d.nW d.nW)
            have hSn := (hS.set ⟨G, 0, none⟩ (by have := HGl.out; simp; omega) (.slice (some ⟨gB, 0, none⟩) d.nB d.nB)).set ⟨G, 1, none⟩ (by have := HGl.out; simp; omega) (.slice (some ⟨gW, 0, none⟩) d.nW d.nW)
            go_simp
            clear m0 m1 mf
            refine hK.out _ _ hSn (fun hS => ?_)
            clear hK K hSn
            refine wpAnyH_done (by kernel_rfl) ?_ _
            go_wp2
            go_meet
            case rel => exact ⟨G, gB, gW, rfl, hS, hR9, hY, HGl.out, hFB, hFW, hB9⟩
          exact AllReadyH.nil
        exact AllReadyH.nil
      refine all_consH rfl (fun K hK => ?_) ?_
      · skip
        refine stp_new rfl (fun g => .pointer (some ⟨g, 0, none⟩)) (.cells #[.slice none 0 0, .slice none 0 0] 25) (by go_simp) ?_
        intro G w9 hn hb
        have hSn := hS.below hb.out hS.lt
        have HY := Lib.hid (show DkBox w9 G (.slice none 0 0) (.slice none 0 0) from hn.out.2.2)
        have HGl := Lib.hid (show w.heap.size + 2 ≤ G from by have := HL.out; have := hn.out.1; omega)
        replace HFW := Lib.hid (HFW.out.below hb.out (Nat.le_refl _))
        replace HR := Lib.hid (HR.out.below hb.out HR.out.lt)
        replace HB := Lib.hid (below_to HB.out hb.out HB.out.size)
        replace HL := Lib.hid (Nat.le_trans HL.out hb.out.size)
        clear hn hb
        refine hK.out _ _ hSn (fun hS => ?_)
        clear hK K hSn
        try go_simp
        refine wpAnyH_ready (rs := [3]) (by kernel_rfl) (by simp) ?_
        refine all_consH rfl (fun K hK => ?_) ?_
        · skip
          refine stp_new rfl (fun g => .slice (some ⟨g, 0, none⟩) d.nB d.nB) (.cells ((List.replicate d.nB nilS).map Sl.v).toArray 41) (by have hm1 := HM1.out; go_simp) ?_
          intro gB w3 hn hb
          have hSn := hS.below hb.out hS.lt
          have HFB := Lib.hid (Fr.ofHeap (base := w.heap.size + 2) (sz := 1) (n := d.nB) hn.out.2.2 (by have := HL.out; have := hn.out.1; omega) (by unfold maxLen; omega) (by simp))
          replace HFW := Lib.hid (HFW.out.below hb.out (Nat.le_refl _))
          replace HY := Lib.hid (HY.out.below hb.out HY.out.lt)
          replace HR := Lib.hid (HR.out.below hb.out HR.out.lt)
          replace HB := Lib.hid (below_to HB.out hb.out HB.out.size)
          replace HL := Lib.hid (Nat.le_trans HL.out hb.out.size)
          clear hn hb
          refine hK.out _ _ hSn (fun hS => ?_)
          clear hK K hSn
          refine wpAnyH_take (i := 8) (v := ?_) rfl (by kernel_rfl) (by kernel_rfl) (by kernel_rfl) (fun _ _ _ h => h) (Or.inl ⟨by rfl, ?hyq⟩) hS ?_
          case hyq =>
            intro w hw
            go_simp
            try (with_reducible rfl)
          try go_simp
          refine wpAnyH_ready (rs := [10]) (by kernel_rfl) (by simp) ?_
          refine all_consH rfl (fun K hK => ?_) ?_
          · skip
            refine Stp.mk ?_
            obtain ⟨m0, m1⟩ := HY.out.cells
            have mf := HY.out.frozen
            have hY := (HY.out.put0 (.slice (some ⟨gB, 0, none⟩) d.nB d.nB)).put1 (.slice (some ⟨gW, 0, none⟩) d.nW d.nW)
            have hFB := fr_box (fr_box HFB.out (grown_setCell _ ⟨G, 0, none⟩ (.slice (some ⟨gB, 0, none⟩) d.nB d.nB)) HY.out (by decide)) (grown_setCell _ ⟨G, 1, none⟩ (.slice (some ⟨gW, 0, none⟩) d.nW d.nW)) (HY.out.put0 _) (by decide)
            have hFW := fr_box (fr_box HFW.out (grown_setCell _ ⟨G, 0, none⟩ (.slice (some ⟨gB, 0, none⟩) d.nB d.nB)) HY.out (by decide)) (grown_setCell _ ⟨G, 1, none⟩ (.slice (some ⟨gW, 0, none⟩) d.nW d.nW)) (HY.out.put0 _) (by decide)
            have hB9 := (HB.out.setCell (p := ⟨G, 0, none⟩) (by have := HGl.out; simp; omega) (.slice (some ⟨gB, 0, none⟩) d.nB d.nB)).setCell (p := ⟨G, 1, none⟩) (by have := HGl.out; simp; omega) (.slice (some ⟨gW, 0, none⟩) d.nW d.nW)
            have hR9 := (HR.out.set ⟨G, 0, none⟩ (by have := HGl.out; simp; omega) (.slice (some ⟨gB, 0, none⟩) d.nB d.nB)).set ⟨G, 1, none⟩ (by have := HGl.out; simp; omega) (.slice (some ⟨gW, 0, none⟩) d.nW d.nW)
            have hSn := (hS.set ⟨G, 0, none⟩ (by have := HGl.out; simp; omega) (.slice (some ⟨gB, 0, none⟩) d.nB d.nB)).set ⟨G, 1, none⟩ (by have := HGl.out; simp; omega) (.slice (some ⟨gW, 0, none⟩) d.nW d.nW)
            go_simp
            clear m0 m1 mf
            refine hK.out _ _ hSn (fun hS => ?_)
            clear hK K hSn
            refine wpAnyH_done (by kernel_rfl) ?_ _
            go_wp2
            go_meet
            case rel => exact ⟨G, gB, gW, rfl, hS, hR9, hY, HGl.out, hFB, hFW, hB9⟩
          exact AllReadyH.nil
        exact AllReadyH.nil
      exact AllReadyH.nil
    refine all_consH rfl (fun K hK => ?_) ?_
    · skip
      refine stp_new rfl (fun g => .pointer (some ⟨g, 0, none⟩)) (.cells #[.slice none 0 0, .slice none 0 0] 25) (by go_simp) ?_
      intro G w9 hn hb
      have hSn := hS.below hb.out hS.lt
      have HY := Lib.hid (show DkBox w9 G (.slice none 0 0) (.slice none 0 0) from hn.out.2.2)
      have HGl := Lib.hid (show w.heap.size + 2 ≤ G from by have := HL.out; have := hn.out.1; omega)
      replace HR := Lib.hid (HR.out.below hb.out HR.out.lt)
      replace HB := Lib.hid (below_to HB.out hb.out HB.out.size)
      replace HL := Lib.hid (Nat.le_trans HL.out hb.out.size)
      clear hn hb
      refine hK.out _ _ hSn (fun hS => ?_)
      clear hK K hSn
      try go_simp
      refine wpAnyH_ready (rs := [3, 7]) (by kernel_rfl) (by simp) ?_
      refine all_consH rfl (fun K hK => ?_) ?_
      · skip
        refine stp_new rfl (fun g => .slice (some ⟨g, 0, none⟩) d.nB d.nB) (.cells ((List.replicate d.nB nilS).map Sl.v).toArray 41) (by have hm1 := HM1.out; go_simp) ?_
        intro gB w3 hn hb
        have hSn := hS.below hb.out hS.lt
        have HFB := Lib.hid (Fr.ofHeap (base := w.heap.size + 2) (sz := 1) (n := d.nB) hn.out.2.2 (by have := HL.out; have := hn.out.1; omega) (by unfold maxLen; omega) (by simp))
        replace HY := Lib.hid (HY.out.below hb.out HY.out.lt)
        replace HR := Lib.hid (HR.out.below hb.out HR.out.lt)
        replace HB := Lib.hid (below_to HB.out hb.out HB.out.size)
        replace HL := Lib.hid (Nat.le_trans HL.out hb.out.size)
        clear hn hb
        refine hK.out _ _ hSn (fun hS => ?_)
        clear hK K hSn
        try go_simp
        refine wpAnyH_ready (rs := [7]) (by kernel_rfl) (by simp) ?_
        refine all_consH rfl (fun K hK => ?_) ?_
        · skip
          refine stp_new rfl (fun g => .slice (some ⟨g, 0, none⟩) d.nW d.nW) (.cells (wcs (List.replicate d.nW nilW)).toArray 54) (by have hm2 := HM2.out; go_simp) ?_
          intro gW w7 hn hb
          have hSn := hS.below hb.out hS.lt
          have HFW := Lib.hid (Fr.ofHeap (base := w.heap.size + 2) (sz := 2) (n := d.nW) hn.out.2.2 (by have := HL.out; have := hn.out.1; omega) (by unfold maxLen; omega) (by rw [wcs_len, List.length_replicate]))
          replace HFB := Lib.hid (HFB.out.below hb.out (Nat.le_refl _))
          replace HY := Lib.hid (HY.out.below hb.out HY.out.lt)
          replace HR := Lib.hid (HR.out.below hb.out HR.out.lt)
          replace HB := Lib.hid (below_to HB.out hb.out HB.out.size)
          replace HL := Lib.hid (Nat.le_trans HL.out hb.out.size)
          clear hn hb
          refine hK.out _ _ hSn (fun hS => ?_)
          clear hK K hSn
          refine wpAnyH_take (i := 8) (v := ?_) rfl (by kernel_rfl) (by kernel_rfl) (by kernel_rfl) (fun _ _ _ h => h) (Or.inl ⟨by rfl, ?hyq⟩) hS ?_
          case hyq =>
            intro w hw
            go_simp
            try (with_reducible rfl)
          try go_simp
          refine wpAnyH_ready (rs := [10]) (by kernel_rfl) (by simp) ?_
          refine all_consH rfl (fun K hK => ?_) ?_
          · skip
            refine Stp.mk ?_
            obtain ⟨m0, m1⟩ := HY.out.cells
            have mf := HY.out.frozen
            have hY := (HY.out.put0 (.slice (some ⟨gB, 0, none⟩) d.nB d.nB)).put1 (.slice (some ⟨gW, 0, none⟩) d.nW d.nW)
            have hFB := fr_box (fr_box HFB.out (grown_setCell _ ⟨G, 0, none⟩ (.slice (some ⟨gB, 0, none⟩) d.nB d.nB)) HY.out (by decide)) (grown_setCell _ ⟨G, 1, none⟩ (.slice (some ⟨gW, 0, none⟩) d.nW d.nW)) (HY.out.put0 _) (by decide)
            have hFW := fr_box (fr_box HFW.out (grown_setCell _ ⟨G, 0, none⟩ (.slice (some ⟨gB, 0, none⟩) d.nB d.nB)) HY.out (by decide)) (grown_setCell _ ⟨G, 1, none⟩ (.slice (some ⟨gW, 0, none⟩) d.nW d.nW)) (HY.out.put0 _) (by decide)
            have hB9 := (HB.out.setCell (p := ⟨G, 0, none⟩) (by have := HGl.out; simp; omega) (.slice (some ⟨gB, 0, none⟩) d.nB d.nB)).setCell (p := ⟨G, 1, none⟩) (by have := HGl.out; simp; omega) (.slice (some ⟨gW, 0, none⟩) d.nW d.nW)
            have hR9 := (HR.out.set ⟨G, 0, none⟩ (by have := HGl.out; simp; omega) (.slice (some ⟨gB, 0, none⟩) d.nB d.nB)).set ⟨G, 1, none⟩ (by have := HGl.out; simp; omega) (.slice (some ⟨gW, 0, none⟩) d.nW d.nW)
            have hSn := (hS.set ⟨G, 0, none⟩ (by have := HGl.out; simp; omega) (.slice (some ⟨gB, 0, none⟩) d.nB d.nB)).set ⟨G, 1, none⟩ (by have := HGl.out; simp; omega) (.slice (some ⟨gW, 0, none⟩) d.nW d.nW)
            go_simp
            clear m0 m1 mf
            refine hK.out _ _ hSn (fun hS => ?_)
            clear hK K hSn
            refine wpAnyH_done (by kernel_rfl) ?_ _
            go_wp2
            go_meet
            case rel => exact ⟨G, gB, gW, rfl, hS, hR9, hY, HGl.out, hFB, hFW, hB9⟩
          exact AllReadyH.nil
        exact AllReadyH.nil
      refine all_consH rfl (fun K hK => ?_) ?_
      · skip
        refine stp_new rfl (fun g => .slice (some ⟨g, 0, none⟩) d.nW d.nW) (.cells (wcs (List.replicate d.nW nilW)).toArray 54) (by have hm2 := HM2.out; go_simp) ?_
        intro gW w7 hn hb
        have hSn := hS.below hb.out hS.lt
        have HFW := Lib.hid (Fr.ofHeap (base := w.heap.size + 2) (sz := 2) (n := d.nW) hn.out.2.2 (by have := HL.out; have := hn.out.1; omega) (by unfold maxLen; omega) (by rw [wcs_len, List.length_replicate]))
        replace HY := Lib.hid (HY.out.below hb.out HY.out.lt)
        replace HR := Lib.hid (HR.out.below hb.out HR.out.lt)
        replace HB := Lib.hid (below_to HB.out hb.out HB.out.size)
        replace HL := Lib.hid (Nat.le_trans HL.out hb.out.size)
        clear hn hb
        refine hK.out _ _ hSn (fun hS => ?_)
        clear hK K hSn
        try go_simp
        refine wpAnyH_ready (rs := [3]) (by kernel_rfl) (by simp) ?_
        refine all_consH rfl (fun K hK => ?_) ?_
        · skip
          refine stp_new rfl (fun g => .slice (some ⟨g, 0, none⟩) d.nB d.nB) (.cells ((List.replicate d.nB nilS).map Sl.v).toArray 41) (by have hm1 := HM1.out; go_simp) ?_
          intro gB w3 hn hb
          have hSn := hS.below hb.out hS.lt
          have HFB := Lib.hid (Fr.ofHeap (base := w.heap.size + 2) (sz := 1) (n := d.nB) hn.out.2.2 (by have := HL.out; have := hn.out.1; omega) (by unfold maxLen; omega) (by simp))
          replace HFW := Lib.hid (HFW.out.below hb.out (Nat.le_refl _))
          replace HY := Lib.hid (HY.out.below hb.out HY.out.lt)
          replace HR := Lib.hid (HR.out.below hb.out HR.out.lt)
          replace HB := Lib.hid (below_to HB.out hb.out HB.out.size)
          replace HL := Lib.hid (Nat.le_trans HL.out hb.out.size)
          clear hn hb
          refine hK.out _ _ hSn (fun hS => ?_)
          clear hK K hSn
          refine wpAnyH_take (i := 8) (v := ?_) rfl (by kernel_rfl) (by kernel_rfl) (by kernel_rfl) (fun _ _ _ h => h) (Or.inl ⟨by rfl, ?hyq⟩) hS ?_
          case hyq =>
            intro w hw
            go_simp
            try (with_reducible rfl)
          try go_simp
          refine wpAnyH_ready (rs := [10]) (by kernel_rfl) (by simp) ?_
          refine all_consH rfl (fun K hK => ?_) ?_
          · skip
            refine Stp.mk ?_
            obtain ⟨m0, m1⟩ := HY.out.cells
            have mf := HY.out.frozen
            have hY := (HY.out.put0 (.slice (some ⟨gB, 0, none⟩) d.nB d.nB)).put1 (.slice (some ⟨gW, 0, none⟩) d.nW d.nW)
            have hFB := fr_box (fr_box HFB.out (grown_setCell _ ⟨G, 0, none⟩ (.slice (some ⟨gB, 0, none⟩) d.nB d.nB)) HY.out (by decide)) (grown_setCell _ ⟨G, 1, none⟩ (.slice (some ⟨gW, 0, none⟩) d.nW d.nW)) (HY.out.put0 _) (by decide)
            have hFW := fr_box (fr_box HFW.out (grown_setCell _ ⟨G, 0, none⟩ (.slice (some ⟨gB, 0, none⟩) d.nB d.nB)) HY.out (by decide)) (grown_setCell _ ⟨G, 1, none⟩ (.slice (some ⟨gW, 0, none⟩) d.nW d.nW)) (HY.out.put0 _) (by decide)
            have hB9 := (HB.out.setCell (p := ⟨G, 0, none⟩) (by have := HGl.out; simp; omega) (.slice (some ⟨gB, 0, none⟩) d.nB d.nB)).setCell (p := ⟨G, 1, none⟩) (by have := HGl.out; simp; omega) (.slice (some ⟨gW, 0, none⟩) d.nW d.nW)
            have hR9 := (HR.out.set ⟨G, 0, none⟩ (by have := HGl.out; simp; omega) (.slice (some ⟨gB, 0, none⟩) d.nB d.nB)).set ⟨G, 1, none⟩ (by have := HGl.out; simp; omega) (.slice (some ⟨gW, 0, none⟩) d.nW d.nW)
            have hSn := (hS.set ⟨G, 0, none⟩ (by have := HGl.out; simp; omega) (.slice (some ⟨gB, 0, none⟩) d.nB d.nB)).set ⟨G, 1, none⟩ (by have := HGl.out; simp; omega) (.slice (some ⟨gW, 0, none⟩) d.nW d.nW)
            go_simp
            clear m0 m1 mf
            refine hK.out _ _ hSn (fun hS => ?_)
            clear hK K hSn
            refine wpAnyH_done (by kernel_rfl) ?_ _
            go_wp2
            go_meet
            case rel => exact ⟨G, gB, gW, rfl, hS, hR9, hY, HGl.out, hFB, hFW, hB9⟩
          exact AllReadyH.nil
        exact AllReadyH.nil
      exact AllReadyH.nil
    exact AllReadyH.nil
  case rest =>
    obtain ⟨G, gB, gW, rfl, hx, hr, hy, hgl, hfb, hfw, hb⟩ := hcut
    have hI : TwI d w G gB gW (List.replicate d.nB nilS) (List.replicate d.nW nilW) wc := ⟨hx, hr, hy, hfb, hfw, hb⟩
    have HI := Lib.hid hI
    have hlb := HD.out.lb
    have hlw := HD.out.lw
    clear HX HR HB HZ hx hr hy hgl hfb hfw hb hI
    go_wp2
    go_loopw [4] (fun x wr => T1R d w G gB gW (List.replicate d.nW nilW) x wr) (fun x _ => d.nB - (intOf x).toNat)
    case atStart => exact ⟨0, _, Nat.zero_le _, rfl, HI.out, Bk.start _ _ _ _, Ap.start _ _⟩
    case round =>
      clear HI
      obtain ⟨k, ps, hk, rfl, hi, hbk, hap⟩ := hrel
      have HAP := Lib.hid hap
      clear hap
      obtain ⟨x0, x1⟩ := hi.x.cells
      by_cases hlt : k < d.nB
      · obtain ⟨s, b, off, hA, hbl, hc, hs, hsb, hsg⟩ := HD.out.block hlt
        have hS0 : TwS d w G gB gW b (off + k) s.v wr.drew := TwS.of (hi.below ((Below.refl _ _).drew)) hbl hc
        have hwant : s.l = wantB d k := by
          unfold wantB
          rw [List.getD_eq_getElem?_getD, hsg]
          rfl
        have hsn := HS6.out s (List.mem_of_getElem? hsg)
        have HS0 := Lib.hid hS0
        have HW := Lib.hid hwant
        have hd := (Below.refl wr.heap.size wr).drew
        have hid := hi.below hd
        have HI := Lib.hid hid
        have HBK := Lib.hid (hbk.below hd)
        have HSC := Lib.hid (hs.below hid.b)
        have HA := Lib.hid hA
        have HSN := Lib.hid hsn
        have HBl := Lib.hid hbl
        have h0 : ¬ ((k : Int) < 0) := by omega
        have h1 : (k : Int) < (d.nB : Int) := by omega
        clear hA hbl hc hs hsb hsg hS0 hwant hsn hd hid hi hbk
        go_wp2
        clear x0 x1
        refine wp_region_held_drew (S := TwS d w G gB gW b (off + k) s.v) (by kernel_rfl) HS0.out (fun hS => ?_)
        refine wpAnyH_take (i := 0) (v := ?_) rfl (by kernel_rfl) (by kernel_rfl) (by kernel_rfl) (fun _ _ _ h => h) (Or.inl ⟨by rfl, ?hyq⟩) hS ?_
        case hyq =>
          intro w hw
          go_simp
          try (with_reducible rfl)
        refine wpAnyH_take (i := 1) (v := ?_) rfl (by kernel_rfl) (by kernel_rfl) (by kernel_rfl) (fun _ _ _ h => h) (Or.inl ⟨by rfl, ?hyq⟩) hS ?_
        case hyq =>
          intro w hw
          obtain ⟨k0, k1⟩ := hw.y.cells
          go_simp
          try (with_reducible rfl)
        refine wpAnyH_take (i := 2) (v := ?_) rfl (by kernel_rfl) (by kernel_rfl) (by kernel_rfl) (fun _ _ _ h => h) (Or.inl ⟨by rfl, ?hyq⟩) hS ?_
        case hyq =>
          intro w hw
          go_simp
          try (with_reducible rfl)
        refine wpAnyH_take (i := 3) (v := ?_) rfl (by kernel_rfl) (by kernel_rfl) (by kernel_rfl) (fun _ _ _ h => h) (Or.inl ⟨by rfl, ?hyq⟩) hS ?_
        case hyq =>
          intro w hw
          go_simp
          try (with_reducible rfl)
        refine wpAnyH_take (i := 4) (v := ?_) rfl (by kernel_rfl) (by kernel_rfl) (by kernel_rfl) (fun _ _ _ h => h) (Or.inl ⟨by rfl, ?hyq⟩) hS ?_
        case hyq =>
          intro w hw
          obtain ⟨k0, k1⟩ := hw.y.cells
          go_simp
          try (with_reducible rfl)
        refine wpAnyH_take (i := 5) (v := ?_) rfl (by kernel_rfl) (by kernel_rfl) (by kernel_rfl) (fun _ _ _ h => h) (Or.inl ⟨by rfl, ?hyq⟩) hS ?_
        case hyq =>
          intro w hw
          go_simp
          try (with_reducible rfl)
        refine wpAnyH_take (i := 6) (v := ?_) rfl (by kernel_rfl) (by kernel_rfl) (by kernel_rfl) (fun _ _ _ h => h) (Or.inl ⟨by rfl, ?hyq⟩) hS ?_
        case hyq =>
          intro w hw
          go_simp
          try (with_reducible rfl)
        refine wpAnyH_take (i := 8) (v := ?_) rfl (by kernel_rfl) (by kernel_rfl) (by kernel_rfl) (fun _ _ _ h => h) (Or.inl ⟨by rfl, ?hyq⟩) hS ?_
        case hyq =>
          intro w hw
          go_simp
          try (with_reducible rfl)
        refine wpAnyH_take (i := 9) (v := ?_) rfl (by kernel_rfl) (by kernel_rfl) (by kernel_rfl) (fun _ _ _ h => h) (Or.inl ⟨by rfl, ?hyq⟩) hS ?_
        case hyq =>
          intro w hw
          obtain ⟨k0, k1⟩ := hw.x.cells
          rw [HA.out] at k0
          go_simp
          try (with_reducible rfl)
        refine wpAnyH_take (i := 10) (v := ?_) rfl (by kernel_rfl) (by kernel_rfl) (by kernel_rfl) (fun _ _ _ h => h) (Or.inl ⟨by rfl, ?hyq⟩) hS ?_
        case hyq =>
          intro w hw
          go_simp
          try (with_reducible rfl)
        refine wpAnyH_take (i := 11) (v := ?_) rfl (by kernel_rfl) (by kernel_rfl) (by kernel_rfl) (fun _ _ _ h => h) (Or.inl ⟨by rfl, ?hyq⟩) hS ?_
        case hyq =>
          intro w hw
          go_simp
          try (with_reducible rfl)
        refine wpAnyH_take (i := 12) (v := ?_) rfl (by kernel_rfl) (by kernel_rfl) (by kernel_rfl) (fun _ _ _ h => h) (Or.inl ⟨by rfl, ?hyq⟩) hS ?_
        case hyq =>
          intro w hw
          have k0 := hw.c
          unfold Sl.v at k0
          go_simp
          try (with_reducible rfl)
        try go_simp
        refine wpAnyH_ready (rs := [7]) (by kernel_rfl) (by simp) ?_
        refine all_consH rfl (fun K hK => ?_) ?_
        · skip
          refine Stp.mk ?_
          have hps : ps[k]? = some nilS := HBK.out.rest k (Nat.le_refl _) hlt
          obtain ⟨m0, mf⟩ := HI.out.fb.cellG (i := k) (u := .slice none 0 0) (by rw [List.getElem?_map, hps]; rfl)
          go_simp
          have hSn := hS
          clear m0 mf hps
          refine hK.out _ _ hSn (fun hS => ?_)
          clear hK K hSn
          try go_simp
          refine wpAnyH_ready (rs := [13]) (by kernel_rfl) (by simp) ?_
          refine all_consH rfl (fun K hK => ?_) ?_
          · skip
            refine stp_append_to (c := 0) (c' := s.c) (base := wr.drew.heap.size) rfl (.tmp 29) (.tmp 34) rfl okB (by simp [Act.eval, Act.put]) (Fr.none_) (by simp [Act.eval, Act.put]) HSC.out.2.1 (bvs_one _) s.n (by omega) (bvs s.l) rfl (by have := HSN.out; unfold maxLen; omega) (by have := HSN.out; omega) (Nat.le_refl _) ?_
            intro D dd w5 f5 g5
            have hb5 := grown_below (B := wr.drew.heap.size) g5.out (Nat.le_refl _) (fun j hj => by rw [rowOf_zero] at hj; cases hj)
            have hSn : TwS d w G gB gW b (off + k) s.v w5 := ⟨hS.x.below hb5 hS.x.lt, hS.y.below hb5 hS.y.lt, (hb5.cell (p := ⟨b, off + k, none⟩) (World.block_lt_of_cell? _ _ hS.c)).trans hS.c⟩
            have HNC := Lib.hid f5.out.cameS
            have HNO := Lib.hid (f5.out.ownS.mono (by have := HI.out.y.lt; have := (HI.out.fb.row gB (rowOf_some _ _ _ (by omega))); omega : w.heap.size + 2 ≤ wr.drew.heap.size))
            have HAP9 := Lib.hid (HAP.out.stepB (V := wr.drew) (fun t ht => (HBK.out.own t ht).1) (fun x hx => by rw [List.eq_of_mem_replicate hx]; exact nilS_came _) f5.out.ownS k)
            replace HI := Lib.hid (HI.out.below hb5)
            replace HBK := Lib.hid (HBK.out.below hb5)
            clear f5 g5 hb5
            refine hK.out _ _ hSn (fun hS => ?_)
            clear hK K hSn
            refine wpAnyH_take (i := 14) (v := ?_) rfl (by kernel_rfl) (by kernel_rfl) (by kernel_rfl) (fun _ _ _ h => h) (Or.inl ⟨by rfl, ?hyq⟩) hS ?_
            case hyq =>
              intro w hw
              go_simp
              try (with_reducible rfl)
            try go_simp
            refine wpAnyH_ready (rs := [15]) (by kernel_rfl) (by simp) ?_
            refine all_consH rfl (fun K hK => ?_) ?_
            · skip
              refine Stp.mk ?_
              have hps : ps[k]? = some nilS := HBK.out.rest k (Nat.le_refl _) hlt
              obtain ⟨m0, mf⟩ := HI.out.fb.cellG (i := k) (u := .slice none 0 0) (by rw [List.getElem?_map, hps]; rfl)
              obtain ⟨cur, fz, hrow⟩ := HI.out.fb.cells_ gB (rowOf_some _ _ _ (by omega))
              have hI9 := HI.out.putB hlt ⟨D, s.n, dd, s.l⟩
              have hK9 := (HBK.out.step hlt (s := ⟨D, s.n, dd, s.l⟩) HNC.out HNO.out HW.out).grown (grown_setCell _ ⟨gB, k, none⟩ (Sl.v ⟨D, s.n, dd, s.l⟩)) (fun j hj => .inr (by cases hj; exact ⟨cur, fz, _, hrow, by decide⟩))
              have hSn : TwS d w G gB gW b (off + k) s.v (w5.setCell ⟨gB, k, none⟩ (Sl.v ⟨D, s.n, dd, s.l⟩)) := ⟨hI9.x, hI9.y, (World.cell?_setCell_other _ _ _ _ (by
                intro e
                injection e with e1 e2
                have h1 := (HI.out.fb.row gB (rowOf_some _ _ _ (by omega))).1
                have h2 := HBl.out
                omega)).trans hS.c⟩
              have HI9 := Lib.hid hI9
              have HK9 := Lib.hid hK9
              clear hrow hI9 hK9 hps
              unfold Sl.v at hSn HI9 HK9
              go_simp
              clear m0 mf
              refine hK.out _ _ hSn (fun hS => ?_)
              clear hK K hSn
              refine wpAnyH_done (by kernel_rfl) ?_ _
              clear HI HBK
              go_wp2
              go_roundw
              case rel => exact ⟨k + 1, _, by omega, by simp, HI9.out, HK9.out, HAP9.out⟩
              case measure => simp [intOf]; omega
            exact AllReadyH.nil
          exact AllReadyH.nil
        exact AllReadyH.nil
      · obtain rfl : k = d.nB := by omega
        have HI := Lib.hid hi
        have HBK := Lib.hid hbk
        have HAPB := Lib.hid HAP.out
        clear hi hbk HAP
        go_wp2
        clear x0 x1
        go_loopw [5] (fun x wr => T2R d w G gB gW ps x wr) (fun x _ => d.nW - (intOf x).toNat)
        case atStart => exact ⟨0, _, Nat.zero_le _, rfl, HI.out, HBK.out, Wk.start _ _ _ _, HAPB.out⟩
        case round =>
          clear HI HBK HAPB
          obtain ⟨k, us, hk, rfl, hi, hbk, hwk, hap⟩ := hrel
          have HAP := Lib.hid hap
          clear hap
          obtain ⟨x0, x1⟩ := hi.x.cells
          by_cases hlt : k < d.nW
          · obtain ⟨x, b, off, hW, hbl, hc0, hc1, hxs, hxa, hcw⟩ := HD.out.write_ hlt
            have hwant : x.c = wantW d k := by
              unfold wantW
              rw [Dk.c_w, List.getElem?_map] at hcw
              obtain ⟨y, hy1, hy2⟩ := Option.map_eq_some_iff.1 hcw
              rw [List.getD_eq_getElem?_getD, hy1]
              exact hy2.symm
            have hxn : (x.s.n : Int) ≤ 1000000000 := by
              rw [Dk.c_w, List.getElem?_map] at hcw
              obtain ⟨y, hy1, hy2⟩ := Option.map_eq_some_iff.1 hcw
              have h1 := HX6.out y (List.mem_of_getElem? hy1)
              have h2 := (HD.out.sw y (List.mem_of_getElem? hy1)).1.1
              have h3 := hxs.1
              have h4 : y.s.l = x.s.l := congrArg Prod.snd hy2
              rw [h4] at h2
              omega
            have hus : us[k]? = some nilW := hwk.rest k (Nat.le_refl _) hlt
            have hul : k < us.length := by rw [hwk.len]; exact hlt
            have huk : us[k] = nilW := Option.some.inj ((List.getElem?_eq_getElem hul).symm.trans hus)
            have hd := (Below.refl wr.heap.size wr).drew
            have hid := hi.below hd
            have HS0 := Lib.hid (TwS.of hid hbl hc0)
            have HI := Lib.hid hid
            have HBK := Lib.hid (hbk.below hd)
            have HWK := Lib.hid (hwk.below hd)
            have HW := Lib.hid hW
            have HWANT := Lib.hid hwant
            have HXA := Lib.hid hxa
            have HXS := Lib.hid hxs
            have HXN := Lib.hid hxn
            have HBl := Lib.hid hbl
            have HC1 := Lib.hid hc1
            have HUK := Lib.hid huk
            have HUL := Lib.hid hul
            have h0 : ¬ ((k : Int) < 0) := by omega
            have h1 : (k : Int) < (d.nW : Int) := by omega
            clear hW hbl hc0 hc1 hxs hxa hcw hwant hxn hus huk hd hid hi hbk hwk
            go_wp2
            clear x0 x1
            go_cut [] from 44 to 72 (fun wc => TwI d w G gB gW ps (us.set k ⟨x.a, nilS⟩) wc ∧ Bk d.nB d.nB (wantB d) ps (w.heap.size + 2) wc ∧ Wk d.nW k (wantW d) us (w.heap.size + 2) wc)
            case first =>
              refine wp_region_held_drew (S := TwS d w G gB gW b (off + k * 2) (.int .i64 x.a)) (by kernel_rfl) HS0.out (fun hS => ?_)
              refine wpAnyH_take (i := 0) (v := ?_) rfl (by kernel_rfl) (by kernel_rfl) (by kernel_rfl) (fun _ _ _ h => h) (Or.inl ⟨by rfl, ?hyq⟩) hS ?_
              case hyq =>
                intro w hw
                go_simp
                try (with_reducible rfl)
              refine wpAnyH_take (i := 1) (v := ?_) rfl (by kernel_rfl) (by kernel_rfl) (by kernel_rfl) (fun _ _ _ h => h) (Or.inl ⟨by rfl, ?hyq⟩) hS ?_
              case hyq =>
                intro w hw
                obtain ⟨k0, k1⟩ := hw.y.cells
                go_simp
                try (with_reducible rfl)
              refine wpAnyH_take (i := 2) (v := ?_) rfl (by kernel_rfl) (by kernel_rfl) (by kernel_rfl) (fun _ _ _ h => h) (Or.inl ⟨by rfl, ?hyq⟩) hS ?_
              case hyq =>
                intro w hw
                go_simp
                try (with_reducible rfl)
              refine wpAnyH_take (i := 3) (v := ?_) rfl (by kernel_rfl) (by kernel_rfl) (by kernel_rfl) (fun _ _ _ h => h) (Or.inl ⟨by rfl, ?hyq⟩) hS ?_
              case hyq =>
                intro w hw
                go_simp
                try (with_reducible rfl)
              refine wpAnyH_take (i := 4) (v := ?_) rfl (by kernel_rfl) (by kernel_rfl) (by kernel_rfl) (fun _ _ _ h => h) (Or.inl ⟨by rfl, ?hyq⟩) hS ?_
              case hyq =>
                intro w hw
                obtain ⟨k0, k1⟩ := hw.x.cells
                rw [HW.out] at k1
                go_simp
                try (with_reducible rfl)
              refine wpAnyH_take (i := 5) (v := ?_) rfl (by kernel_rfl) (by kernel_rfl) (by kernel_rfl) (fun _ _ _ h => h) (Or.inl ⟨by rfl, ?hyq⟩) hS ?_
              case hyq =>
                intro w hw
                go_simp
                try (with_reducible rfl)
              refine wpAnyH_take (i := 6) (v := ?_) rfl (by kernel_rfl) (by kernel_rfl) (by kernel_rfl) (fun _ _ _ h => h) (Or.inl ⟨by rfl, ?hyq⟩) hS ?_
              case hyq =>
                intro w hw
                go_simp
                try (with_reducible rfl)
              refine wpAnyH_take (i := 7) (v := ?_) rfl (by kernel_rfl) (by kernel_rfl) (by kernel_rfl) (fun _ _ _ h => h) (Or.inl ⟨by rfl, ?hyq⟩) hS ?_
              case hyq =>
                intro w hw
                go_simp
                try (with_reducible rfl)
              refine wpAnyH_take (i := 8) (v := ?_) rfl (by kernel_rfl) (by kernel_rfl) (by kernel_rfl) (fun _ _ _ h => h) (Or.inl ⟨by rfl, ?hyq⟩) hS ?_
              case hyq =>
                intro w hw
                have k0 := hw.c
                go_simp
                try (with_reducible rfl)
              refine wpAnyH_take (i := 9) (v := ?_) rfl (by kernel_rfl) (by kernel_rfl) (by kernel_rfl) (fun _ _ _ h => h) (Or.inl ⟨by rfl, ?hyq⟩) hS ?_
              case hyq =>
                intro w hw
                go_simp
                try (with_reducible rfl)
              refine wpAnyH_take (i := 10) (v := ?_) rfl (by kernel_rfl) (by kernel_rfl) (by kernel_rfl) (fun _ _ _ h => h) (Or.inl ⟨by rfl, ?hyq⟩) hS ?_
              case hyq =>
                intro w hw
                go_simp
                try (with_reducible rfl)
              try go_simp
              refine wpAnyH_ready (rs := [11]) (by kernel_rfl) (by simp) ?_
              refine all_consH rfl (fun K hK => ?_) ?_
              · skip
                refine Stp.mk ?_
                obtain ⟨q1, q2⟩ := wcs_get HUL.out
                obtain ⟨m0, mf⟩ := HI.out.fw.cellG q1
                obtain ⟨cur, fz, hrow⟩ := HI.out.fw.cells_ gW (rowOf_some _ _ _ (by omega))
                have hI9 := HI.out.putW hlt (.int .i64 x.a) (us.set k ⟨x.a, nilS⟩) (by rw [wcs_set0 us k x.a HUL.out, HUK.out]; rfl)
                have hg9 := grown_setCell wr.drew ⟨gW, k * 2, none⟩ (.int .i64 x.a)
                have hK9 := HBK.out.grown hg9 (fun j hj => .inr (by cases hj; exact ⟨cur, fz, _, hrow, by decide⟩))
                have hW9 := HWK.out.grown hg9 (fun j hj => .inr (by cases hj; exact ⟨cur, fz, _, hrow, by decide⟩))
                have hSn : TwS d w G gB gW b (off + k * 2) (.int .i64 x.a) (wr.drew.setCell ⟨gW, k * 2, none⟩ (.int .i64 x.a)) := ⟨hI9.x, hI9.y, (World.cell?_setCell_other _ _ _ _ (by
                  intro e
                  injection e with e1 e2
                  have h1 := (HI.out.fw.row gW (rowOf_some _ _ _ (by omega))).1
                  have h2 := HBl.out
                  omega)).trans hS.c⟩
                clear hrow q1 q2 hg9
                go_simp
                clear m0 mf
                refine hK.out _ _ hSn (fun hS => ?_)
                clear hK K hSn
                refine wpAnyH_done (by kernel_rfl) ?_ _
                go_wp2
                go_meet
                case rel => exact ⟨hI9, hK9, hW9⟩
              exact AllReadyH.nil
            case rest =>
              obtain ⟨hi, hbk, hwk⟩ := hcut
              clear HI HBK HWK HS0
              have hd := (Below.refl wc.heap.size wc).drew
              have hid := hi.below hd
              have HS0 := Lib.hid (TwS.of hid HBl.out HC1.out)
              have HI := Lib.hid hid
              have HBK := Lib.hid (hbk.below hd)
              have HWK := Lib.hid (hwk.below hd)
              have HSC := Lib.hid (HXS.out.below hid.b)
              obtain ⟨us1, hus1⟩ : ∃ us1, us1 = us.set k ⟨x.a, nilS⟩ := ⟨_, rfl⟩
              have hl1 : k < us1.length := by rw [hus1, List.length_set]; exact HUL.out
              have hk1 : us1[k] = ⟨x.a, nilS⟩ := by simp [hus1]
              have hset : ∀ s', us1.set k ⟨x.a, s'⟩ = us.set k ⟨x.a, s'⟩ := fun s' => by rw [hus1, List.set_set]
              rw [← hus1] at HI
              have HL1 := Lib.hid hl1
              have HK1 := Lib.hid hk1
              have HSET := Lib.hid hset
              clear hd hid hi hbk hwk hus1 hk1 hset
              go_wp2
              refine wp_region_held_drew (S := TwS d w G gB gW b (off + k * 2 + 1) (.slice x.s.A x.s.n x.s.c)) (by kernel_rfl) HS0.out (fun hS => ?_)
              refine wpAnyH_take (i := 0) (v := ?_) rfl (by kernel_rfl) (by kernel_rfl) (by kernel_rfl) (fun _ _ _ h => h) (Or.inl ⟨by rfl, ?hyq⟩) hS ?_
              case hyq =>
                intro w hw
                go_simp
                try (with_reducible rfl)
              refine wpAnyH_take (i := 1) (v := ?_) rfl (by kernel_rfl) (by kernel_rfl) (by kernel_rfl) (fun _ _ _ h => h) (Or.inl ⟨by rfl, ?hyq⟩) hS ?_
              case hyq =>
                intro w hw
                obtain ⟨k0, k1⟩ := hw.y.cells
                go_simp
                try (with_reducible rfl)
              refine wpAnyH_take (i := 2) (v := ?_) rfl (by kernel_rfl) (by kernel_rfl) (by kernel_rfl) (fun _ _ _ h => h) (Or.inl ⟨by rfl, ?hyq⟩) hS ?_
              case hyq =>
                intro w hw
                go_simp
                try (with_reducible rfl)
              refine wpAnyH_take (i := 3) (v := ?_) rfl (by kernel_rfl) (by kernel_rfl) (by kernel_rfl) (fun _ _ _ h => h) (Or.inl ⟨by rfl, ?hyq⟩) hS ?_
              case hyq =>
                intro w hw
                go_simp
                try (with_reducible rfl)
              refine wpAnyH_take (i := 4) (v := ?_) rfl (by kernel_rfl) (by kernel_rfl) (by kernel_rfl) (fun _ _ _ h => h) (Or.inl ⟨by rfl, ?hyq⟩) hS ?_
              case hyq =>
                intro w hw
                obtain ⟨k0, k1⟩ := hw.y.cells
                go_simp
                try (with_reducible rfl)
              refine wpAnyH_take (i := 5) (v := ?_) rfl (by kernel_rfl) (by kernel_rfl) (by kernel_rfl) (fun _ _ _ h => h) (Or.inl ⟨by rfl, ?hyq⟩) hS ?_
              case hyq =>
                intro w hw
                go_simp
                try (with_reducible rfl)
              refine wpAnyH_take (i := 6) (v := ?_) rfl (by kernel_rfl) (by kernel_rfl) (by kernel_rfl) (fun _ _ _ h => h) (Or.inl ⟨by rfl, ?hyq⟩) hS ?_
              case hyq =>
                intro w hw
                go_simp
                try (with_reducible rfl)
              refine wpAnyH_take (i := 7) (v := ?_) rfl (by kernel_rfl) (by kernel_rfl) (by kernel_rfl) (fun _ _ _ h => h) (Or.inl ⟨by rfl, ?hyq⟩) hS ?_
              case hyq =>
                intro w hw
                go_simp
                try (with_reducible rfl)
              refine wpAnyH_take (i := 9) (v := ?_) rfl (by kernel_rfl) (by kernel_rfl) (by kernel_rfl) (fun _ _ _ h => h) (Or.inl ⟨by rfl, ?hyq⟩) hS ?_
              case hyq =>
                intro w hw
                go_simp
                try (with_reducible rfl)
              refine wpAnyH_take (i := 10) (v := ?_) rfl (by kernel_rfl) (by kernel_rfl) (by kernel_rfl) (fun _ _ _ h => h) (Or.inl ⟨by rfl, ?hyq⟩) hS ?_
              case hyq =>
                intro w hw
                obtain ⟨k0, k1⟩ := hw.x.cells
                rw [HW.out] at k1
                go_simp
                try (with_reducible rfl)
              refine wpAnyH_take (i := 11) (v := ?_) rfl (by kernel_rfl) (by kernel_rfl) (by kernel_rfl) (fun _ _ _ h => h) (Or.inl ⟨by rfl, ?hyq⟩) hS ?_
              case hyq =>
                intro w hw
                go_simp
                try (with_reducible rfl)
              refine wpAnyH_take (i := 12) (v := ?_) rfl (by kernel_rfl) (by kernel_rfl) (by kernel_rfl) (fun _ _ _ h => h) (Or.inl ⟨by rfl, ?hyq⟩) hS ?_
              case hyq =>
                intro w hw
                go_simp
                try (with_reducible rfl)
              refine wpAnyH_take (i := 13) (v := ?_) rfl (by kernel_rfl) (by kernel_rfl) (by kernel_rfl) (fun _ _ _ h => h) (Or.inl ⟨by rfl, ?hyq⟩) hS ?_
              case hyq =>
                intro w hw
                go_simp
                try (with_reducible rfl)
              refine wpAnyH_take (i := 14) (v := ?_) rfl (by kernel_rfl) (by kernel_rfl) (by kernel_rfl) (fun _ _ _ h => h) (Or.inl ⟨by rfl, ?hyq⟩) hS ?_
              case hyq =>
                intro w hw
                have k0 := hw.c
                go_simp
                try (with_reducible rfl)
              try go_simp
              refine wpAnyH_ready (rs := [8]) (by kernel_rfl) (by simp) ?_
              refine all_consH rfl (fun K hK => ?_) ?_
              · skip
                refine Stp.mk ?_
                obtain ⟨q1, q2⟩ := wcs_get HL1.out
                rw [HK1.out] at q2
                obtain ⟨m0, mf⟩ := HI.out.fw.cellG q2
                simp only [nilS, Sl.v] at m0
                go_simp
                have hSn := hS
                clear m0 mf q1 q2
                refine hK.out _ _ hSn (fun hS => ?_)
                clear hK K hSn
                try go_simp
                refine wpAnyH_ready (rs := [15]) (by kernel_rfl) (by simp) ?_
                refine all_consH rfl (fun K hK => ?_) ?_
                · skip
                  refine stp_append_to (c := 0) (c' := x.s.c) (base := wc.drew.heap.size) rfl (.tmp 63) (.tmp 69) rfl okB (by simp [Act.eval, Act.put]) (Fr.none_) (by simp [Act.eval, Act.put]) HSC.out.2.1 (bvs_one _) x.s.n (by omega) (bvs x.s.l) rfl (by have := HXN.out; unfold maxLen; omega) (by have := HXN.out; omega) (Nat.le_refl _) ?_
                  intro D dd w5 f5 g5
                  have hb5 := grown_below (B := wc.drew.heap.size) g5.out (Nat.le_refl _) (fun j hj => by rw [rowOf_zero] at hj; cases hj)
                  have hSn : TwS d w G gB gW b (off + k * 2 + 1) (.slice x.s.A x.s.n x.s.c) w5 := ⟨hS.x.below hb5 hS.x.lt, hS.y.below hb5 hS.y.lt, (hb5.cell (p := ⟨b, off + k * 2 + 1, none⟩) (World.block_lt_of_cell? _ _ hS.c)).trans hS.c⟩
                  have HNC := Lib.hid f5.out.cameS
                  have HNO := Lib.hid (f5.out.ownS.mono (by have := HI.out.y.lt; have := (HI.out.fw.row gW (rowOf_some _ _ _ (by omega))); omega : w.heap.size + 2 ≤ wc.drew.heap.size))
                  have HAP9 := Lib.hid (HAP.out.stepW (V := wc.drew) (x := ⟨x.a, ⟨D, x.s.n, dd, x.s.l⟩⟩) (fun t ht => (HBK.out.own t ht).1) f5.out.ownS k)
                  replace HI := Lib.hid (HI.out.below hb5)
                  replace HBK := Lib.hid (HBK.out.below hb5)
                  replace HWK := Lib.hid (HWK.out.below hb5)
                  clear f5 g5 hb5
                  refine hK.out _ _ hSn (fun hS => ?_)
                  clear hK K hSn
                  refine wpAnyH_take (i := 16) (v := ?_) rfl (by kernel_rfl) (by kernel_rfl) (by kernel_rfl) (fun _ _ _ h => h) (Or.inl ⟨by rfl, ?hyq⟩) hS ?_
                  case hyq =>
                    intro w hw
                    go_simp
                    try (with_reducible rfl)
                  refine wpAnyH_take (i := 17) (v := ?_) rfl (by kernel_rfl) (by kernel_rfl) (by kernel_rfl) (fun _ _ _ h => h) (Or.inl ⟨by rfl, ?hyq⟩) hS ?_
                  case hyq =>
                    intro w hw
                    go_simp
                    try (with_reducible rfl)
                  try go_simp
                  refine wpAnyH_ready (rs := [18]) (by kernel_rfl) (by simp) ?_
                  refine all_consH rfl (fun K hK => ?_) ?_
                  · skip
                    refine Stp.mk ?_
                    obtain ⟨q1, q2⟩ := wcs_get HL1.out
                    rw [HK1.out] at q2
                    obtain ⟨m0, mf⟩ := HI.out.fw.cellG q2
                    simp only [nilS, Sl.v] at m0
                    obtain ⟨cur, fz, hrow⟩ := HI.out.fw.cells_ gW (rowOf_some _ _ _ (by omega))
                    have hI9 := HI.out.putW hlt (Sl.v ⟨D, x.s.n, dd, x.s.l⟩) (us.set k ⟨x.a, ⟨D, x.s.n, dd, x.s.l⟩⟩) (by rw [wcs_set1 us1 k _ HL1.out, HK1.out]; exact congrArg wcs (HSET.out _))
                    have hg9 := grown_setCell w5 ⟨gW, k * 2 + 1, none⟩ (Sl.v ⟨D, x.s.n, dd, x.s.l⟩)
                    have hK9 := HBK.out.grown hg9 (fun j hj => .inr (by cases hj; exact ⟨cur, fz, _, hrow, by decide⟩))
                    have hW9 := (HWK.out.step hlt (x := ⟨x.a, ⟨D, x.s.n, dd, x.s.l⟩⟩) HNC.out HNO.out HXA.out HWANT.out).grown hg9 (fun j hj => .inr (by cases hj; exact ⟨cur, fz, _, hrow, by decide⟩))
                    have hSn : TwS d w G gB gW b (off + k * 2 + 1) (.slice x.s.A x.s.n x.s.c) (w5.setCell ⟨gW, k * 2 + 1, none⟩ (Sl.v ⟨D, x.s.n, dd, x.s.l⟩)) := ⟨hI9.x, hI9.y, (World.cell?_setCell_other _ _ _ _ (by
                      intro e
                      injection e with e1 e2
                      have h1 := (HI.out.fw.row gW (rowOf_some _ _ _ (by omega))).1
                      have h2 := HBl.out
                      omega)).trans hS.c⟩
                    have HI9 := Lib.hid hI9
                    have HK9 := Lib.hid hK9
                    have HW9 := Lib.hid hW9
                    clear hrow q1 q2 hg9 hI9 hK9 hW9
                    unfold Sl.v at hSn HI9 HK9 HW9
                    go_simp
                    clear m0 mf
                    refine hK.out _ _ hSn (fun hS => ?_)
                    clear hK K hSn
                    refine wpAnyH_done (by kernel_rfl) ?_ _
                    clear HI HBK HWK
                    go_wp2
                    go_roundw
                    case rel => exact ⟨k + 1, _, by omega, by simp, HI9.out, HK9.out, HW9.out, HAP9.out⟩
                    case measure => simp [intOf]; omega
                  exact AllReadyH.nil
                exact AllReadyH.nil
              exact AllReadyH.nil
          · obtain rfl : k = d.nW := by omega
            have hcc : Dk.c ⟨some ⟨gB, 0, none⟩, d.nB, d.nB, ps, some ⟨gW, 0, none⟩, d.nW, d.nW, us⟩ = d.c := by
              unfold Dk.c
              simp only [hbk.vals, hwk.vals]
              congr 1
              · rw [← hlb]
                exact range_getD d.bs nilS Sl.l
              · rw [← hlw]
                exact range_getD d.ws nilW Wt.c
            have hnw : Nw d.c w.heap.size ⟨some ⟨gB, 0, none⟩, d.nB, d.nB, ps, some ⟨gW, 0, none⟩, d.nW, d.nW, us⟩ wr :=
              ⟨⟨hbk.len, hi.fb.rd, fun s hs => (hbk.own s hs).1, hwk.len, hi.fw.rd, fun x hx => ⟨(hwk.own x hx).1, (hwk.own x hx).2.2⟩, ⟨hi.fb.nc, hi.fb.cm⟩, ⟨hi.fw.nc, hi.fw.cm⟩⟩, hcc, hi.fb.mono (by omega), hi.fw.mono (by omega), fun s hs => (hbk.own s hs).2.mono (by omega), fun x hx => (hwk.own x hx).2.1.mono (by omega)⟩
            have hn1 := (hnw.grown_box (grown_setCell _ ⟨w.heap.size + 1, 0, none⟩ (.slice (some ⟨gB, 0, none⟩) d.nB d.nB)) hi.r).grown_box (grown_setCell _ ⟨w.heap.size + 1, 1, none⟩ (.slice (some ⟨gW, 0, none⟩) d.nW d.nW)) (hi.r.put0 _)
            have hb1 := (hi.b.setCell (p := ⟨w.heap.size + 1, 0, none⟩) (Nat.le_succ _) (.slice (some ⟨gB, 0, none⟩) d.nB d.nB)).setCell (p := ⟨w.heap.size + 1, 1, none⟩) (Nat.le_succ _) (.slice (some ⟨gW, 0, none⟩) d.nW d.nW)
            have hz := (hi.r.put0 (.slice (some ⟨gB, 0, none⟩) d.nB d.nB)).put1 (.slice (some ⟨gW, 0, none⟩) d.nW d.nW)
            obtain ⟨y0, y1⟩ := hi.y.cells
            obtain ⟨r0, r1⟩ := hi.r.cells
            have rf := hi.r.frozen
            obtain ⟨z0, z1⟩ := hz.cells
            have HN1 := Lib.hid hn1
            have HB1 := Lib.hid hb1
            clear hcc hnw hn1 hb1 hz hi hbk hwk
            go_wp2
            refine bodyPost_ret (v := .agg #[.slice (some ⟨gB, 0, none⟩) d.nB d.nB, .slice (some ⟨gW, 0, none⟩) d.nW d.nW]) (by simp [results, Try.results13, go_sem, z0, z1]) rfl ?_
            exact ⟨⟨_, _, _, _, _, _, _, _⟩, rfl, HN1.out, HB1.out, HAP.out⟩
theorem r_twin (d : Dk) (w : World) (hd : d.ok w) (hB6 : (d.nB : Int) ≤ 1000000) (hW6 : (d.nW : Int) ≤ 1000000) (hs6 : ∀ s ∈ d.bs, (s.n : Int) ≤ 1000000000) (hx6 : ∀ x ∈ d.ws, (x.s.n : Int) ≤ 1000000000) :
    Calls Try.prog 13 #[d.v] w fun e w' => ∃ d' : Dk, e = .returned (.agg #[.slice d'.A d'.nB d'.cB, .slice d'.W d'.nW d'.cW]) ∧ Nw d.c w.heap.size d' w' ∧ Below w.heap.size w w' :=
  (r_twinA d w hd hB6 hW6 hs6 hx6).mono fun e w' ⟨d', h1, h2, h3, _⟩ => ⟨d', h1, h2, h3⟩
end Go.Proofs.Ytkaklppkmokffaa
