/-
  'for x := range f' where the body needs a fact of what is handed to it (the row that f has just made), and where f itself never ends: the caller's invariant bounds the rounds. A law over the kit's own law of the statement ('wpIn_rangeFunc'), of the make of its fourth law; no statement of the program stands here.
-/
import Derived.Test.YtfjjkkakhfgdhaaBase
import Derived.RangeFuncFrom
import Derived.RangeFuncNested
namespace Go.Proofs.Ytfjjkkakhfgdhaa
open Go.RowKit

section
variable {F : Fence} {n : Nat} {P : Program}
/-- What an endless iterator promises: it calls its yield again and again, each time with an x that meets G, until it is told to stop. -/
def Endless {α : Type} (F : Fence) (n : Nat) (P : Program) (gf : Nat) (lb : Array Value) (encs : α → Array Value) (Kp : World → World → Prop) (G : Nat → α → World → Prop) (N : Nat) (w0 : World) : Prop :=
  ∀ (l : Nat) (J Jx : List α → World → Prop) (W : World), Below w0.heap.size w0 W → AbidesFrom W.heap.size J → (∀ pre W', J pre W' → pre.length < N) →
    (∀ pre x W1, J pre W1 → G pre.length x W1 → YieldAt F (n - 1) P l (encs x) W1 fun e W' => (e = .returned (.bool true) ∧ J (pre ++ [x]) W' ∧ Kp W1 W') ∨ (e = .returned (.bool false) ∧ Jx (pre ++ [x]) W')) →
    J [] W → CallsIn F n P gf (#[.func (.yield l) #[] #[]] ++ lb) W fun e W' => (∃ v, e = .returned v) ∧ ∃ pre, Jx pre W'

theorem range_endless {α : Type} {g : Operand} {ps : Array Tmp} {assign body : Code} {Q : Exit → Act → World → Prop} {a : Act} {w : World}
    (hro : F.round = none) (h1 : 1 ≤ n) {gf : Nat} {lb : Array Value} (hg : a.eval g = .func (.func gf) #[] lb) (hFg : F.fn gf) (eg : ∀ args w, (callFunc gf args).run P w = .ok (.enter gf args) w)
    {encs : α → Array Value} {Kp : World → World → Prop} {G : Nat → α → World → Prop} {N : Nat} {w0 : World} (hseq : Endless F (n - 1) P gf lb encs Kp G N w0)
    (hKt : ∀ {A B C : World}, Kp A B → Kp B C → Kp A C) (hKb : ∀ (W : World) (l : Nat) (o o' : Obj), w.heap.size ≤ l → W.heap[l]? = some o → o.isCells = false → Kp W (W.putObj l o'))
    (hG : ∀ (k : Nat) (x : α) (W : World) (l : Nat) (o o' : Obj), W.heap[l]? = some o → o.isCells = false → G k x W → G k x (W.putObj l o')) (hb0 : Below w0.heap.size w0 w) (hps : ∀ x, (encs x).size = ps.size)
    (I : List α → World → Prop) (Ix : Code → List α → World → Prop) (hI : OwnFrom w.heap.size I) (hIx : ∀ c, OwnFrom w.heap.size (Ix c)) (h0 : I [] w) (hN : ∀ pre W, I pre W → pre.length < N) (a₁ : α → Act)
    (hassign : ∀ (l : Nat) (x : α) (W : World) (K : Act → World → Prop), K (a₁ x) W →
      assign.wpIn (F.inRound l) (n - 1 - 1) P (Exit.then K (fun _ _ _ => False)) { tmps := (ps.zip (encs x)).foldl (fun t (p, v) => t.setIfInBounds p v) a.tmps, defers := [] } W)
    (hbody : ∀ (l : Nat) (pre : List α) (x : α) (W : World), I pre W → G pre.length x W → body.wpIn (F.inRound l) (n - 1 - 1) P (ownPostK Kp I Ix (pre ++ [x]) W) (a₁ x) W)
    (hstop : ∀ (D : Nat) (c : Code) (pre : List α) (W : World), w.heap.size ≤ D → Ix c pre W → W.heap[D]? = some (.deferred (some [])) → c.wpIn F n P Q { a with defers := { target := .collected D, args := #[] } :: a.defers } W) :
    (Code.rangeFunc g ps assign body).wpIn F n P Q a w := by
  refine wpIn_rangeFunc fun fn hfn => ?_
  rw [hro]
  -- the record of the loop, and its two blocks
  let rec_ : LoopState → Option Code → Loop := fun st pe => { state := st, pending := pe, fn, tmps := a.tmps, params := ps, assign, body, defers := w.heap.size }
  have sz : ((w.alloc (.deferred (some []))).alloc (.loop (rec_ .ready none))).heap.size = w.heap.size + 2 := by rw [World.size_alloc, World.size_alloc]
  have lp : ((w.alloc (.deferred (some []))).alloc (.loop (rec_ .ready none))).heap[w.heap.size + 1]? = some (.loop (rec_ .ready none)) := by
    have := World.alloc_heap_new (w.alloc (.deferred (some []))) (.loop (rec_ .ready none))
    rwa [World.size_alloc] at this
  have df : ((w.alloc (.deferred (some []))).alloc (.loop (rec_ .ready none))).heap[w.heap.size]? = some (.deferred (some [])) :=
    (Below.heap_alloc _ _ _ (by rw [World.size_alloc]; omega)).trans (World.alloc_heap_new w _)
  have bl : Below w0.heap.size w0 ((w.alloc (.deferred (some []))).alloc (.loop (rec_ .ready none))) :=
    hb0.trans ((((Below.refl _ w).alloc (Nat.le_refl _) _).alloc (by rw [World.size_alloc]; omega) _).mono hb0.size)
  have st : I [] ((w.alloc (.deferred (some []))).alloc (.loop (rec_ .ready none))) := hI.alloc _ (hI.alloc _ h0)
  have en : (Instr.enterLoop fn a.tmps ps assign body none).run P w = .ok (w.heap.size + 1, [{ target := .collected w.heap.size, args := #[] }]) ((w.alloc (.deferred (some []))).alloc (.loop (rec_ .ready none))) := run_enterLoop_outer _ _ _ _ _
  generalize (w.alloc (.deferred (some []))).alloc (.loop (rec_ .ready none)) = V0 at *
  refine ⟨w.heap.size + 1, [{ target := .collected w.heap.size, args := #[] }], V0, { target := .fn (.func gf) lb, args := #[.func (.yield (w.heap.size + 1)) #[] #[]] }, V0, gf,
    #[.func (.yield (w.heap.size + 1)) #[] #[]] ++ lb, V0, en, ?_, ?_, ?_, fun _ => h1, ?_⟩
  · simp only [resolve, hg]
    simp [go_sem]
  · intro f' hf'
    simp [Target.leads] at hf'
    subst hf'
    exact hFg
  · simp [invoke, go_sem, eg]
  · refine (hseq (w.heap.size + 1)
      (fun pre W => I pre W ∧ W.heap[w.heap.size + 1]? = some (.loop (rec_ .ready none)) ∧ W.heap[w.heap.size]? = some (.deferred (some [])))
      (fun pre W => ∃ c, Ix c pre W ∧ W.heap[w.heap.size + 1]? = some (.loop (rec_ .done (some c))) ∧ W.heap[w.heap.size]? = some (.deferred (some [])))
      V0 bl ?_ (fun pre W h => hN pre W h.1) ?_ ⟨st, lp, df⟩).mono ?_
    · intro s A B row hs hgr hr
      have hr' : ∀ r, row = some r → ∃ o : Obj, A.heap[r]? = some o ∧ o.isWalk = true := fun r e => (hr r e).2
      refine ⟨hI s A B row hs.1 hgr (fun r e => ?_), (grownBy_keeps hgr hr' hs.2.1 rfl).trans hs.2.1, (grownBy_keeps hgr hr' hs.2.2 rfl).trans hs.2.2⟩
      obtain ⟨hB, o, ho, hw⟩ := hr r e
      rw [sz] at hB
      exact ⟨by omega, o, ho, Obj.not_cells_of_walk hw⟩
    · rintro pre x W ⟨hi, hl, hk⟩ hgx
      have hlt : w.heap.size + 1 < W.heap.size := (Array.getElem?_eq_some_iff.1 hl).1
      have hy := run_yield (P := P) (args := encs x) hl (hps x)
      refine ⟨fn, _, assign, body, hy, roundIn_of_wpIn hfn (hassign _ x W _ ⟨_, run_beginRound hl rfl, ?_⟩)⟩
      have hl2 : (W.putObj (w.heap.size + 1) (.loop { rec_ .ready none with state := .busy })).heap[w.heap.size + 1]? = some (.loop { rec_ .ready none with state := .busy }) := World.putObj_heap_same hlt
      have hk2 : (W.putObj (w.heap.size + 1) (.loop { rec_ .ready none with state := .busy })).heap[w.heap.size]? = some (.deferred (some [])) := (World.putObj_heap_other (by omega)).trans hk
      have hw2 : Kp W (W.putObj (w.heap.size + 1) (.loop { rec_ .ready none with state := .busy })) := hKb _ _ _ _ (by omega) hl rfl
      have hg2 := hG pre.length x W (w.heap.size + 1) _ (.loop { rec_ .ready none with state := .busy }) hl rfl hgx
      refine wpIn_mono (hbody _ pre x _ (hI.putObj _ hi (by omega) hl rfl) hg2) ?_
      -- the round's end, however it is left
      have fin : ∀ (jump : Option Code) (V : World), KeepsOthers (W.putObj (w.heap.size + 1) (.loop { rec_ .ready none with state := .busy })) V →
          (Instr.endRound (w.heap.size + 1) jump).run P V = .ok (.bool jump.isNone) (V.putObj (w.heap.size + 1) (.loop (rec_ (if jump.isNone then .ready else .done) jump))) ∧
          V.heap[w.heap.size + 1]? = some (.loop { rec_ .ready none with state := .busy }) ∧
          (V.putObj (w.heap.size + 1) (.loop (rec_ (if jump.isNone then .ready else .done) jump))).heap[w.heap.size + 1]? = some (.loop (rec_ (if jump.isNone then .ready else .done) jump)) ∧
          (V.putObj (w.heap.size + 1) (.loop (rec_ (if jump.isNone then .ready else .done) jump))).heap[w.heap.size]? = some (.deferred (some [])) := fun jump V hkV => by
        have hlV := hkV.same _ _ hl2 rfl
        exact ⟨run_endRound (P := P) jump hlV, hlV, World.putObj_heap_same (Array.getElem?_eq_some_iff.1 hlV).1, (World.putObj_heap_other (by omega)).trans (hkV.same _ _ hk2 rfl)⟩
      intro e a3 V hp
      cases e with
      | normal =>
        obtain ⟨hkV, hkp, hiV⟩ := hp
        obtain ⟨hr, hlV, hl4, hk4⟩ := fin none V hkV
        exact ⟨_, _, hr, .inl ⟨rfl, ⟨hI.putObj _ hiV (by omega) hlV rfl, hl4, hk4⟩, hKt (hKt hw2 hkp) (hKb _ _ _ _ (by omega) hlV rfl)⟩⟩
      | ret =>
        obtain ⟨hr, hlV, hl4, hk4⟩ := fin (some .ret) V hp.1
        exact ⟨_, _, hr, .inr ⟨rfl, .ret, (hIx _).putObj _ hp.2 (by omega) hlV rfl, hl4, hk4⟩⟩
      | exit id =>
        obtain ⟨hr, hlV, hl4, hk4⟩ := fin (some (.exit id)) V hp.1
        exact ⟨_, _, hr, .inr ⟨rfl, .exit id, (hIx _).putObj _ hp.2 (by omega) hlV rfl, hl4, hk4⟩⟩
      | goto t =>
        obtain ⟨hr, hlV, hl4, hk4⟩ := fin (some (.goto t)) V hp.1
        exact ⟨_, _, hr, .inr ⟨rfl, .goto t, (hIx _).putObj _ hp.2 (by omega) hlV rfl, hl4, hk4⟩⟩
      | panic ch => exact hp.elim
      | outgrown => exact hp.elim
    · rintro e V ⟨⟨v, rfl⟩, pre, c, hi, hl, hk⟩
      exact ⟨some c, _, run_endLoop (P := P) hl (by simp [rec_]), hstop _ c pre _ (Nat.le_refl _) ((hIx c).putObj _ hi (by omega) hl rfl) ((World.putObj_heap_other (by omega)).trans hk)⟩
end
end Go.Proofs.Ytfjjkkakhfgdhaa
