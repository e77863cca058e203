/-
  Worlds that keep what is not the call's own; a region that draws its order inside a round: by the rules for no fence at all.
-/
import Derived.Test.YtgcagenhfddpgaaStp
import Derived.Sort.CutIn
import Derived.RangeFuncFrom
import Derived.RangeFuncCalls
import Derived.RangeFuncBox
namespace Go.Proofs.Ytgcagenhfddpgaa
open Go.RowKit
set_option linter.unusedVariables false
set_option linter.unusedSimpArgs false
set_option maxRecDepth 100000

theorem keeps_of_below {W W' : World} (h : Below W.heap.size W W') : KeepsOthers W W' := ⟨h.size, fun i o hi _ => (h.block i (Array.getElem?_eq_some_iff.1 hi).1).trans hi⟩
theorem Fr.cells_ {w : World} {base sz n c : Nat} {e : TypeId} {A : Option Addr} {xs : List Value} (h : Fr w base e sz A n c xs) : ∀ g, rowOf A c = some g → ∃ cur fz, w.heap[g]? = some (.cells cur e fz) := by
  intro g hg
  rcases h.2.2.2 with rfl | ⟨g', cur, fz, rfl, hb, hh, _⟩
  · simp [rowOf] at hg
  · have : g' = g := by
      unfold rowOf at hg
      split at hg
      · cases hg
      · simpa using hg
    subst this
    exact ⟨cur, fz, hh⟩
theorem Fr.keeps {w w' : World} {base sz n c : Nat} {e : TypeId} {A : Option Addr} {xs : List Value} (h : Fr w base e sz A n c xs) (hg : w.grownBy w' (rowOf A c)) : KeepsOthers w w' :=
  KeepsOthers.of_grownBy hg (fun j o hj ho => by
    obtain ⟨cur, fz, hc⟩ := h.cells_ j hj
    rw [hc] at ho
    cases ho
    rfl)
theorem Fr.own {w w' : World} {base sz n c : Nat} {e : TypeId} {A : Option Addr} {xs : List Value} {row : Option Nat} (h : Fr w base e sz A n c xs) (hg : w.grownBy w' row) (hr : ∀ r, row = some r → ∃ o : Obj, w.heap[r]? = some o ∧ o.isCells = false) : Fr w' base e sz A n c xs := by
  refine h.kept hg ?_
  by_cases hn : rowOf A c = none
  · exact .inl hn
  · refine .inr fun e' => ?_
    obtain ⟨g, hg'⟩ := Option.ne_none_iff_exists'.1 hn
    obtain ⟨cur, fz, hc⟩ := h.cells_ g hg'
    obtain ⟨o, ho, hoc⟩ := hr g (by rw [← e', hg'])
    rw [hc] at ho
    cases ho
    cases hoc
theorem block_own {w w' : World} {row : Option Nat} {g : Nat} {cur : Array Value} {t : TypeId} {fz : Nat × Nat} (h : w.heap[g]? = some (.cells cur t fz)) (hg : w.grownBy w' row) (hr : ∀ r, row = some r → ∃ o : Obj, w.heap[r]? = some o ∧ o.isCells = false) : w'.heap[g]? = some (.cells cur t fz) :=
  (hg.block g (Array.getElem?_eq_some_iff.1 h).1 (fun e => by
    obtain ⟨o, ho, hoc⟩ := hr g e.symm
    rw [h] at ho
    cases ho
    cases hoc)).trans h


/-- A row is in no block of another kind of cells. -/
theorem fr_ne {w : World} {base base' sz sz' n c n' c' : Nat} {e e' : TypeId} {A A' : Option Addr} {xs ys : List Value} (h : Fr w base e sz A n c xs) (h' : Fr w base' e' sz' A' n' c' ys) (hne : e ≠ e') : rowOf A c = none ∨ rowOf A c ≠ rowOf A' c' := by
  by_cases hn : rowOf A c = none
  · exact .inl hn
  · refine .inr fun e1 => ?_
    obtain ⟨g, hg⟩ := Option.ne_none_iff_exists'.1 hn
    obtain ⟨cur, fz, hc⟩ := h.cells_ g hg
    obtain ⟨cur', fz', hc'⟩ := h'.cells_ g (by rw [← e1, hg])
    rw [hc] at hc'
    cases hc'
    exact hne rfl
theorem Boxed.low {W W' : World} {B H : Nat} {t : TypeId} {v : Value} (h : Boxed W B t v) (hb : Below H W W') (hB : B < H) : Boxed W' B t v := (hb.block B hB).trans h
theorem Boxed.lt_ {W : World} {B : Nat} {t : TypeId} {v : Value} (h : Boxed W B t v) : B < W.heap.size := (Array.getElem?_eq_some_iff.1 h).1

/-! ### a region inside a round -/
section
variable {P : Program} {l n : Nat} {md : Region.Mode} {ops : Array Oper} {Q : Exit → Act → World → Prop}
theorem rowsIn_round {row : String} {args : Array Value} {w : World} {R : Value → World → Prop} (h : Rows P row args w R) : RowsIn (Fence.wide.inRound l) n P row args w R := by
  intro c cs _
  obtain ⟨v, w', r, s⟩ := h c cs
  exact ⟨v, w', r, by rw [fenced_inRound]; exact stepsIn_wide.2 s⟩
theorem operIn_round {o : Oper} {a : Act} {w : World} {K : Act → World → Prop} (hd : ∀ c, o.op ≠ .defer c) (h : o.wp P a w K Q) : o.wpIn (Fence.wide.inRound l) n P a w K Q := by
  refine ⟨fun f _ => trivial, ?_⟩
  rw [Oper.semAt_plain _ _ _ hd]
  unfold Oper.wp at h
  generalize (execOp a.eval o).run P w = r at *
  cases r with
  | ok x w' =>
    cases x with
    | value v => exact h
    | skip => exact h
    | defer d => exact h
    | enter f args => exact ⟨fun h' => (by simp [Fence.wide, Fence.inRound] at h'), CallsIn.mono (CallsIn.inRound l (callsIn_wide.2 (show Calls P f args w' _ from h))) (fun e w'' he => by cases e <;> exact he)⟩
    | row rw args => exact ⟨fun h' => (by simp [Fence.wide, Fence.inRound] at h'), rowsIn_round h⟩
    | _ => exact False.elim h
  | halt x w' => cases x <;> exact h
theorem opIn_round {i : Nat} {a : Act} {w : World} {K : Act → World → Prop} (ho : ∀ a w, ¬ Q .outgrown a w) (hd : ∀ (j : Nat) (o : Oper), ops[j]? = some o → ∀ c, o.op ≠ .defer c) (h : wpOp P ops Q i K a w) : wpOpIn (Fence.wide.inRound l) n P ops Q i K a w := by
  unfold wpOp at h
  unfold wpOpIn
  split
  · exact (by simpa [*] using h)
  · rename_i o ho'
    simp only [ho'] at h
    split
    · rename_i hw
      simp only [hw, if_true] at h
      exact operIn_round (hd i o ho') (h.resolve_right fun h' => by obtain ⟨_, a, w, hq⟩ := h'; exact ho a w hq)
    · rename_i hw
      simp only [hw] at h
      exact ⟨fun f _ => trivial, h⟩
theorem anyIn_round (ho : ∀ a w, ¬ Q .outgrown a w) (hd : ∀ (j : Nat) (o : Oper), ops[j]? = some o → ∀ c, o.op ≠ .defer c) : ∀ (fuel : Nat) (listed : Array Bool) (a : Act) (w : World), wpAny P md ops Q fuel listed a w → wpAnyIn (Fence.wide.inRound l) n P md ops Q fuel listed a w
  | 0, _, _, _, h => h
  | fuel + 1, _, _, _, h => ⟨h.1, fun i hi => wpOpIn_mono (fun a' w' h' => anyIn_round ho hd fuel _ a' w' h') (opIn_round ho hd (h.2 i hi))⟩
/-- No operation defers a call. -/
def noDefer (ops : Array Oper) : Bool := ops.toList.all fun o => match o.op with | .defer _ => false | _ => true
theorem noDefer_at (h : noDefer ops = true) (j : Nat) (o : Oper) (ho : ops[j]? = some o) : ∀ c, o.op ≠ .defer c := by
  intro c e
  have hm : o ∈ ops.toList := Array.mem_toList_iff.2 (Array.mem_of_getElem? ho)
  have := List.all_eq_true.1 h o hm
  rw [e] at this
  cases this
/-- A region inside a round, reads first under a condition that every step keeps. -/
theorem regionIn_held {id : Nat} {a : Act} {w : World} {S : World → Prop} (hm : P.follows .mixedOrders = true) (ho : ∀ a w, ¬ Q .outgrown a w) (hd : noDefer ops = true) (h0 : S w.drew)
    (h : S w.drew → wpAnyH P .any ops Q S ops.size (Array.replicate ops.size false) a w.drew) : (Code.region id ops true).wpIn (Fence.wide.inRound l) n P Q a w :=
  wpIn_region_any hm (anyIn_round ho (noDefer_at hd) _ _ _ _ (wpAny_of_held _ _ _ _ (h h0)))
theorem stp_run {o : Oper} {a : Act} {w : World} {K : Act → World → Prop} {E : Prop} (hgd : o.guard = none) {v : Value} {w' : World} (hr : (execOp a.eval o).run P w = .ok (.value v) w') (hK : K (a.put o.dst v) w') : Stp P ops o a w K Q E := by
  have hw : Region.wanted o (yielded ops a.tmps) = true := by simp [Region.wanted, hgd]
  refine ⟨?_⟩
  rw [if_pos hw]
  unfold Oper.wp
  rw [hr]
  exact hK
/-- A region that goes on to its end alone (needed where the function bears a mark: there a panic's post is not blind for the frame). -/
def NormalOnly (Q : Exit → Act → World → Prop) : Exit → Act → World → Prop
  | .normal, a, w => Q .normal a w
  | _, _, _ => False
theorem wp_of_normal {c : Code} {a : Act} {w : World} (h : c.wp P (NormalOnly Q) a w) : c.wp P Q a w := wp_mono h fun e a w h => by
  cases e <;> first | exact h | exact h.elim
theorem normal_in {a : Act} {w : World} (h : Q .normal a w) : NormalOnly Q .normal a w := h
end
end Go.Proofs.Ytgcagenhfddpgaa
