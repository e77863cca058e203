/-
  The map of the last writes, and what its entries do to the blocks.
-/
import Derived.Test.YtkaklppkmokffaaDevB
namespace Go.Proofs.Ytkaklppkmokffaa
open Go.RowKit
set_option linter.unusedVariables false
set_option linter.unusedSimpArgs false
set_option maxRecDepth 100000

abbrev WH := Int × Option Addr × Nat × Nat
def Wt.h (x : Wt) : WH := (x.a, x.s.A, x.s.n, x.s.c)
def whV (h : WH) : Value := .agg #[.int .i64 h.1, .slice h.2.1 h.2.2.1 h.2.2.2]
def RL : List Value → Option WH
  | [.int .i64 a, .slice A n c] => some (a, A, n, c)
  | _ => none
def RW : Value → Option (DataW WH × List MemPlace)
  | .agg cs => (RL cs.toList).map fun h => (.held h, [])
  | _ => none
theorem RW_v (x : Wt) : RW x.v = some (.held x.h, []) := rfl
theorem RL_inv {l : List Value} {c : WH} (h : RL l = some c) : l = [.int .i64 c.1, .slice c.2.1 c.2.2.1 c.2.2.2] := by
  unfold RL at h
  split at h
  · cases h; rfl
  · cases h
theorem RW_inv {v : Value} {y : DataW WH × List MemPlace} (h : RW v = some y) : ∃ c, v = whV c ∧ y = (.held c, []) := by
  cases v <;> simp only [RW, reduceCtorEq] at h
  rename_i cs
  cases hc : RL cs.toList with
  | none => rw [hc] at h; cases h
  | some c =>
    rw [hc] at h
    simp only [Option.map_some, Option.some.injEq] at h
    refine ⟨c, ?_, h.symm⟩
    have := RL_inv hc
    obtain ⟨l⟩ := cs
    simp only at this
    rw [this]
    rfl
theorem keyI : Maps.Keyed Try.prog 3 := Maps.int_keyed Try.underlying3
theorem wf64 {a : Int} (h : I64 a) : (Lit.int .i64 a).wf = true :=
  WalkArith.wf_i64 h
theorem keyOf64 {a : Int} (h : I64 a) : keyOf Try.prog 3 (.int .i64 a) = some (.int .i64 a) := Maps.keyOf_int_mk Try.underlying3 (wf64 h)
theorem isKey64 {a : Int} (h : I64 a) : WideAt.IsKeyLit (.int .i64 a) := keyI.key (keyOf64 h)

/-- The map holds the last of the first i writes on each block of which it is so. -/
structure MapIs (ws : List Wt) (so : Nat → Bool) (i : Nat) (D : DataW WH) : Prop where
  im : Maps.IsMap D
  hs : ∀ a : Int, Maps.has D (.int .i64 a) = (lastI ws Wt.a so a i).isSome
  at_ : ∀ (a : Int) x, lastI ws Wt.a so a i = some x → ∀ z, D.atKey (.int .i64 a) z = .held x.h
theorem MapIs.start (ws : List Wt) (so : Nat → Bool) : MapIs ws so 0 (.map []) := ⟨Maps.isMap_empty, fun a => rfl, fun a x h => by cases h⟩
theorem MapIs.put {ws : List Wt} {so : Nat → Bool} {i : Nat} {D : DataW WH} (h : MapIs ws so i D) (hi : i < ws.length) (hs : so i = true) (hk : I64 (ws[i]).a) : MapIs ws so (i + 1) (D.put (.int .i64 (ws[i]).a) (.held (ws[i]).h)) := by
  refine ⟨h.im.put _ _, fun a => ?_, fun a x hx z => ?_⟩
  · by_cases e : a = (ws[i]).a
    · subst e
      rw [Maps.has_put_same h.im (isKey64 hk), lastI_hit hi hs]
      rfl
    · rw [Maps.has_put_other (fun e2 => e (by injection e2)), lastI_other hi e]
      exact h.hs a
  · by_cases e : a = (ws[i]).a
    · subst e
      rw [lastI_hit hi hs] at hx
      cases hx
      exact Maps.atKey_put_same h.im (isKey64 hk) _ _
    · rw [lastI_other hi e] at hx
      rw [Maps.atKey_put_other (fun e2 => e (by injection e2))]
      exact h.at_ a x hx z
theorem MapIs.skip {ws : List Wt} {so : Nat → Bool} {i : Nat} {D : DataW WH} (h : MapIs ws so i D) (hs : so i = false) : MapIs ws so (i + 1) D :=
  ⟨h.im, fun a => by rw [lastI_not hs]; exact h.hs a, fun a x hx => by rw [lastI_not hs] at hx; exact h.at_ a x hx⟩

/-- The blocks while the entries come. -/
def mixS (bs : List Sl) (m : Int → Option Wt) (left : Lit → Bool) : List Sl :=
  (List.range bs.length).map fun (k : Nat) => if left (.int .i64 (k : Int)) = true then bs[k]?.getD ⟨none, 0, 0, []⟩ else match m (k : Int) with
    | some x => x.s
    | none => bs[k]?.getD ⟨none, 0, 0, []⟩
theorem mixS_len (bs : List Sl) (m : Int → Option Wt) (left : Lit → Bool) : (mixS bs m left).length = bs.length := by simp [mixS]
theorem mixS_start (bs : List Sl) (m : Int → Option Wt) (left : Lit → Bool) (h : ∀ a : Int, left (.int .i64 a) = (m a).isSome) : mixS bs m left = bs := by
  apply List.ext_getElem
  · simp [mixS]
  · intro k h1 h2
    simp only [mixS, List.getElem_map, List.getElem_range, h, List.getElem?_eq_getElem h2, Option.getD_some]
    cases m (k : Int) <;> rfl
theorem mixS_step (bs : List Sl) (m : Int → Option Wt) (left : Lit → Bool) (a : Nat) (ha : a < bs.length) (x : Wt) (hx : m (a : Int) = some x) : mixS bs m (fun z => left z && !z.sameKey (.int .i64 (a : Int))) = (mixS bs m left).set a x.s := by
  apply List.ext_getElem
  · simp [mixS]
  · intro k h1 h2
    simp only [List.getElem_set, mixS, List.getElem_map, List.getElem_range]
    by_cases e : a = k
    · subst e
      rw [if_pos rfl, hx]
      have : (Lit.int .i64 (a : Int)).sameKey (.int .i64 (a : Int)) = true := by simp [Lit.sameKey]
      simp [this]
    · rw [if_neg e]
      have : (Lit.int .i64 (k : Int)).sameKey (.int .i64 (a : Int)) = false := Maps.sameKey_ne (fun e2 => e (by injection e2; omega))
      simp [this]
theorem mixS_end (bs : List Sl) (m : Int → Option Wt) (left : Lit → Bool) (h : ∀ kl, left kl = false) (b : List (List UInt8)) (hb : bs.map Sl.l = b) (ws : List (Int × List UInt8)) (so : Nat → Bool) (hm : ∀ a, lastI ws Prod.fst so a ws.length = (m a).map Wt.c) : (mixS bs m left).map Sl.l = leftB b ws so := by
  subst hb
  apply List.ext_getElem
  · simp [mixS, leftB]
  · intro k h1 h2
    have hk : k < bs.length := by simpa [mixS] using h1
    simp only [mixS, leftB, List.getElem_map, List.getElem_range, h, List.getElem?_eq_getElem hk, Option.getD_some, hm, List.getD_eq_getElem?_getD, List.getElem?_map]
    cases m (k : Int) <;> rfl
theorem mixS_mem {bs : List Sl} {m : Int → Option Wt} {left : Lit → Bool} {s : Sl} (h : s ∈ mixS bs m left) : s ∈ bs ∨ ∃ a x, m a = some x ∧ s = x.s := by
  obtain ⟨k, hk, rfl⟩ := List.mem_map.1 h
  have hk := List.mem_range.1 hk
  simp only [List.getElem?_eq_getElem hk, Option.getD_some]
  split
  · exact .inl (List.getElem_mem hk)
  · cases hm : m (k : Int) with
    | none => exact .inl (List.getElem_mem hk)
    | some x => exact .inr ⟨_, x, hm, rfl⟩
end Go.Proofs.Ytkaklppkmokffaa
