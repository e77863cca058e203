/-
  Contracts of bytes.Compare, slices.EqualFunc of writes, slices.CompareFunc of blocks, dev.Same.
-/
import Derived.Test.YtkaklppkmokffaaDevH
import Derived.Lib.Bytealg
namespace Go.Proofs.Ytkaklppkmokffaa
open Go.RowKit
set_option linter.unusedVariables false
set_option linter.unusedSimpArgs false
set_option maxRecDepth 100000

/-! ### bytes.Compare -/
theorem cmp_zero : ∀ (a b : List UInt8), Lib.compareBytes a b = 0 ↔ a = b
  | [], [] => by simp [Lib.compareBytes]
  | [], _ :: _ => by simp [Lib.compareBytes]
  | _ :: _, [] => by simp [Lib.compareBytes]
  | x :: a, y :: b => by
    unfold Lib.compareBytes
    by_cases h1 : x < y
    · rw [if_pos h1]
      constructor
      · intro h; omega
      · intro h; cases h; exact absurd h1 (UInt8.lt_irrefl _)
    · rw [if_neg h1]
      by_cases h2 : y < x
      · rw [if_pos h2]
        constructor
        · intro h; omega
        · intro h; cases h; exact absurd h2 (UInt8.lt_irrefl _)
      · rw [if_neg h2, cmp_zero a b]
        have : x = y := UInt8.le_antisymm (UInt8.not_lt.1 h2) (UInt8.not_lt.1 h1)
        subst this
        simp
theorem run_loadL {P : Program} (w : World) : ∀ (l : List UInt8) (a : Addr) (acc : ByteArray), (∀ j x, l[j]? = some x → w.cell? (a.add j) = some (bv x)) →
    (Extern.Bytes.loadBytes a l.length acc).run P w = .ok ⟨acc.data ++ l.toArray⟩ w
  | [], a, acc, _ => by simp [Extern.Bytes.loadBytes]
  | x :: l, a, acc, h => by
    have h0 : w.cell? a = some (bv x) := by
      have := h 0 x rfl
      simpa [Addr.add] using this
    have ih := run_loadL (P := P) w l (a.add 1) (acc.push x) (fun j y hy => by
      have := h (j + 1) y (by simpa using hy)
      have e : (a.add 1).add j = a.add (j + 1) := by
        unfold Addr.add
        by_cases hj : j = 0
        · subst hj; simp
        · simp [hj]; omega
      rw [e]; exact this)
    have hx : ((x.toNat : Int).toNat).toUInt8 = x := by simp
    simp only [List.length_cons, Extern.Bytes.loadBytes, Sem.run_bind, run_load, h0, Result.andThen, bv, hx]
    rw [ih]
    congr 1
    apply ByteArray.ext
    simp [ByteArray.push]
theorem run_bytesS {P : Program} {w : World} {B n : Nat} {A : Option Addr} {l : List UInt8} (hr : Rd w B 1 A n (bvs l)) (c : Nat) : (Extern.Bytes.bytesOf (.slice A n c)).run P w = .ok ⟨l.toArray⟩ w := by
  have hl : l.length = n := by have := hr.1; rw [bvs_len, Nat.mul_one] at this; exact this
  cases A with
  | none =>
    have h0 : n = 0 := by
      rcases Nat.eq_zero_or_pos n with h | h
      · exact h
      · obtain ⟨b, off, e, _⟩ := hr.2 h
        cases e
    subst h0
    obtain rfl : l = [] := List.eq_nil_of_length_eq_zero hl
    rfl
  | some a =>
    have h := run_loadL (P := P) w l a .empty (fun j x hj => by
      have hjl := (List.getElem?_eq_some_iff.1 hj).1
      obtain ⟨b, off, e, _, hc⟩ := hr.2 (by omega)
      cases e
      rw [add_lit]
      exact hc j _ (by rw [bvs_get, hj]; rfl))
    rw [hl] at h
    simp only [Extern.Bytes.bytesOf]
    rw [h]
    congr 1
    apply ByteArray.ext
    simp [ByteArray.empty, ByteArray.emptyWithCapacity]
    rfl
theorem run_compareS {P : Program} {w : World} {s t : Sl} (hs : s.came w) (ht : t.came w) : (Extern.BytealgCompare.compare #[s.v, t.v]).run P w = .ok (.int .i64 (Lib.compareBytes s.l t.l)) w := by
  change Sem.run P (do pure (goInt (Extern.BytealgCompare.cmp (← Extern.Bytes.bytesOf (.slice s.A s.n s.c)) (← Extern.Bytes.bytesOf (.slice t.A t.n t.c))))) w = _
  simp only [Sem.run_bind, Sem.run_pure, Result.andThen, run_bytesS hs.2.1, run_bytesS ht.2.1]
  rw [Lib.cmp_eq]
  rfl
theorem b_compare (s t : Sl) (w : World) (hs : s.came w) (ht : t.came w) : Calls Try.prog 54 #[.slice s.A s.n s.c, .slice t.A t.n t.c] w fun e w' => e = .returned (.int .i64 (Lib.compareBytes s.l t.l)) ∧ w = w' := by
  have hc := run_compareS (P := Try.prog) hs ht
  unfold Sl.v at hc
  clear hs ht
  go_enter Try.func54, Try.ntmps54
  go_wp2
  rw [run_callFunc_extern Try.func63 (by kernel_rfl) (by kernel_rfl) (by kernel_rfl) (e := Extern.BytealgCompare.compare) (by kernel_rfl), hc]
  simp only [Result.andThen]
  rw [Oper.upon_value]
  go_wp2
  go_ret
  exact ⟨rfl, rfl⟩
theorem d_same1 (s t : Sl) (w : World) (hs : s.came w) (ht : t.came w) : Calls Try.prog 53 #[.slice s.A s.n s.c, .slice t.A t.n t.c] w fun e w' => e = .returned (.int .i64 (Lib.compareBytes s.l t.l)) ∧ w = w' := by
  have h := b_compare s t w hs ht
  clear hs ht
  go_enter Try.func53, Try.ntmps53
  go_wp2_with fail
  refine h.mono ?_
  rintro e w1 ⟨rfl, rfl⟩
  go_wp2
  go_ret
  exact ⟨rfl, rfl⟩
end Go.Proofs.Ytkaklppkmokffaa
