/-
  The walks of layer 10's statements that reach Write alone: alive, PtrUnlike.
-/
import Derived.Test.YtgcagenhfddpgaaPtrB
import Derived.Test.YtgcagenhfddpgaaLaw01
namespace Go.Proofs.Ytgcagenhfddpgaa
open Go.RowKit
set_option linter.unusedVariables false
set_option maxRecDepth 100000
attribute [local go_sem] str_toList toList_mk

theorem alive10 (w : World) : Calls Try.prog 21 #[] w fun e w' => e = .returned (.bool true) ∧ Below w.heap.size w w' := by
  go_enter Try.func21, Try.ntmps21
  go_wp2_with fail
  refine (ptr_write_ok 20 258 0 0 1 w (by decide) (by decide) (by decide) (by decide)).mono ?_
  rintro e w1 ⟨A1, c1, rfl, f1, b1⟩
  have k1 := conv f1.rd c1
  have q1 : (pb 20 258 0 0 1 == [20, 2, 1, 0, 0, 0, 0, 0, 0, 0, 0, 0, 1, 0, 0, 0]) = true := by decide
  go_wp2
  go_ret
  exact ⟨rfl, b1⟩

def U32 (x : Int) : Prop := 0 ≤ x ∧ x ≤ 4294967295
/-- Whatever lies below keeps the five cells of a box. -/
theorem box5 {w w' : World} {B g : Nat} {t : TypeId} {x0 x1 x2 x3 x4 : Value} (h : w.heap[g]? = some (.cells #[x0, x1, x2, x3, x4] t (0, 0))) (hb : Below B w w') (hg : g < B) :
    w'.cell? ⟨g, 0, none⟩ = some x0 ∧ w'.cell? ⟨g, 1, none⟩ = some x1 ∧ w'.cell? ⟨g, 2, none⟩ = some x2 ∧ w'.cell? ⟨g, 3, none⟩ = some x3 ∧ w'.cell? ⟨g, 4, none⟩ = some x4 := by
  have h' := (hb.block g hg).trans h
  simp [World.cell?, h']
theorem fstBox (w : World) (o o' : Obj) : ((w.alloc o).alloc o').heap[w.heap.size]? = some o := by
  rw [Below.heap_alloc _ _ _ (by simp)]
  exact heap_alloc_new w o
theorem sndBox (w : World) (o o' : Obj) : ((w.alloc o).alloc o').heap[w.heap.size + 1]? = some o' := by
  have := heap_alloc_new (w.alloc o) o'
  rwa [World.size_alloc] at this

theorem ptrUnlike_ok (a b i t s a' b' i' t' s' : Int) (w : World) (hi : U32 i) (ht : U32 t) (hs : U32 s) (hi' : U32 i') (ht' : U32 t') (hs' : U32 s') (hp : PtMay a b i t s) (hq : PtMay a' b' i' t' s') :
    Calls Try.prog 5 #[.agg #[.int .i64 a, .int .u32 b, .int .u32 i, .int .u32 t, .int .u32 s], .agg #[.int .i64 a', .int .u32 b', .int .u32 i', .int .u32 t', .int .u32 s']] w fun e w' => e = .returned (.bool true) ∧ Below w.heap.size w w' := by
  obtain ⟨r1, r2, r3, r4⟩ := ptMay_range hp
  obtain ⟨r1', r2', r3', r4'⟩ := ptMay_range hq
  have hW := fun W => ptr_write_ok a b i t s W hp hi ht hs
  have hW' := fun W => ptr_write_ok a' b' i' t' s' W hq hi' ht' hs'
  have e1 := pb_beq ⟨r1, r2⟩ ⟨r3, r4⟩ hi ht hs ⟨r1', r2'⟩ ⟨r3', r4'⟩ hi' ht' hs'
  have e2 := le_beq' (k := 3) r3 (by omega) r3' (by omega)
  have e3 := le_beq' (k := 4) hi.1 (by have := hi.2; omega) hi'.1 (by have := hi'.2; omega)
  have e4 := le_beq' (k := 4) ht.1 (by have := ht.2; omega) ht'.1 (by have := ht'.2; omega)
  have e5 := le_beq' (k := 4) hs.1 (by have := hs.2; omega) hs'.1 (by have := hs'.2; omega)
  have HW := Lib.hid hW
  have HW' := Lib.hid hW'
  have E1 := Lib.hid e1
  have E2 := Lib.hid e2
  have E3 := Lib.hid e3
  have E4 := Lib.hid e4
  have E5 := Lib.hid e5
  clear hW hW' hi ht hs hi' ht' hs' hp hq e1 e2 e3 e4 e5
  go_enter Try.func5, Try.ntmps5
  go_wp2_with fail
  refine (alive10 _).mono ?_
  rintro e w1 ⟨rfl, b1⟩
  have b01 : Below w.heap.size w w1 := (((Below.refl _ w).alloc (Nat.le_refl _) _).alloc (by simp) _).trans (b1.mono (by simp; omega))
  have hz1 : w.heap.size + 2 ≤ w1.heap.size := by have := b1.size; simp at this; omega
  have x1 := (b1.block w.heap.size (by simp; omega)).trans (fstBox w _ _)
  have y1 := (b1.block (w.heap.size + 1) (by simp)).trans (sndBox w _ _)
  obtain ⟨p0, p1, p2, p3, p4⟩ := box5 x1 (Below.refl w1.heap.size w1) (by omega)
  go_wp2_with fail
  refine (HW.out _).mono ?_
  rintro e w2 ⟨A2, c2, rfl, f2, b2⟩
  have hz2 := b2.size
  obtain ⟨p0', p1', p2', p3', p4'⟩ := box5 x1 b2 (by omega)
  obtain ⟨q0', q1', q2', q3', q4'⟩ := box5 y1 b2 (by omega)
  clear p0 p1 p2 p3 p4
  go_wp2_with fail
  refine (HW'.out _).mono ?_
  rintro e w3 ⟨A3, c3, rfl, f3, b3⟩
  obtain ⟨p0, p1, p2, p3, p4⟩ := box5 x1 (b2.trans (b3.mono hz2)) (by omega)
  obtain ⟨q0, q1, q2, q3, q4⟩ := box5 y1 (b2.trans (b3.mono hz2)) (by omega)
  have b03 : Below w.heap.size w w3 := b01.trans ((b2.trans (b3.mono hz2)).mono (by omega))
  clear x1 y1 p0' p1' p2' p3' p4' q0' q1' q2' q3' q4' b1
  have f2' := f2.below b3 (Nat.le_refl _)
  have n2 := f2'.nc
  have n3 := f3.nc
  obtain ⟨g2, rfl, _, _⟩ := f2'.form (by omega)
  obtain ⟨g3, rfl, _, _⟩ := f3.form (by omega)
  have s2 := f2'.rd
  have s3 := f3.rd
  have ka := fun N => conv (s2.drewN N) c2
  have ka' := fun N => conv (s3.drewN N) c3
  have kb := fun N => conv (l := le 3 b.toNat) (((s2.sub 1 3 (by omega)).drewN N) |> fun h => by rw [← bvs_drop, ← bvs_take, pb_birth] at h; exact h) (c2 - 1)
  have kb' := fun N => conv (l := le 3 b'.toNat) (((s3.sub 1 3 (by omega)).drewN N) |> fun h => by rw [← bvs_drop, ← bvs_take, pb_birth] at h; exact h) (c3 - 1)
  have ki := fun N => conv (l := le 4 i.toNat) (((s2.sub 4 4 (by omega)).drewN N) |> fun h => by rw [← bvs_drop, ← bvs_take, pb_iv] at h; exact h) (c2 - 4)
  have ki' := fun N => conv (l := le 4 i'.toNat) (((s3.sub 4 4 (by omega)).drewN N) |> fun h => by rw [← bvs_drop, ← bvs_take, pb_iv] at h; exact h) (c3 - 4)
  have kt := fun N => conv (l := le 4 t.toNat) (((s2.sub 8 4 (by omega)).drewN N) |> fun h => by rw [← bvs_drop, ← bvs_take, pb_tag] at h; exact h) (c2 - 8)
  have kt' := fun N => conv (l := le 4 t'.toNat) (((s3.sub 8 4 (by omega)).drewN N) |> fun h => by rw [← bvs_drop, ← bvs_take, pb_tag] at h; exact h) (c3 - 8)
  have ks := fun N => conv (l := le 4 s.toNat) (((s2.sub 12 4 (by omega)).drewN N) |> fun h => by rw [← bvs_drop, ← bvs_take, pb_sum] at h; exact h) (c2 - 12)
  have ks' := fun N => conv (l := le 4 s'.toNat) (((s3.sub 12 4 (by omega)).drewN N) |> fun h => by rw [← bvs_drop, ← bvs_take, pb_sum] at h; exact h) (c3 - 12)
  have z2 : w3.cell? ⟨g2, 0, none⟩ = some (.int .u8 a) := by
    obtain ⟨u, hu, hc⟩ := f2'.cell (i := 0) (by omega)
    rw [bvs_get, pb_at] at hu
    injection hu with hu
    rw [hc, ← hu]
    simp only [bv, UInt8.toNat_ofNat']
    congr 2
    omega
  have z3 : w3.cell? ⟨g3, 0, none⟩ = some (.int .u8 a') := by
    obtain ⟨u, hu, hc⟩ := f3.cell (i := 0) (by omega)
    rw [bvs_get, pb_at] at hu
    injection hu with hu
    rw [hc, ← hu]
    simp only [bv, UInt8.toNat_ofNat']
    congr 2
    omega
  have e1 := E1.out
  have e2 := E2.out
  have e3 := E3.out
  have e4 := E4.out
  have e5 := E5.out
  have hqq := fun W => run_ptr_eq W a b i t s a' b' i' t' s'
  have m2 : (16 : Int) ≤ (c2 : Int) := by omega
  have m3 : (16 : Int) ≤ (c3 : Int) := by omega
  clear f2 f2' f3 s2 s3 b2 b3
  go_wp2
  go_quiet (fail)
  go_wp2
  go_quiet (fail)
  go_wp2
  go_quiet (fail)
  go_wp2
  go_ret
  exact ⟨rfl, below_drewN (below_drewN (below_drewN b03 _) _) _⟩

theorem ptrUnlike_no (a b i t s a' b' i' t' s' : Int) (w : World) (hi : U32 i) (ht : U32 t) (hs : U32 s) (hi' : U32 i') (ht' : U32 t') (hs' : U32 s') (h : chk a b i t s = 8 ∨ chk a' b' i' t' s' = 8) :
    Calls Try.prog 5 #[.agg #[.int .i64 a, .int .u32 b, .int .u32 i, .int .u32 t, .int .u32 s], .agg #[.int .i64 a', .int .u32 b', .int .u32 i', .int .u32 t', .int .u32 s']] w fun e w' => e = .returned (.bool true) ∧ Below w.heap.size w w' := by
  have hW := fun W => ptr_write_any a b i t s W hi ht hs
  have hW' := fun W => ptr_write_any a' b' i' t' s' W hi' ht' hs'
  have HW := Lib.hid hW
  have HW' := Lib.hid hW'
  clear hW hW' hi ht hs hi' ht' hs'
  have hpair : ∃ C C' : Int, C = chk a b i t s ∧ C' = chk a' b' i' t' s' ∧ (C != 0 || C' != 0) = true := ⟨_, _, rfl, rfl, by rcases h with h | h <;> simp [h]⟩
  obtain ⟨C, C', hC, hC', hne⟩ := hpair
  rw [← hC] at HW
  rw [← hC'] at HW'
  clear h hC hC'
  generalize wrL a b i t s = L at *
  generalize wrL a' b' i' t' s' = L' at *
  have hne2 : (C != 0) = true ∨ ((C != 0) = false ∧ (C' != 0) = true) := by
    revert hne
    cases C != 0 <;> cases C' != 0 <;> simp
  clear hne
  rcases hne2 with hne | ⟨hne, hne'⟩
  all_goals
    go_enter Try.func5, Try.ntmps5
    go_wp2_with fail
    refine (alive10 _).mono ?_
    rintro e w1 ⟨rfl, b1⟩
    have b01 : Below w.heap.size w w1 := (((Below.refl _ w).alloc (Nat.le_refl _) _).alloc (by simp) _).trans (b1.mono (by simp; omega))
    have hz1 : w.heap.size + 2 ≤ w1.heap.size := by have := b1.size; simp at this; omega
    have x1 := (b1.block w.heap.size (by simp; omega)).trans (fstBox w _ _)
    have y1 := (b1.block (w.heap.size + 1) (by simp)).trans (sndBox w _ _)
    obtain ⟨p0, p1, p2, p3, p4⟩ := box5 x1 (Below.refl w1.heap.size w1) (by omega)
    go_wp2_with fail
    refine (HW.out _).mono ?_
    rintro e w2 ⟨A2, c2, rfl, f2, b2⟩
    have hz2 := b2.size
    obtain ⟨q0', q1', q2', q3', q4'⟩ := box5 y1 b2 (by omega)
    clear p0 p1 p2 p3 p4
    go_wp2_with fail
    refine (HW'.out _).mono ?_
    rintro e w3 ⟨A3, c3, rfl, f3, b3⟩
    have b03 : Below w.heap.size w w3 := b01.trans ((b2.trans (b3.mono hz2)).mono (by omega))
    clear x1 y1 q0' q1' q2' q3' q4' b1 f2 f3 b2 b3
    go_wp2
    go_ret
    exact ⟨rfl, b03⟩

theorem ptrUnlike_walk (a b i t s a' b' i' t' s' : Int) (w : World) (hi : U32 i) (ht : U32 t) (hs : U32 s) (hi' : U32 i') (ht' : U32 t') (hs' : U32 s') :
    Calls Try.prog 5 #[.agg #[.int .i64 a, .int .u32 b, .int .u32 i, .int .u32 t, .int .u32 s], .agg #[.int .i64 a', .int .u32 b', .int .u32 i', .int .u32 t', .int .u32 s']] w fun e w' => e = .returned (.bool true) ∧ Below w.heap.size w w' := by
  by_cases hp : PtMay a b i t s
  · by_cases hq : PtMay a' b' i' t' s'
    · exact ptrUnlike_ok a b i t s a' b' i' t' s' w hi ht hs hi' ht' hs' hp hq
    · exact ptrUnlike_no a b i t s a' b' i' t' s' w hi ht hs hi' ht' hs' (.inr (if_neg hq))
  · exact ptrUnlike_no a b i t s a' b' i' t' s' w hi ht hs hi' ht' hs' (.inl (if_neg hp))
end Go.Proofs.Ytgcagenhfddpgaa
