/-
  Contracts of package mac.
-/
import Derived.Test.YtfjjkkakhfgdhaaCat
import Derived.Test.YtfjjkkakhfgdhaaKey
namespace Go.Proofs.Ytfjjkkakhfgdhaa
open Go.RowKit
set_option linter.unusedVariables false
set_option linter.unusedSimpArgs false
set_option maxRecDepth 100000

/-- The inner key, and the tag. -/
def innerOf (k b : List UInt8) : List UInt8 := keyOf (fourOf (k ++ ([1] ++ b)))
def tagOf (k b : List UInt8) : Wd := (fourOf (k ++ ([2] ++ innerOf k b))).a
theorem innerOf_len (k b : List UInt8) : (innerOf k b).length = 16 := keyOf_len _

theorem below_to {B H : Nat} {a w w' : World} (h : Below B a w) (k : Below H w w') (hB : B ≤ H) : Below B a w' := h.trans (k.mono hB)
theorem below_new (w : World) (o : Obj) : Below w.heap.size w (w.alloc o) := (Below.refl _ w).alloc (Nat.le_refl _) o
theorem below_alloc {B : Nat} {a w : World} (h : Below B a w) (o : Obj) (hB : B ≤ a.heap.size) : Below B a (w.alloc o) := h.alloc (Nat.le_trans hB h.size) o
theorem Rd.ofRow {w : World} {g n : Nat} {t : TypeId} {fz : Nat × Nat} {cs : List Value} (h : w.heap[g]? = some (.cells cs.toArray t fz)) (hn : cs.length = n) : Rd w w.heap.size 1 (some ⟨g, 0, none⟩) n cs :=
  ⟨by omega, fun _ => ⟨g, 0, rfl, (Array.getElem?_eq_some_iff.1 h).1, fun j u hu => by
    rw [Nat.zero_add, cell_of_row w g j cs.toArray t fz h]
    simpa using hu⟩⟩

theorem m_inner (P : Option Addr) (m cp : Nat) (ps : List Sl) (w : World) (hm : ps.length = m) (hm9 : (m : Int) ≤ 100) (hr : Rd w w.heap.size 1 P m (ps.map Sl.v)) (hok : ∀ s ∈ ps, s.ok w) (hl : ((joinS ps).length : Int) ≤ 1000000) :
    Calls Try.prog 54 #[.slice P m cp] w fun e w' => ∃ A' c', e = .returned (.slice A' 16 c') ∧ Fr w' w.heap.size 5 1 A' 16 c' (bvs (keyOf (fourOf (joinS ps)))) ∧ Below w.heap.size w w' := by
  have hc := m_concat P m cp ps w hm hm9 hr hok
  have HC := Lib.hid hc
  clear hc hr hok
  go_enter Try.func54, Try.ntmps54
  go_wp2_with fail
  refine HC.out.mono ?_
  rintro e w1 ⟨D, d, rfl, f1, b1⟩
  go_wp2_with fail
  refine (x_key D _ d (joinS ps) w1 rfl hl f1.nc f1.rd).mono ?_
  rintro e w2 ⟨D2, d2, rfl, f2, b2⟩
  go_wp2
  go_ret
  exact ⟨_, _, rfl, f2.mono b1.size, below_to b1 b2 b1.size⟩

theorem m_tag_bad (A : Option Addr) (n c : Nat) (D : Option Addr) (m d : Nat) (w : World) (h : ((n : Int) != 16) = true) : Calls Try.prog 33 #[.slice A n c, .slice D m d] w fun e w' => e = .returned (.tuple #[.int .u32 0, .int .i64 2]) ∧ w = w' := by
  go_enter Try.func33, Try.ntmps33
  go_wp2
  go_ret2
  exact ⟨rfl, rfl⟩

theorem three_row (w : World) (o0 o1 : Obj) (v0 v1 v2 : Value) (t : TypeId) : Rd (((w.alloc o0).alloc o1).alloc (.cells #[v0, v1, v2] t)) (((w.alloc o0).alloc o1).alloc (.cells #[v0, v1, v2] t)).heap.size 1 (some ⟨w.heap.size + 2, 0, none⟩) 3 [v0, v1, v2] := by
  have h := heap_alloc_new ((w.alloc o0).alloc o1) (.cells #[v0, v1, v2] t)
  rw [World.size_alloc, World.size_alloc] at h
  exact Rd.ofRow (cs := [v0, v1, v2]) h rfl

theorem m_tag (A : Option Addr) (c : Nat) (k : List UInt8) (D : Option Addr) (m d : Nat) (b : List UInt8) (w : World) (hk : k.length = 16) (hrk : Rd w w.heap.size 1 A 16 (bvs k)) (hb : b.length = m) (hm : (m : Int) ≤ 900000) (hrb : Rd w w.heap.size 1 D m (bvs b)) :
    Calls Try.prog 33 #[.slice A 16 c, .slice D m d] w fun e w' => e = .returned (.tuple #[.int .u32 (wi (tagOf k b)), .int .i64 0]) ∧ Below w.heap.size w w' := by
  have HRK := Lib.hid hrk
  have HRB := Lib.hid hrb
  clear hrk hrb
  go_enter Try.func33, Try.ntmps33
  go_wp2_with fail
  have hB0 : Below w.heap.size w (((w.alloc (.cells #[.int .u8 2] 5)).alloc (.cells #[.int .u8 1] 5)).alloc (.cells #[.slice A 16 c, .slice (some ⟨w.heap.size + 1, 0, none⟩) 1 1, .slice D m d] 28)) := below_alloc (below_alloc (below_new w _) _ (Nat.le_refl _)) _ (Nat.le_refl _)
  have hrow := three_row w (.cells #[.int .u8 2] 5) (.cells #[.int .u8 1] 5) (.slice A 16 c) (.slice (some ⟨w.heap.size + 1, 0, none⟩) 1 1) (.slice D m d) 28
  have htwo : Rd (((w.alloc (.cells #[.int .u8 2] 5)).alloc (.cells #[.int .u8 1] 5)).alloc (.cells #[.slice A 16 c, .slice (some ⟨w.heap.size + 1, 0, none⟩) 1 1, .slice D m d] 28)) (w.heap.size + 1) 1 (some ⟨w.heap.size, 0, none⟩) 1 (bvs [2]) :=
    ((Rd.made w 5 1 1 (bvs [2]) rfl).alloc (by rw [World.size_alloc]; omega) _).alloc (by rw [World.size_alloc, World.size_alloc]; omega) _
  have hone : Rd (((w.alloc (.cells #[.int .u8 2] 5)).alloc (.cells #[.int .u8 1] 5)).alloc (.cells #[.slice A 16 c, .slice (some ⟨w.heap.size + 1, 0, none⟩) 1 1, .slice D m d] 28)) (w.heap.size + 1 + 1) 1 (some ⟨w.heap.size + 1, 0, none⟩) 1 (bvs [1]) := by
    have h := Rd.made (w.alloc (.cells #[.int .u8 2] 5)) 5 1 1 (bvs [1]) rfl
    rw [World.size_alloc] at h
    exact h.alloc (by rw [World.size_alloc, World.size_alloc]; omega) _
  have hz : (((w.alloc (.cells #[.int .u8 2] 5)).alloc (.cells #[.int .u8 1] 5)).alloc (.cells #[.slice A 16 c, .slice (some ⟨w.heap.size + 1, 0, none⟩) 1 1, .slice D m d] 28)).heap.size = w.heap.size + 3 := by rw [World.size_alloc, World.size_alloc, World.size_alloc]
  generalize (((w.alloc (.cells #[.int .u8 2] 5)).alloc (.cells #[.int .u8 1] 5)).alloc (.cells #[.slice A 16 c, .slice (some ⟨w.heap.size + 1, 0, none⟩) 1 1, .slice D m d] 28)) = w0 at *
  have okK : Sl.ok ⟨A, 16, c, k⟩ w0 := ⟨hk, (by decide : 16 ≤ 1000000), (HRK.out.below hB0).more hB0.size⟩
  have okB : Sl.ok ⟨D, m, d, b⟩ w0 := ⟨hb, by show m ≤ 1000000; omega, (HRB.out.below hB0).more hB0.size⟩
  have ok1 : Sl.ok ⟨some ⟨w.heap.size + 1, 0, none⟩, 1, 1, [1]⟩ w0 := ⟨rfl, (by decide : 1 ≤ 1000000), hone.more (by omega)⟩
  have ok2 : Sl.ok ⟨some ⟨w.heap.size, 0, none⟩, 1, 1, [2]⟩ w0 := ⟨rfl, (by decide : 1 ≤ 1000000), htwo.more (by omega)⟩
  have hj1 : joinS [⟨A, 16, c, k⟩, ⟨some ⟨w.heap.size + 1, 0, none⟩, 1, 1, [1]⟩, ⟨D, m, d, b⟩] = k ++ ([1] ++ b) := by simp [joinS]
  have hin := m_inner (some ⟨w.heap.size + 1 + 1, 0, none⟩) 3 3 [⟨A, 16, c, k⟩, ⟨some ⟨w.heap.size + 1, 0, none⟩, 1, 1, [1]⟩, ⟨D, m, d, b⟩] w0 rfl (by decide) hrow (by
    intro s hs
    simp only [List.mem_cons, List.not_mem_nil, or_false] at hs
    rcases hs with rfl | rfl | rfl <;> assumption) (by rw [hj1]; simp only [List.length_append, List.length_cons, List.length_nil, hk, hb]; omega)
  rw [hj1] at hin
  refine hin.mono ?_
  rintro e w1 ⟨A1, c1, rfl, f1, b1⟩
  have B1 := below_to hB0 b1 hB0.size
  have r1 := f1.rd
  have oK := okK.below b1
  have o2 := ok2.below b1
  have o3 : Sl.ok ⟨A1, 16, c1, innerOf k b⟩ w1 := ⟨innerOf_len k b, (by decide : 16 ≤ 1000000), r1⟩
  clear okK okB ok1 ok2 hin hj1 hrow htwo hone hz f1 b1 hB0
  have hz1 := B1.size
  go_wp2_with fail
  have hB2 := below_alloc B1 (.cells #[.slice A 16 c, .slice (some ⟨w.heap.size, 0, none⟩) 1 1, .slice A1 16 c1] 28) (Nat.le_refl _)
  have hn := below_new w1 (.cells #[.slice A 16 c, .slice (some ⟨w.heap.size, 0, none⟩) 1 1, .slice A1 16 c1] 28)
  have pK := oK.below hn
  have p2 := o2.below hn
  have p3 := o3.below hn
  have hrow : Rd (w1.alloc (.cells #[.slice A 16 c, .slice (some ⟨w.heap.size, 0, none⟩) 1 1, .slice A1 16 c1] 28)) (w1.alloc (.cells #[.slice A 16 c, .slice (some ⟨w.heap.size, 0, none⟩) 1 1, .slice A1 16 c1] 28)).heap.size 1 (some ⟨w1.heap.size, 0, none⟩) 3 [.slice A 16 c, .slice (some ⟨w.heap.size, 0, none⟩) 1 1, .slice A1 16 c1] :=
    Rd.ofRow (cs := [.slice A 16 c, .slice (some ⟨w.heap.size, 0, none⟩) 1 1, .slice A1 16 c1]) (heap_alloc_new w1 _) rfl
  have hj2 : joinS [⟨A, 16, c, k⟩, ⟨some ⟨w.heap.size, 0, none⟩, 1, 1, [2]⟩, ⟨A1, 16, c1, innerOf k b⟩] = k ++ ([2] ++ innerOf k b) := by simp [joinS]
  have hcat := m_concat (some ⟨w1.heap.size, 0, none⟩) 3 3 [⟨A, 16, c, k⟩, ⟨some ⟨w.heap.size, 0, none⟩, 1, 1, [2]⟩, ⟨A1, 16, c1, innerOf k b⟩] _ rfl (by decide) hrow (by
    intro s hs
    simp only [List.mem_cons, List.not_mem_nil, or_false] at hs
    rcases hs with rfl | rfl | rfl <;> assumption)
  rw [hj2] at hcat
  refine hcat.mono ?_
  rintro e w2 ⟨A2, c2, rfl, f2, b2⟩
  have B2 := below_to hB2 b2 hB2.size
  have hlen : (k ++ ([2] ++ innerOf k b)).length = 33 := by simp only [List.length_append, List.length_cons, List.length_nil, hk, innerOf_len]
  have hsum := x_sum A2 _ c2 _ w2 rfl (by rw [hlen]; decide) f2.nc f2.rd
  clear hcat hj2 hrow pK p2 p3 oK o2 o3 f2 b2 hB2 hn r1
  rw [hlen] at *
  go_wp2_with fail
  refine hsum.mono ?_
  rintro e w3 ⟨rfl, b3⟩
  go_wp2
  go_ret2
  exact ⟨rfl, below_to B2 b3 B2.size⟩
end Go.Proofs.Ytfjjkkakhfgdhaa
