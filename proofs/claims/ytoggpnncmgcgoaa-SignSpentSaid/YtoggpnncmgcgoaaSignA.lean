/-
  Contracts of package sign: above.
-/
import Derived.Test.YtoggpnncmgcgoaaOwn
import Derived.Test.YtoggpnncmgcgoaaHash
import Derived.Test.YtoggpnncmgcgoaaCat
namespace Go.Proofs.Ytoggpnncmgcgoaa
open Go.RowKit
set_option linter.unusedVariables false
set_option linter.unusedSimpArgs false
set_option maxRecDepth 100000

theorem joinS_three (h : Nat) (l r : List UInt8) (s1 s2 s3 : Sl) (e1 : s1.l = [UInt8.ofNat (128 + h)]) (e2 : s2.l = l) (e3 : s3.l = r) : joinS [s1, s2, s3] = UInt8.ofNat (128 + h) :: (l ++ r) := by
  simp [joinS, e1, e2, e3]
theorem x_above (h : Nat) (hh : h < 4) (A : Option Addr) (c : Nat) (l : List UInt8) (B : Option Addr) (d : Nat) (r : List UInt8) (w : World) (hl : l.length = 16) (hr : r.length = 16) (hrl : Rd w w.heap.size 1 A 16 (bvs l)) (hrr : Rd w w.heap.size 1 B 16 (bvs r)) :
    Calls Try.prog 45 #[.int .i64 (h : Int), .slice A 16 c, .slice B 16 d] w fun e w' => ∃ D d, e = .returned (.slice D 16 d) ∧ Fr w' w.heap.size 5 1 D 16 d (bvs (aboveL h l r)) ∧ Below w.heap.size w w' := by
  have hb8 : IntKind.u8.wrap (128 + (h : Int)) = ((UInt8.ofNat (128 + h)).toNat : Int) := by
    have := wrap8_nat (128 + h)
    rwa [show (((128 + h : Nat) : Int)) = 128 + (h : Int) by omega] at this
  obtain ⟨x, hx⟩ : ∃ x, x = UInt8.ofNat (128 + h) := ⟨_, rfl⟩
  rw [← hx] at hb8
  obtain ⟨wx, hwx⟩ : ∃ wx, wx = (w.alloc (.cells #[.int .u8 (x.toNat : Int)] 5)).alloc (.cells #[.slice (some ⟨w.heap.size, 0, none⟩) 1 1, .slice A 16 c, .slice B 16 d] 22) := ⟨_, rfl⟩
  have hrow : Rd wx wx.heap.size 1 (some ⟨w.heap.size + 1, 0, none⟩) 3 ([(⟨some ⟨w.heap.size, 0, none⟩, 1, 1, [x]⟩ : Sl), ⟨A, 16, c, l⟩, ⟨B, 16, d, r⟩].map Sl.v) := by
    have := Rd.made (w.alloc (.cells #[.int .u8 (x.toNat : Int)] 5)) 22 1 3 [.slice (some ⟨w.heap.size, 0, none⟩) 1 1, .slice A 16 c, .slice B 16 d] rfl
    rw [World.size_alloc] at this
    rw [hwx]
    exact this.more (by rw [World.size_alloc, World.size_alloc]; exact Nat.le_refl _)
  have hb : Below w.heap.size w wx := by rw [hwx]; exact below_alloc (below_new w _) _ (Nat.le_refl _)
  have hx1 : Rd wx wx.heap.size 1 (some ⟨w.heap.size, 0, none⟩) 1 (bvs [x]) := by
    have := Rd.made w 5 1 1 (bvs [x]) rfl
    rw [hwx]
    exact (this.alloc (by rw [World.size_alloc]; exact Nat.le_refl _) _).more (by rw [World.size_alloc, World.size_alloc]; omega)
  have hcat := m_concat (some ⟨w.heap.size + 1, 0, none⟩) 3 3 [⟨some ⟨w.heap.size, 0, none⟩, 1, 1, [x]⟩, ⟨A, 16, c, l⟩, ⟨B, 16, d, r⟩] wx rfl (by decide) hrow (by
    intro s hs
    simp only [List.mem_cons, List.not_mem_nil, or_false] at hs
    rcases hs with rfl | rfl | rfl
    · exact ⟨rfl, (by decide : 1 ≤ 1000000), hx1⟩
    · exact ⟨hl, (by decide : 16 ≤ 1000000), (hrl.below hb).more hb.size⟩
    · exact ⟨hr, (by decide : 16 ≤ 1000000), (hrr.below hb).more hb.size⟩)
  rw [joinS_three h l r _ _ _ (by rw [← hx]) rfl rfl] at hcat
  have hlen : (UInt8.ofNat (128 + h) :: (l ++ r)).length = 33 := by rw [List.length_cons, List.length_append, hl, hr]
  rw [hlen] at hcat
  have hab : aboveL h l r = keyOf (fourOf (UInt8.ofNat (128 + h) :: (l ++ r))) := rfl
  rw [hab]
  obtain ⟨T, hT⟩ : ∃ T, T = UInt8.ofNat (128 + h) :: (l ++ r) := ⟨_, rfl⟩
  rw [← hT] at hcat hlen ⊢
  have HC := Lib.hid hcat
  have HB := Lib.hid hb
  have HL := Lib.hid hlen
  have HWX := Lib.hid hwx
  clear hcat hb hlen hwx hrow hx1 hrl hrr hx hT hab hl hr
  go_enter Try.func45, Try.ntmps45
  go_wp2_with fail
  rw [← HWX.out]
  refine HC.out.mono ?_
  rintro e w1 ⟨D, d, rfl, f1, b1⟩
  have HF1 := Lib.hid f1
  have HB1 := Lib.hid (below_to HB.out b1 HB.out.size)
  clear f1 b1
  go_wp2_with fail
  refine (x_key D 33 d T w1 HL.out (by decide) HF1.out.nc HF1.out.rd).mono ?_
  rintro e w2 ⟨D2, d2, rfl, f2, b2⟩
  have hf := f2.mono (base' := w.heap.size) HB1.out.size
  have hb := below_to HB1.out b2 HB1.out.size
  clear f2 b2
  go_wp2
  go_ret
  exact ⟨_, _, rfl, hf, hb⟩
end Go.Proofs.Ytoggpnncmgcgoaa
