/-
  Contracts of package wrap: Stretch.
-/
import Derived.Test.YtoggpnncmgcgoaaMac
import Derived.Test.YtoggpnncmgcgoaaMk
namespace Go.Proofs.Ytoggpnncmgcgoaa
open Go.RowKit
set_option linter.unusedVariables false
set_option linter.unusedSimpArgs false
set_option maxRecDepth 100000

def keyB (l : List UInt8) : List UInt8 := keyOf (fourOf l)
theorem keyB_len (l : List UInt8) : (keyB l).length = 16 := keyOf_len _
def stretchN (p : List UInt8) (salt : Nat) : Nat → List UInt8
  | 0 => keyB (p ++ le 4 salt)
  | k + 1 => keyB (stretchN p salt k ++ ([UInt8.ofNat k] ++ p))
theorem stretchN_len (p : List UInt8) (salt k : Nat) : (stretchN p salt k).length = 16 := by cases k <;> exact keyB_len _
def stretchL (p : List UInt8) (salt : Nat) : List UInt8 := stretchN p salt 32
theorem stretchL_len (p : List UInt8) (salt : Nat) : (stretchL p salt).length = 16 := stretchN_len p salt 32
theorem k_key (A : Option Addr) (n c : Nat) (l : List UInt8) (w : World) (hl : l.length = n) (hn : (n : Int) ≤ 1000000) (hcap : n ≤ c) (hr : Rd w w.heap.size 1 A n (bvs l)) :
    Calls Try.prog 67 #[.slice A n c] w fun e w' => ∃ A' c', e = .returned (.slice A' 16 c') ∧ Fr w' w.heap.size 5 1 A' 16 c' (bvs (keyB l)) ∧ Below w.heap.size w w' := x_key A n c l w hl hn hcap hr

theorem w_stretch_long (s : ByteArray) (salt : Nat) (w : World) (h : (s.size : Int) > 64) : Calls Try.prog 40 #[.string s, .int .u32 (salt : Int)] w fun e w' => e = .returned (.tuple #[.slice none 0 0, .int .i64 3]) ∧ w = w' := by
  have h64 : (64 : Int) < (s.size : Int) := h
  clear h
  go_enter Try.func40, Try.ntmps40
  go_wp2
  go_ret2
  exact ⟨rfl, rfl⟩

def StrRel (p : List UInt8) (salt : Nat) (w : World) (v i : Value) (wr : World) : Prop :=
  ∃ A c k, k ≤ 32 ∧ i = .int .i64 (k : Nat) ∧ v = .slice A 16 c ∧ Fr wr w.heap.size 5 1 A 16 c (bvs (stretchN p salt k)) ∧ Below w.heap.size w wr
set_option maxHeartbeats 1000000 in
theorem w_stretch (s : ByteArray) (salt : Nat) (w : World) (hs : (salt : Int) < 4294967296) (h : s.size ≤ 64) : Calls Try.prog 40 #[.string s, .int .u32 (salt : Int)] w fun e w' =>
    ∃ A c, e = .returned (.tuple #[.slice A 16 c, .int .i64 0]) ∧ Fr w' w.heap.size 5 1 A 16 c (bvs (stretchL s.data.toList salt)) ∧ Below w.heap.size w w' := by
  have hd64 : decide ((64 : Int) < (s.size : Int)) = false := by simp; omega
  have hwr : IntKind.i64.wrap (salt : Int) = (salt : Int) := by rw [IntKind.wrap_i64]; omega
  have hput := fun W => put_ok4 (salt : Int) W (by omega) hs
  have hlen := size_list s
  have HPUT := Lib.hid hput
  have HLEN := Lib.hid hlen
  have H64 := Lib.hid h
  clear hput hs hlen h
  generalize hp : s.data.toList = p at *
  generalize hn : s.size = n at *
  go_enter Try.func40, Try.ntmps40
  go_wp2_with fail
  refine (HPUT.out _).mono ?_
  rintro e w1 ⟨A1, c1, rfl, f1, b1⟩
  have r1 := f1.rd
  have HR1 := Lib.hid r1
  have HB1 := Lib.hid b1
  clear f1 b1 r1
  go_wp2_with (first
    | (refine wpList_conv_sb rfl (.tmp 19) rfl Try.underlying9 Try.underlying22 Try.underlying5 rfl hp hn (by have := H64.out; omega) ?_; intro d2 w2 f2 b2 z2)
    | (at_builtin; go_loud (refine wpList_append_to rfl (.tmp 20) (.tmp 21) rfl okB rfl f2 rfl ((HR1.out.below b2).more b2.size) (bvs_one _) (n + 4) rfl _ (bvs_app _ _).symm (by have := H64.out; unfold maxLen; omega) (by have := H64.out; omega) (by omega) ?_; intro D d3 w3 f3 g3 _; have b3 := (b2.grown g3 b2.size (fun g hg => (f2.row g hg).1)); have hnc := f3.nc; have hrd := f3.rd; have HB3 := Lib.hid (below_to HB1.out b3 HB1.out.size); have HR3 := Lib.hid hrd; clear f2 b2 f3 g3 b3 hrd)))
  refine (k_key D (n + 4) d3 _ w3 (by rw [List.length_append, le_len]; have := HLEN.out; omega) (by have := H64.out; omega) hnc HR3.out).mono ?_
  rintro e w4 ⟨A4, c4, rfl, f4, b4⟩
  have hb4 := below_to HB3.out b4 HB3.out.size
  have hf4 := f4.mono (base' := w.heap.size) HB3.out.size
  have HF4 := Lib.hid hf4
  have HB4 := Lib.hid hb4
  clear f4 b4 hb4 hf4 hnc
  go_wp2
  go_loopw [8, 24] (fun v i wr => StrRel p salt w v i wr) (fun _ i _ => 32 - (intOf i).toNat)
  case atStart => exact ⟨A4, c4, 0, by omega, rfl, rfl, HF4.out, HB4.out⟩
  case round =>
    obtain ⟨A, c, k, hk, rfl, rfl, hf, hb⟩ := hrel
    have HF := Lib.hid hf
    have HB := Lib.hid hb
    clear hf hb HF4 HB4 HR3 HB3 HR1 HB1
    by_cases hlt : k < 32
    · have h0 : (k : Int) < 32 := by omega
      have hwk : IntKind.u8.wrap (k : Int) = ((UInt8.ofNat k).toNat : Int) := by
        rw [IntKind.wrap_u8, UInt8.toNat_ofNat']
        omega
      have hnx : stretchN p salt (k + 1) = keyB (stretchN p salt k ++ ([UInt8.ofNat k] ++ p)) := rfl
      have hlenN := stretchN_len p salt k
      have HNX := Lib.hid hnx
      have HLN := Lib.hid hlenN
      clear hnx hlenN
      generalize stretchN p salt k = L at *
      generalize UInt8.ofNat k = K at *
      go_wp2_with (first
        | (refine wpList_conv_sb rfl (.tmp 31) rfl Try.underlying9 Try.underlying22 Try.underlying5 rfl hp hn (by have := H64.out; omega) ?_; intro d2 w2 f2 b2 z2))
      have zz : w2.heap.size = wr.heap.size + 1 + 1 := by rw [z2, World.size_alloc]
      have B1 := below_alloc HB.out (.cells #[.int .u8 (K.toNat : Int)] 5) (Nat.le_refl _)
      have n1 := below_new wr (.cells #[.int .u8 (K.toNat : Int)] 5)
      have n2 := below_to n1 b2 n1.size
      have n3 := below_alloc n2 (.cells #[.slice A 16 c, .slice (some ⟨wr.heap.size, 0, none⟩) 1 1, .slice (some ⟨wr.heap.size + 1, 0, none⟩) n d2] 22) (Nat.le_refl _)
      have B3 := below_to HB.out n3 HB.out.size
      have m3 := below_new w2 (.cells #[.slice A 16 c, .slice (some ⟨wr.heap.size, 0, none⟩) 1 1, .slice (some ⟨wr.heap.size + 1, 0, none⟩) n d2] 22)
      have hrow : Rd (w2.alloc (.cells #[.slice A 16 c, .slice (some ⟨wr.heap.size, 0, none⟩) 1 1, .slice (some ⟨wr.heap.size + 1, 0, none⟩) n d2] 22)) (w2.alloc (.cells #[.slice A 16 c, .slice (some ⟨wr.heap.size, 0, none⟩) 1 1, .slice (some ⟨wr.heap.size + 1, 0, none⟩) n d2] 22)).heap.size 1 (some ⟨w2.heap.size, 0, none⟩) 3 [.slice A 16 c, .slice (some ⟨wr.heap.size, 0, none⟩) 1 1, .slice (some ⟨wr.heap.size + 1, 0, none⟩) n d2] :=
        Rd.ofRow (cs := [.slice A 16 c, .slice (some ⟨wr.heap.size, 0, none⟩) 1 1, .slice (some ⟨wr.heap.size + 1, 0, none⟩) n d2]) (heap_alloc_new w2 _) rfl
      have hrK := ((Rd.made wr 5 1 1 (bvs [K]) rfl).below (w' := w2) (by have := b2; rw [World.size_alloc] at this; exact this)).more (B' := w2.heap.size) (by omega)
      have hrP := f2.rd
      rw [World.size_alloc] at hrP
      rw [zz] at hrow
      have okL : Sl.ok ⟨A, 16, c, L⟩ (w2.alloc (.cells #[.slice A 16 c, .slice (some ⟨wr.heap.size, 0, none⟩) 1 1, .slice (some ⟨wr.heap.size + 1, 0, none⟩) n d2] 22)) := ⟨HLN.out, by show 16 ≤ 1000000; omega, (HF.out.rd.below n3).more n3.size⟩
      have okK : Sl.ok ⟨some ⟨wr.heap.size, 0, none⟩, 1, 1, [K]⟩ (w2.alloc (.cells #[.slice A 16 c, .slice (some ⟨wr.heap.size, 0, none⟩) 1 1, .slice (some ⟨wr.heap.size + 1, 0, none⟩) n d2] 22)) := ⟨rfl, by show 1 ≤ 1000000; omega, (hrK.below m3).more m3.size⟩
      have okP : Sl.ok ⟨some ⟨wr.heap.size + 1, 0, none⟩, n, d2, p⟩ (w2.alloc (.cells #[.slice A 16 c, .slice (some ⟨wr.heap.size, 0, none⟩) 1 1, .slice (some ⟨wr.heap.size + 1, 0, none⟩) n d2] 22)) := ⟨HLEN.out, by have := H64.out; show n ≤ 1000000; omega, (hrP.below m3).more m3.size⟩
      have hj : joinS [⟨A, 16, c, L⟩, ⟨some ⟨wr.heap.size, 0, none⟩, 1, 1, [K]⟩, ⟨some ⟨wr.heap.size + 1, 0, none⟩, n, d2, p⟩] = L ++ ([K] ++ p) := by simp [joinS]
      have hjl : (L ++ ([K] ++ p)).length = 17 + n := by rw [List.length_append, List.length_append, HLN.out, HLEN.out]; simp; omega
      have hcat := m_concat (some ⟨wr.heap.size + 1 + 1, 0, none⟩) 3 3 [⟨A, 16, c, L⟩, ⟨some ⟨wr.heap.size, 0, none⟩, 1, 1, [K]⟩, ⟨some ⟨wr.heap.size + 1, 0, none⟩, n, d2, p⟩] _ rfl (by decide) hrow (by
        intro s hs
        simp only [List.mem_cons, List.not_mem_nil, or_false] at hs
        rcases hs with rfl | rfl | rfl <;> assumption)
      rw [hj, hjl] at hcat
      refine hcat.mono ?_
      rintro e w5 ⟨D5, d5, rfl, f5, b5⟩
      have B5 := below_to B3 b5 B3.size
      have hnc := f5.nc
      have hrd := f5.rd
      have HB5 := Lib.hid B5
      have HR5 := Lib.hid hrd
      have HJL := Lib.hid hjl
      clear okL okK okP hj hjl hcat hrow hrK hrP B1 n1 n2 n3 B3 m3 f5 b5 B5 hrd f2 b2 z2 zz
      go_wp2_with fail
      refine (k_key D5 (17 + n) d5 _ w5 HJL.out (by have := H64.out; omega) hnc HR5.out).mono ?_
      rintro e w6 ⟨A6, c6, rfl, f6, b6⟩
      have hb6 := below_to HB5.out b6 HB5.out.size
      have hf6 := f6.mono (base' := w.heap.size) HB5.out.size
      rw [← HNX.out] at hf6
      clear f6 b6 hnc
      go_wp2
      go_roundw
      case rel => exact ⟨A6, c6, k + 1, by omega, by simp, rfl, hf6, hb6⟩
      case measure => simp [intOf]; omega
    · obtain rfl : k = 32 := by omega
      go_wp2
      go_ret2
      exact ⟨_, _, rfl, HF.out, HB.out⟩
end Go.Proofs.Ytoggpnncmgcgoaa
