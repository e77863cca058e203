/-
  Contracts of slices.Grow and slices.Concat over bytes.
-/
import Derived.Test.YtfjjkkakhfgdhaaCode
import Derived.Test.YtfjjkkakhfgdhaaZeros
namespace Go.Proofs.Ytfjjkkakhfgdhaa
open Go.RowKit
set_option linter.unusedVariables false
set_option linter.unusedSimpArgs false
set_option maxRecDepth 100000

theorem m_grow (n : Nat) (w : World) (hn : (n : Int) ≤ 1000000000) : Calls Try.prog 73 #[.slice none 0 0, .int .i64 (n : Int)] w fun e w' => ∃ D d, e = .returned (.slice D 0 d) ∧ Fr w' w.heap.size 5 1 D 0 d [] ∧ Below w.heap.size w w' := by
  have h0 : ¬ (n : Int) < 0 := by omega
  by_cases hp : 0 < (n : Int)
  · have hn0 : Rd w w.heap.size 1 none 0 (bvs []) := Rd.nil_
    go_enter Try.func73, Try.ntmps73
    go_wp2_with (at_builtin; go_loud (refine wpList_append_zeros rfl (.tmp 20) (.tmp 21) rfl okB Try.underlying3 rfl hn0 rfl (by omega) (by omega) (by omega) n (Nat.zero_add n) _ rfl ?_; intro d w1 f1 b1 z1; have hnc := f1.nc; have hfr := Fr.take f1 (k := 0) (Nat.zero_le _); clear f1))
    go_ret
    exact ⟨_, _, rfl, hfr, b1⟩
  · obtain rfl : n = 0 := by omega
    clear h0 hp
    go_enter Try.func73, Try.ntmps73
    go_wp2
    go_ret
    exact ⟨_, _, rfl, Fr.none_, Below.refl _ _⟩
/-- A slice of bytes as a value, with its bytes. -/
structure Sl where
  A : Option Addr
  n : Nat
  c : Nat
  l : List UInt8
def Sl.v (s : Sl) : Value := .slice s.A s.n s.c
def Sl.ok (s : Sl) (w : World) : Prop := s.l.length = s.n ∧ s.n ≤ 1000000 ∧ Rd w w.heap.size 1 s.A s.n (bvs s.l)
theorem Sl.ok.below {s : Sl} {w w' : World} (h : s.ok w) (hb : Below w.heap.size w w') : s.ok w' := ⟨h.1, h.2.1, (h.2.2.below hb).more hb.size⟩
theorem Sl.ok.keep {s : Sl} {w w' : World} {B : Nat} {w0 : World} (h : s.ok w0) (hB : B = w0.heap.size) (hb : Below B w0 w') : s.ok w' := by subst hB; exact h.below hb
def joinS : List Sl → List UInt8
  | [] => []
  | s :: l => s.l ++ joinS l
theorem joinS_app (l m : List Sl) : joinS (l ++ m) = joinS l ++ joinS m := by
  induction l with
  | nil => rfl
  | cons p l ih => simp [joinS, ih]
theorem joinS_step {l : List Sl} {k : Nat} (h : k < l.length) : joinS (l.take (k + 1)) = joinS (l.take k) ++ (l[k]).l := by
  rw [List.take_succ_eq_append_getElem h, joinS_app]
  simp [joinS]
theorem joinS_bound {l : List Sl} {w : World} (h : ∀ s ∈ l, s.ok w) : (joinS l).length ≤ 1000000 * l.length := by
  induction l with
  | nil => simp [joinS]
  | cons p l ih =>
    have h1 := h p List.mem_cons_self
    have h2 := ih (fun s hs => h s (List.mem_cons_of_mem _ hs))
    have := h1.1
    have := h1.2.1
    simp only [joinS, List.length_append, List.length_cons]
    omega
def CatRel1 (ps : List Sl) (w : World) (s x : Value) (wr : World) : Prop := ∃ k : Nat, k ≤ ps.length ∧ x = .int .i64 (k : Int) ∧ s = .int .i64 ((joinS (ps.take k)).length : Int) ∧ w = wr
def CatRel2 (ps : List Sl) (w : World) (s x : Value) (wr : World) : Prop := ∃ (k : Nat) (D : Option Addr) (n d : Nat), k ≤ ps.length ∧ x = .int .i64 (k : Int) ∧ n = (joinS (ps.take k)).length ∧ s = .slice D n d ∧ Fr wr w.heap.size 5 1 D n d (bvs (joinS (ps.take k))) ∧ Below w.heap.size w wr

set_option maxHeartbeats 1000000 in
theorem m_concat (P : Option Addr) (m cp : Nat) (ps : List Sl) (w : World) (hm : ps.length = m) (hm9 : (m : Int) ≤ 100) (hr : Rd w w.heap.size 1 P m (ps.map Sl.v)) (hok : ∀ s ∈ ps, s.ok w) :
    Calls Try.prog 53 #[.slice P m cp] w fun e w' => ∃ D d, e = .returned (.slice D (joinS ps).length d) ∧ Fr w' w.heap.size 5 1 D (joinS ps).length d (bvs (joinS ps)) ∧ Below w.heap.size w w' := by
  have hbd : ∀ k, (joinS (ps.take k)).length ≤ 100000000 := by
    intro k
    have h1 := joinS_bound (l := ps.take k) (w := w) (fun s hs => hok s (List.mem_of_mem_take hs))
    rw [List.length_take] at h1
    have : min k ps.length ≤ 100 := by omega
    omega
  have HBD := Lib.hid hbd
  have HOK := Lib.hid hok
  have HR := Lib.hid hr
  clear hbd hok hr
  go_enter Try.func53, Try.ntmps53
  go_wp2
  go_loopw [3, 11] (fun s x wr => CatRel1 ps w s x wr) (fun _ x _ => m - (intOf x).toNat)
  case atStart => exact ⟨0, Nat.zero_le _, rfl, rfl, rfl⟩
  case round =>
    obtain ⟨k, hk, rfl, rfl, rfl⟩ := hrel
    have hb1 := HBD.out k
    by_cases hlt : k < m
    · have hkl : k < ps.length := by omega
      obtain ⟨b, off, u, rfl, _, hu, hc⟩ := HR.out.at_ hlt
      rw [List.getElem?_map, List.getElem?_eq_getElem hkl] at hu
      injection hu with hu
      rw [← hu] at hc
      have hc' : w.cell? ⟨b, off + k, none⟩ = some (.slice (ps[k]).A (ps[k]).n (ps[k]).c) := hc
      have hst := joinS_step hkl
      have hln := (HOK.out (ps[k]) (List.getElem_mem hkl)).1
      have hl2 := (HOK.out (ps[k]) (List.getElem_mem hkl)).2.1
      have hlen : (joinS (ps.take (k + 1))).length = (joinS (ps.take k)).length + (ps[k]).n := by rw [hst, List.length_append, hln]
      have HL := Lib.hid hlen
      have h0 : ¬ ((k : Int) < 0) := by omega
      have h1 : (k : Int) < (m : Int) := by omega
      clear hst hln hlen hu hc
      generalize ps[k] = p at *
      generalize (joinS (ps.take k)).length = N at *
      have hne : ¬ ((N : Int) + (p.n : Int) < 0) := by omega
      go_wp2
      go_roundw
      case rel => exact ⟨k + 1, by omega, rfl, by rw [HL.out]; simp, rfl⟩
      case measure => simp [intOf]; omega
    · obtain rfl : k = m := by omega
      rw [List.take_of_length_le (by omega)] at hb1 ⊢
      generalize hN : (joinS ps).length = N at *
      have HN := Lib.hid hN
      clear hN
      go_wp2_with fail
      refine (m_grow N _ (by omega)).mono ?_
      rintro e w1 ⟨D, d, rfl, f1, b1⟩
      go_wp2
      go_loopw [6, 27] (fun s x wr => CatRel2 ps w s x wr) (fun _ x _ => k - (intOf x).toNat)
      case atStart => exact ⟨0, D, 0, d, Nat.zero_le _, rfl, rfl, rfl, f1, b1⟩
      case round =>
        obtain ⟨k', D, n, d, hk', rfl, hn, rfl, hf, hb⟩ := hrel
        by_cases hlt' : k' < k
        · have hkl : k' < ps.length := by omega
          obtain ⟨b, off, u, rfl, hbb, hu, hc⟩ := (HR.out.below hb).at_ hlt'
          rw [List.getElem?_map, List.getElem?_eq_getElem hkl] at hu
          injection hu with hu
          rw [← hu] at hc
          have hc' : wr.cell? ⟨b, off + k', none⟩ = some (.slice (ps[k']).A (ps[k']).n (ps[k']).c) := hc
          have hst := joinS_step hkl
          obtain ⟨hln, hl2, hrd⟩ := (HOK.out (ps[k']) (List.getElem_mem hkl)).below hb
          have hlen : (joinS (ps.take (k' + 1))).length = n + (ps[k']).n := by rw [hst, List.length_append, hln, hn]
          have hbn := HBD.out (k' + 1)
          rw [hlen] at hbn
          have HL := Lib.hid hlen
          have HST := Lib.hid hst
          have HB := Lib.hid hb
          have HF := Lib.hid hf
          have HRD := Lib.hid hrd
          have h0 : ¬ ((k' : Int) < 0) := by omega
          have h1 : (k' : Int) < (k : Int) := by omega
          clear hst hln hlen hu hc hb hf hrd hn
          generalize ps[k'] = p at *
          go_wp2_with (at_builtin; go_loud (refine wpList_append_fr rfl (.tmp 31) (.tmp 32) rfl okB rfl HF.out rfl HRD.out (bvs_one _) (by unfold maxLen; omega) (by omega) HB.out.size ?_; intro D2 d2 w2 f2 g2 _))
          go_roundw
          case rel =>
            refine ⟨k' + 1, D2, _, d2, by omega, rfl, HL.out.symm, rfl, ?_, HB.out.grown g2 HB.out.size (fun g hg => (HF.out.row g hg).1)⟩
            rw [HST.out, bvs_app]
            exact f2
          case measure => simp [intOf]; omega
        · obtain rfl : k' = k := by omega
          rw [List.take_of_length_le (by omega)] at hf hn
          subst hn
          go_wp2
          go_ret
          exact ⟨_, _, rfl, hf, hb⟩
end Go.Proofs.Ytfjjkkakhfgdhaa
