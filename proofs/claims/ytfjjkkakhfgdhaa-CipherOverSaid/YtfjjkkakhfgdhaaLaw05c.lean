/-
  The walk of CipherOver.
-/
import Derived.Test.YtfjjkkakhfgdhaaLaw05
namespace Go.Proofs.Ytfjjkkakhfgdhaa
open Go.RowKit
set_option linter.unusedVariables false
set_option linter.unusedSimpArgs false
set_option maxRecDepth 100000
attribute [local go_sem] str_toList toList_mk

theorem cipherOver_k (K : Option Addr) (m c : Nat) (iv : Nat) (A : Option Addr) (na ca : Nat) (B : Option Addr) (nb cb : Nat) (w : World)
    (h0 : ((m : Int) != 16) = true)
    : Calls Try.prog 16 #[.slice K m c, .int .u32 (iv : Int), .slice A na ca, .slice B nb cb] w fun e w' => e = .returned (.bool true) ∧ Below w.heap.size w w' := by
  go_enter Try.func16, Try.ntmps16
  go_wp2_with fail
  refine (alive05 _).mono ?_
  rintro e w1 ⟨rfl, b1⟩
  go_wp2
  go_ret
  exact ⟨rfl, b1⟩
theorem cipherOver_b (K : Option Addr) (m c : Nat) (iv : Nat) (A : Option Addr) (na ca : Nat) (B : Option Addr) (nb cb : Nat) (w : World)
    (h0 : m = 16)
    (h1 : 4096 < (na : Int))
    : Calls Try.prog 16 #[.slice K m c, .int .u32 (iv : Int), .slice A na ca, .slice B nb cb] w fun e w' => e = .returned (.bool true) ∧ Below w.heap.size w w' := by
  subst h0
  go_enter Try.func16, Try.ntmps16
  go_wp2_with fail
  refine (alive05 _).mono ?_
  rintro e w1 ⟨rfl, b1⟩
  go_wp2
  go_ret
  exact ⟨rfl, b1⟩
theorem cipherOver_l (K : Option Addr) (m c : Nat) (iv : Nat) (A : Option Addr) (na ca : Nat) (B : Option Addr) (nb cb : Nat) (w : World)
    (h0 : m = 16)
    (h1 : decide (4096 < (na : Int)) = false)
    (h2 : ((nb : Int) != (na : Int)) = true)
    : Calls Try.prog 16 #[.slice K m c, .int .u32 (iv : Int), .slice A na ca, .slice B nb cb] w fun e w' => e = .returned (.bool true) ∧ Below w.heap.size w w' := by
  subst h0
  go_enter Try.func16, Try.ntmps16
  go_wp2_with fail
  refine (alive05 _).mono ?_
  rintro e w1 ⟨rfl, b1⟩
  go_wp2
  go_ret
  exact ⟨rfl, b1⟩

/-- What stands when i bytes are joined. -/
def overTo (a b : List UInt8) (i : Nat) : List UInt8 := (xorL a b).take i ++ noughts (a.length - i)
theorem overTo_zero (a b : List UInt8) : overTo a b 0 = noughts a.length := by simp [overTo]
theorem overTo_len (a b : List UInt8) (i : Nat) (h : i ≤ a.length) : (overTo a b i).length = a.length := by
  rw [overTo, List.length_append, List.length_take, xorL_len, noughts_len]
  omega
theorem overTo_all (a b : List UInt8) : overTo a b a.length = xorL a b := by
  rw [overTo, List.take_of_length_le (by rw [xorL_len]; exact Nat.le_refl _), Nat.sub_self]
  exact List.append_nil _
theorem overTo_step (a b : List UInt8) (i : Nat) (ha : i < a.length) (hb : i < b.length) : (overTo a b i).set i (a[i] ^^^ b[i]) = overTo a b (i + 1) := by
  have hx : i < (xorL a b).length := by rw [xorL_len]; exact ha
  have hl : ((xorL a b).take i).length = i := by rw [List.length_take]; omega
  have hn : noughts (a.length - i) = 0 :: noughts (a.length - (i + 1)) := by
    unfold noughts
    rw [show a.length - i = (a.length - (i + 1)) + 1 by omega, List.replicate_succ]
  unfold overTo
  rw [List.set_append_right _ _ (by omega), hl, Nat.sub_self, hn, List.set_cons_zero, List.take_succ_eq_append_getElem hx, xorL_get a b i ha hb, List.append_assoc]
  rfl
def OvRel (a b : List UInt8) (g : Nat) (w1 : World) (x : Value) (wr : World) : Prop :=
  ∃ i : Nat, i ≤ a.length ∧ x = .int .i64 (i : Int) ∧ Fr wr w1.heap.size 5 1 (some ⟨g, 0, none⟩) a.length a.length (bvs (overTo a b i)) ∧ Below w1.heap.size w1 wr
def ChRel (w1 : World) (x : Value) (wr : World) (n : Nat) : Prop := ∃ i N : Nat, i ≤ n ∧ x = .int .i64 (i : Int) ∧ w1.drewN N = wr

set_option maxHeartbeats 4000000 in
theorem cipherOver_ok (K : Option Addr) (c : Nat) (k : List UInt8) (iv : Nat) (hiv : (iv : Int) < 4294967296) (A : Option Addr) (ca : Nat) (a : List UInt8) (B : Option Addr) (cb : Nat) (b : List UInt8) (w : World) (hk : k.length = 16) (hrk : Rd w w.heap.size 1 K 16 (bvs k))
    (hn : (a.length : Int) ≤ 4096) (hra : Rd w w.heap.size 1 A a.length (bvs a)) (hb : b.length = a.length) (hrb : Rd w w.heap.size 1 B a.length (bvs b)) :
    Calls Try.prog 16 #[.slice K 16 c, .int .u32 (iv : Int), .slice A a.length ca, .slice B a.length cb] w fun e w' => e = .returned (.bool true) ∧ Below w.heap.size w w' := by
  have h1 : decide (4096 < (a.length : Int)) = false := by simp; omega
  have hn9 : (a.length : Int) ≤ 1000000000 := by omega
  have hTa := fun W (h : Below w.heap.size w W) => c_turn K c k iv hiv A a.length ca a W hk ((hrk.below h).more h.size) rfl hn ((hra.below h).more h.size)
  have hTb := fun W (h : Below w.heap.size w W) => c_turn K c k iv hiv B a.length cb b W hk ((hrk.below h).more h.size) hb hn ((hrb.below h).more h.size)
  have hxl : (xorL a b).length = a.length := xorL_len a b
  have hTx := fun (D : Option Addr) (d : Nat) W (h : Below w.heap.size w W) hr => c_turn K c k iv hiv D a.length d (xorL a b) W hk ((hrk.below h).more h.size) hxl hn hr
  have hXl : (turnL k iv a).length = a.length := turnL_len k iv a
  have hZl : (turnL k iv (xorL a b)).length = a.length := by rw [turnL_len, hxl]
  have hXY : (turnL k iv a == turnL k iv b) = (a == b) := by
    rw [Bool.eq_iff_iff, beq_iff_eq, beq_iff_eq]
    constructor
    · intro h
      unfold turnL at h
      rw [hb] at h
      exact xorL_inj (by rw [streamL_len]) (by rw [streamL_len, hb]) h
    · rintro rfl
      rfl
  have hZ : ∀ i (h : i < a.length), (turnL k iv (xorL a b))[i]'(by rw [hZl]; exact h) = (turnL k iv a)[i]'(by rw [hXl]; exact h) ^^^ b[i]'(by rw [hb]; exact h) := by
    intro i h
    have e1 := xorL_get (streamL k iv (xorL a b).length) (xorL a b) i (by rw [streamL_len, hxl]; exact h) (by rw [hxl]; exact h)
    have e2 := xorL_get (streamL k iv a.length) a i (by rw [streamL_len]; exact h) h
    have e3 := xorL_get a b i h (by omega)
    have e4 : (turnL k iv (xorL a b))[i]'(by rw [hZl]; exact h) = (xorL (streamL k iv (xorL a b).length) (xorL a b))[i]'(by rw [xorL_len, streamL_len, hxl]; exact h) := rfl
    have e5 : (turnL k iv a)[i]'(by rw [hXl]; exact h) = (xorL (streamL k iv a.length) a)[i]'(by rw [xorL_len, streamL_len]; exact h) := rfl
    rw [e4, e5, e1, e2, e3]
    simp only [hxl, UInt8.xor_assoc]
  have HZ := Lib.hid hZ
  have hmk := fun W => run_mkN .i64 .i64 a.length (by omega) W
  have HTA := Lib.hid hTa
  have HTB := Lib.hid hTb
  have HTX := Lib.hid hTx
  have HRA := Lib.hid hra
  have HRB := Lib.hid hrb
  clear hTa hTb hTx hrk hra hrb hn hiv hk hxl hZ
  generalize turnL k iv a = X at *
  generalize turnL k iv b = Y at *
  generalize turnL k iv (xorL a b) = Z at *
  go_enter Try.func16, Try.ntmps16
  go_wp2_with fail
  refine (alive05 _).mono ?_
  rintro e w1 ⟨rfl, b1⟩
  have f0 := fr_mkN w1 a.length (by omega) (Nat.le_refl w1.heap.size)
  rw [← overTo_zero a b] at f0
  have b0 := below_new w1 (.cells (bvs (overTo a b 0)).toArray 5)
  have hz0 : noughts a.length = overTo a b 0 := (overTo_zero a b).symm
  rw [hz0] at hmk
  go_wp2
  clear hmk hz0
  go_loopw [11] (fun x wr => OvRel a b w1.heap.size w1 x wr) (fun x _ => a.length - (intOf x).toNat)
  case atStart => exact ⟨0, Nat.zero_le _, rfl, f0, b0⟩
  case round =>
    obtain ⟨i, hi, rfl, hf, hbl⟩ := hrel
    by_cases hlt : i < a.length
    · have hB := below_to b1 hbl b1.size
      obtain ⟨ga, oa, u, rfl, hga, hu, hca⟩ := (HRA.out.below hB).at_ hlt
      obtain ⟨gb, ob, v, rfl, hgb, hv, hcb⟩ := (HRB.out.below hB).at_ hlt
      have hu2 : u = .int .u8 (a[i].toNat : Int) := by
        rw [bvs_get, List.getElem?_eq_getElem hlt] at hu
        injection hu with hu
        exact hu.symm
      subst hu2
      have hv2 : v = .int .u8 ((b[i]'(by omega)).toNat : Int) := by
        rw [bvs_get, List.getElem?_eq_getElem (by omega)] at hv
        injection hv with hv
        exact hv.symm
      subst hv2
      obtain ⟨y, hy, hcy⟩ := hf.cell (i := i) hlt
      have hfz := hf.frozen (i := i) hlt
      have hst := overTo_step a b i hlt (by omega)
      have h0 : ¬ ((i : Int) < 0) := by omega
      have h0' : 0 ≤ (i : Int) := by omega
      have h1' : (i : Int) < (a.length : Int) := by omega
      have HF := Lib.hid hf
      have HST := Lib.hid hst
      have HBL := Lib.hid hbl
      clear hf hst hbl hu hv hy hB
      go_wp2
      go_region
      all_goals
        go_wp2
        go_roundw
        case rel =>
          refine ⟨i + 1, hlt, rfl, ?_, (HBL.out.drew).setCell (p := ⟨w1.heap.size, i, none⟩) (Nat.le_refl _) _⟩
          rw [← HST.out]
          have h := (HF.out.drew).set (by have := HF.out.nc; omega) i (bv (a[i] ^^^ (b[i]'(by omega))))
          have e0 : Value.int .u8 (bits .xor .u8 (a[i].toNat : Int) ((b[i]'(by omega)).toNat : Int)) = bv (a[i] ^^^ (b[i]'(by omega))) := by
            unfold bv
            rw [xor_u8]
          have e : bvs ((overTo a b i).set i (a[i] ^^^ (b[i]'(by omega)))) = (bvs (overTo a b i)).set i (bv (a[i] ^^^ (b[i]'(by omega)))) := by simp [bvs, List.map_set]
          rw [e, e0]
          exact h
        case measure => simp [intOf]; omega
    · obtain rfl : i = a.length := by omega
      rw [overTo_all] at hf
      have B2 := below_to b1 hbl b1.size
      have r2 := hf.rd
      clear hf hbl f0 b0
      go_wp2_with fail
      refine (HTA.out wr B2).mono ?_
      rintro e w3 ⟨D3, d3, rfl, f3, b3⟩
      have B3 := below_to B2 b3 B2.size
      have q3 := (r2.below b3).more b3.size
      have r3 := f3.rd
      clear f3 b3 r2
      go_wp2_with fail
      refine (HTB.out w3 B3).mono ?_
      rintro e w4 ⟨D4, d4, rfl, f4, b4⟩
      have B4 := below_to B3 b4 B3.size
      have q4 := (q3.below b4).more b4.size
      have r34 := (r3.below b4).more b4.size
      have r4 := f4.rd
      clear f4 b4 q3 r3
      go_wp2_with fail
      refine (HTX.out _ _ w4 B4 q4).mono ?_
      rintro e w5 ⟨D5, d5, rfl, f5, b5⟩
      have B5 := below_to B4 b5 B4.size
      have r35 := (r34.below b5).more b5.size
      have r45 := (r4.below b5).more b5.size
      have r5 := f5.rd
      have rA := HRA.out.below B5
      have rB := HRB.out.below B5
      have k1 := conv r35 d3
      have k2 := conv r45 d4
      have k3 := conv rA ca
      have k4 := conv rB cb
      have HR3 := Lib.hid r35
      have HR5 := Lib.hid r5
      have HRB5 := Lib.hid rB
      have HB5 := Lib.hid B5
      clear f5 b5 B4 q4 r34 r4 r45 rA rB B2 B3 B5 r35 r5
      go_wp2
      clear k1 k2 k3 k4
      go_loopw [18] (fun x wr => ChRel w5 x wr a.length) (fun x _ => a.length - (intOf x).toNat)
      case atStart => exact ⟨0, 0, Nat.zero_le _, rfl, rfl⟩
      case round =>
        obtain ⟨j, N, hj, rfl, rfl⟩ := hrel
        by_cases hlt' : j < a.length
        · obtain ⟨g3, o3, u3, rfl, _, hu3, hc3⟩ := HR3.out.at_ hlt'
          obtain ⟨g5, o5, u5, rfl, _, hu5, hc5⟩ := HR5.out.at_ hlt'
          obtain ⟨gb, ob, ub, rfl, _, hub, hcb⟩ := HRB5.out.at_ hlt'
          have e3 : u3 = .int .u8 ((X[j]'(by omega)).toNat : Int) := by
            rw [bvs_get, List.getElem?_eq_getElem (by omega)] at hu3
            injection hu3 with hu3
            exact hu3.symm
          have e5 : u5 = .int .u8 ((Z[j]'(by omega)).toNat : Int) := by
            rw [bvs_get, List.getElem?_eq_getElem (by omega)] at hu5
            injection hu5 with hu5
            exact hu5.symm
          have eb : ub = .int .u8 ((b[j]'(by omega)).toNat : Int) := by
            rw [bvs_get, List.getElem?_eq_getElem (by omega)] at hub
            injection hub with hub
            exact hub.symm
          subst e3 e5 eb
          have hz := HZ.out j hlt'
          have hx := xor_u8 (X[j]'(by omega)) (b[j]'(by omega))
          rw [← hz] at hx
          have h0 : ¬ ((j : Int) < 0) := by omega
          have h0' : 0 ≤ (j : Int) := by omega
          have h1' : (j : Int) < (a.length : Int) := by omega
          clear hu3 hu5 hub hz
          generalize ((X[j]'(by omega)).toNat : Int) = x1 at *
          generalize ((Z[j]'(by omega)).toNat : Int) = z1 at *
          generalize ((b[j]'(by omega)).toNat : Int) = y1 at *
          go_wp2
          go_quiet (fail)
          go_wp2
          go_roundw
          case rel => exact ⟨j + 1, _, by omega, rfl, rfl⟩
          case measure => simp [intOf]; omega
        · obtain rfl : j = a.length := by omega
          go_wp2
          go_ret
          exact ⟨rfl, below_drewN HB5.out _⟩
theorem cipherOver_walk (K : Option Addr) (m c : Nat) (k : List UInt8) (iv : Nat) (hiv : (iv : Int) < 4294967296) (A : Option Addr) (na ca : Nat) (a : List UInt8) (B : Option Addr) (nb cb : Nat) (b : List UInt8) (w : World) (hk : k.length = m) (hrk : Rd w w.heap.size 1 K m (bvs k))
    (ha : a.length = na) (hra : Rd w w.heap.size 1 A na (bvs a)) (hb : b.length = nb) (hrb : Rd w w.heap.size 1 B nb (bvs b)) :
    Calls Try.prog 16 #[.slice K m c, .int .u32 (iv : Int), .slice A na ca, .slice B nb cb] w fun e w' => e = .returned (.bool true) ∧ Below w.heap.size w w' := by
  by_cases h0 : m = 16
  · by_cases h1 : 4096 < (na : Int)
    · exact cipherOver_b K m c iv A na ca B nb cb w h0 h1
    · by_cases h2 : nb = na
      · subst h0 h2 ha
        exact cipherOver_ok K c k iv hiv A ca a B cb b w hk hrk (by omega) hra hb hrb
      · exact cipherOver_l K m c iv A na ca B nb cb w h0 (by simp; omega) (by simp; omega)
  · exact cipherOver_k K m c iv A na ca B nb cb w (by simp; omega)
end Go.Proofs.Ytfjjkkakhfgdhaa
