/-
  charterhouseref05: contracts of Bytes, Stream, Turned, Turn.
-/
import Derived.Test.YtfjjkkakhfgdhaaRef01
import Derived.Test.YtfjjkkakhfgdhaaRef02K
import Derived.Test.YtfjjkkakhfgdhaaTurnC
import Derived.Deep.RegionLaw
namespace Go.Proofs.Ytfjjkkakhfgdhaa
open Go.RowKit
set_option linter.unusedVariables false
set_option linter.unusedSimpArgs false
set_option maxRecDepth 100000


theorem step_append_to {P : Program} {t e : TypeId} {sz bys : Nat} {z : Value} {ops : Array Oper} {o : Oper} {a : Act} {w : World} {K : Act → World → Prop} {Q : Exit → Act → World → Prop} {E : Prop} (hgd : o.guard = none) (s x : Operand)
    (ho : o.op = .call { callee := .builtin .append, args := #[s, x], argTypes := #[t, t] }) (ok : ElemOk P t e sz bys z)
    {base B' : Nat} {A A' : Option Addr} {n c m c' : Nat} {xs ys : List Value} (hs : a.eval s = .slice A n c) (hfr : Fr w base e sz A n c xs) (hx : a.eval x = .slice A' m c') (hrd : Rd w B' sz A' m ys) (h1 : ∀ u ∈ ys, u.oneCell' = true)
    (nm : Nat) (hnm : n + m = nm) (zs : List Value) (hzs : xs ++ ys = zs) (h63 : nm ≤ maxLen) (hb : nm * bys ≤ 140737488355328) (hbase : base ≤ w.heap.size)
    (hK : ∀ D d w', Hid (Fr w' base e sz D nm d zs) → Hid (w.grownBy w' (rowOf A c)) → K (a.put o.dst (.slice D nm d)) w') :
    if Region.wanted o (yielded ops a.tmps) = true then Oper.wp P o a w K Q else E := by
  subst hnm hzs
  have hw : Region.wanted o (yielded ops a.tmps) = true := by simp [Region.wanted, hgd]
  rw [if_pos hw]
  obtain ⟨D, d, w', hr, h2, h3, h4⟩ := run_append_fr ok o.type hfr hrd h1 h63 hb hbase
  unfold Oper.wp
  rw [exec_append ho hs hx hr]
  exact hK D d w' (Lib.hid h2) (Lib.hid h3)
theorem fr_apart {A D : Option Addr} {c d X : Nat} (h : ∀ g, rowOf A c = some g → g < X) (k : ∀ g, rowOf D d = some g → X ≤ g) : rowOf A c = none ∨ rowOf A c ≠ rowOf D d := by
  by_cases hn : rowOf A c = none
  · exact .inl hn
  · obtain ⟨g, hg⟩ := Option.ne_none_iff_exists'.1 hn
    refine .inr fun e => ?_
    have h1 := h g hg
    have h2 := k g (e ▸ hg)
    omega
def RbRel (k : List UInt8) (iv : Nat) (w : World) (out j : Value) (wr : World) : Prop :=
  ∃ (i : Nat) (A : Option Addr) (c : Nat), i ≤ 257 ∧ j = .int .i64 (i : Int) ∧ out = .slice A (16 * i) c ∧ Fr wr w.heap.size 5 1 A (16 * i) c (bvs (strm k iv i)) ∧ Below w.heap.size w wr
set_option maxHeartbeats 2000000 in
theorem r_stream (K : Option Addr) (c : Nat) (k : List UInt8) (iv n : Nat) (hiv : (iv : Int) < 4294967296) (hn : (n : Int) ≤ 4096) (w : World) (hk : k.length = 16) (hr : Rd w w.heap.size 1 K 16 (bvs k)) :
    Calls Try.prog 58 #[.slice K 16 c, .int .u32 (iv : Int), .int .i64 (n : Int)] w fun e w' => ∃ D d, e = .returned (.slice D n d) ∧ Fr w' w.heap.size 5 1 D n d (bvs (streamL k iv n)) ∧ Below w.heap.size w w' := by
  have HK := Lib.hid hr
  have hby := fun W => ref_bytes (iv : Int) 4 W (by omega) (by omega) (by omega)
  rw [Int.toNat_natCast] at hby
  have HBY := Lib.hid hby
  have HKL := Lib.hid hk
  clear hr hby hk
  go_enter Try.func58, Try.ntmps58
  go_wp2
  go_loopw [7, 8] (fun out j wr => RbRel k iv w out j wr) (fun _ j _ => 257 - (intOf j).toNat)
  case atStart => exact ⟨0, none, 0, by omega, rfl, rfl, Fr.none_, Below.refl _ _⟩
  case round =>
    obtain ⟨i, A3, c3, hi, rfl, rfl, hf, hb⟩ := hrel
    by_cases hlt : 16 * i < n
    · have hnext : strm k iv (i + 1) = strm k iv i ++ blk k iv i := rfl
      have hblk : blk k iv i = keyOf (fourOf (k ++ (le 4 iv ++ le 4 i))) := rfl
      have h1 : 16 * (i : Int) < (n : Int) := by omega
      have hbj := fun W => ref_bytes (i : Int) 4 W (by omega) (by omega) (by omega)
      rw [Int.toNat_natCast] at hbj
      have HBJ := Lib.hid hbj
      have HNEXT := Lib.hid hnext
      have HBLK := Lib.hid hblk
      have HF := Lib.hid hf
      have HB := Lib.hid hb
      clear hnext hblk hf hb hbj
      generalize strm k iv i = S0 at *
      generalize hs1 : strm k iv (i + 1) = S1 at *
      have HS1 := Lib.hid hs1
      clear hs1
      generalize blk k iv i = BK at *
      have hap : ∀ g, rowOf A3 c3 = some g → g < wr.heap.size := fun g hg => (HF.out.row g hg).2
      have HAP := Lib.hid hap
      clear hap
      go_wp2_with (at_builtin; refine wpList_append_to rfl (.tmp 16) (.tmp 17) rfl okB rfl (Fr.none_ (w := wr) (base := wr.heap.size)) rfl (HK.out.below HB.out) (bvs_one _) 16 rfl (bvs k) rfl (by unfold maxLen; omega) (by omega) (Nat.le_refl _) ?_; intro D1 d1 w1 f1 g1 _)
      have b1 := (Below.refl wr.heap.size wr).grown g1 (Nat.le_refl _) (by intro q hq; rw [rowOf_zero] at hq; cases hq)
      have HF := Lib.hid (HF.out.below b1 (Nat.le_refl _))
      have HF1 := Lib.hid f1
      have HQ := Lib.hid b1
      clear f1 g1 b1
      go_wp2_with fail
      refine (HBY.out w1).mono ?_
      rintro e w2 ⟨A2, rfl, f2, b2⟩
      have HF := Lib.hid (HF.out.below b2 (Nat.le_refl _))
      have HF1 := Lib.hid (HF1.out.below b2 (Nat.le_refl _))
      have HQ := Lib.hid (below_to HQ.out b2 HQ.out.size)
      have HR2 := Lib.hid f2.rd
      clear f2 b2
      go_wp2_with (at_builtin; refine wpList_append_to rfl (.tmp 19) (.tmp 22) rfl okB rfl HF1.out rfl HR2.out (bvs_one _) 20 rfl (bvs (k ++ le 4 iv)) (bvs_app _ _).symm (by unfold maxLen; omega) (by omega) HQ.out.size ?_; intro D3 d3 w3 f3 g3 _)
      have HF := Lib.hid (HF.out.kept g3 (fr_apart HAP.out (fun g hg => (HF1.out.row g hg).1)))
      have HQ := Lib.hid (HQ.out.grown g3 HQ.out.size (fun g hg => (HF1.out.row g hg).1))
      have HF3 := Lib.hid f3
      clear f3 g3 HF1
      go_wp2_with fail
      refine (HBJ.out w3).mono ?_
      rintro e w4 ⟨A4, rfl, f4, b4⟩
      have HF := Lib.hid (HF.out.below b4 (Nat.le_refl _))
      have HF3 := Lib.hid (HF3.out.below b4 (Nat.le_refl _))
      have HQ := Lib.hid (below_to HQ.out b4 HQ.out.size)
      have HR4 := Lib.hid f4.rd
      clear f4 b4
      go_wp2_with (at_builtin; refine wpList_append_to rfl (.tmp 24) (.tmp 26) rfl okB rfl HF3.out rfl HR4.out (bvs_one _) 24 rfl (bvs (k ++ (le 4 iv ++ le 4 i))) (by rw [bvs_app, bvs_app, bvs_app, List.append_assoc]) (by unfold maxLen; omega) (by omega) HQ.out.size ?_; intro D5 d5 w5 f5 g5 _)
      have HF := Lib.hid (HF.out.kept g5 (fr_apart HAP.out (fun g hg => (HF3.out.row g hg).1)))
      have HQ := Lib.hid (HQ.out.grown g5 HQ.out.size (fun g hg => (HF3.out.row g hg).1))
      have HF5 := Lib.hid f5
      clear f5 g5 HF3
      go_wp2_with fail
      have hky := r_key D5 24 d5 (k ++ (le 4 iv ++ le 4 i)) w5 (by simp only [List.length_append, le_len, HKL.out]) (by omega) HF5.out.rd
      rw [← HBLK.out] at hky
      refine hky.mono ?_
      rintro e w6 ⟨A6, d6, rfl, f6, b6⟩
      have HF := Lib.hid (HF.out.below b6 (Nat.le_refl _))
      have HQ := Lib.hid (below_to HQ.out b6 HQ.out.size)
      have HR6 := Lib.hid f6.rd
      clear f6 b6 hky
      have HB := Lib.hid (below_to HB.out HQ.out HB.out.size)
      go_wp2_with (at_builtin; refine wpList_append_to rfl (.tmp 28) (.tmp 30) rfl okB rfl HF.out rfl HR6.out (bvs_one _) (16 * (i + 1)) (by omega) (bvs S1) (by rw [HNEXT.out, bvs_app]) (by unfold maxLen; omega) (by omega) HB.out.size ?_; intro D7 d7 w7 f7 g7 _)
      have b7 := HB.out.grown g7 HB.out.size (fun g hg => (HF.out.row g hg).1)
      clear g7
      have HF7 := Lib.hid f7
      have HB7 := Lib.hid b7
      clear f7 b7
      go_wp2
      go_roundw
      case rel => exact ⟨i + 1, _, _, by omega, by simp, rfl, by rw [HS1.out]; exact HF7.out, HB7.out⟩
      case measure => simp [intOf]; omega
    · have hst := strm_take k iv n i (by omega)
      have hnc := hf.nc
      have hft := hf.take (k := n) (by omega)
      rw [Nat.mul_one, ← bvs_take, hst] at hft
      have HF := Lib.hid hft
      have HB := Lib.hid hb
      have hnd : (n : Int) ≤ (c3 : Int) := by omega
      have hlt2 : ¬ (16 * (i : Int) < (n : Int)) := by omega
      clear hf hft hb hst hnc
      go_wp2
      go_ret
      exact ⟨_, _, rfl, HF.out, HB.out⟩

def RtRel (X : List UInt8) (w w0 : World) (out i : Value) (wr : World) : Prop :=
  ∃ (j : Nat) (A : Option Addr) (c : Nat), j ≤ X.length ∧ i = .int .i64 (j : Int) ∧ out = .slice A j c ∧ Fr wr w0.heap.size 5 1 A j c (bvs (X.take j)) ∧ Below w0.heap.size w0 wr
set_option maxHeartbeats 2000000 in
theorem r_turned (K : Option Addr) (c : Nat) (k : List UInt8) (iv : Nat) (hiv : (iv : Int) < 4294967296) (B : Option Addr) (n d : Nat) (b : List UInt8) (w : World) (hk : k.length = 16) (hr : Rd w w.heap.size 1 K 16 (bvs k))
    (hb : b.length = n) (hn : (n : Int) ≤ 4096) (hrb : Rd w w.heap.size 1 B n (bvs b)) :
    Calls Try.prog 59 #[.slice K 16 c, .int .u32 (iv : Int), .slice B n d] w fun e w' => ∃ D d', e = .returned (.slice D n d') ∧ Fr w' w.heap.size 5 1 D n d' (bvs (turnL k iv b)) ∧ Below w.heap.size w w' := by
  have hs := r_stream K c k iv n hiv hn w hk hr
  have hsl := streamL_len k iv n
  have htl : turnL k iv b = xorL (streamL k iv n) b := by rw [turnL, hb]
  have hxg : ∀ (i : Nat) (h1 : i < (streamL k iv n).length) (h2 : i < b.length), (xorL (streamL k iv n) b).take (i + 1) = (xorL (streamL k iv n) b).take i ++ [b[i] ^^^ (streamL k iv n)[i]] := fun i h1 h2 => by
    rw [List.take_succ_eq_append_getElem (by rw [xorL_len]; exact h1), xorL_get _ _ i h1 h2, UInt8.xor_comm]
  have hxl := xorL_len (streamL k iv n) b
  rw [htl]
  have HS := Lib.hid hs
  have HR := Lib.hid hrb
  have HXG := Lib.hid hxg
  clear hs hr hrb htl hxg
  generalize streamL k iv n = s at *
  generalize xorL s b = X at *
  go_enter Try.func59, Try.ntmps59
  go_wp2_with fail
  refine HS.out.mono ?_
  rintro e w1 ⟨D1, d1, rfl, f1, b1⟩
  have HS1 := Lib.hid f1.rd
  have HB1 := Lib.hid b1
  have HR1 := Lib.hid (HR.out.below b1)
  clear f1 b1 HS
  go_wp2
  go_loopw [8, 9] (fun out i wr => RtRel X w w1 out i wr) (fun _ i _ => n - (intOf i).toNat)
  case atStart => exact ⟨0, none, 0, by omega, rfl, rfl, Fr.none_, Below.refl _ _⟩
  case round =>
    obtain ⟨i, A3, c3, hi, rfl, rfl, hf, hbl⟩ := hrel
    by_cases hlt : i < n
    · obtain ⟨g1, o1, u1, rfl, hg1, hu1, hc1⟩ := (HR1.out.below (hbl.mono HB1.out.size)).at_ hlt
      obtain ⟨g2, o2, u2, rfl, hg2, hu2, hc2⟩ := (HS1.out.below hbl).at_ hlt
      have e1 : u1 = .int .u8 (b[i].toNat : Int) := by
        rw [bvs_get, List.getElem?_eq_getElem (by omega)] at hu1
        injection hu1 with hu1
        exact hu1.symm
      have e2 : u2 = .int .u8 ((s[i]'(by omega)).toNat : Int) := by
        rw [bvs_get, List.getElem?_eq_getElem (by omega)] at hu2
        injection hu2 with hu2
        exact hu2.symm
      subst e1 e2
      have hx := xor_u8 b[i] (s[i]'(by omega))
      have hnx := HXG.out i (by omega) (by omega)
      have h0 : ¬ ((i : Int) < 0) := by omega
      have h1 : (i : Int) < (n : Int) := by omega
      have HX := Lib.hid hx
      have HNX := Lib.hid hnx
      have HF := Lib.hid hf
      have HBL := Lib.hid hbl
      clear hx hnx hf hbl hu1 hu2 HXG
      generalize hxb : b[i] = x1 at *
      generalize hxs : (s[i]'(by omega)) = x2 at *
      clear hxb hxs
      go_wp2
      have hHB : w1.heap.size ≤ wr.heap.size := HBL.out.size
      go_region_law (go_loud (refine step_append_to rfl (.tmp 21) (.tmp 31) rfl okB (by simp [Act.eval, Act.put] <;> rfl) (HF.out.alloc (.cells [Value.int .u8 (bits .xor .u8 (x1.toNat : Int) (x2.toNat : Int))].toArray 5)).drew (by simp [Act.eval, Act.put] <;> rfl) (Rd.made wr 5 1 1 [Value.int .u8 (bits .xor .u8 (x1.toNat : Int) (x2.toNat : Int))] rfl).drew (by intro u hu; simp at hu; subst hu; rfl) (i + 1) rfl (bvs (X.take (i + 1))) (by rw [HNX.out, bvs_app, HX.out]; rfl) (by unfold maxLen; omega) (by omega) (by show _ ≤ (wr.alloc _).heap.size; rw [World.size_alloc]; exact Nat.le_succ_of_le hHB) ?_; intro D9 d9 w9 f9 g9))
      all_goals
        have hb9 := (below_alloc HBL.out (.cells [Value.int .u8 (bits .xor .u8 (x1.toNat : Int) (x2.toNat : Int))].toArray 5) (Nat.le_refl _)).drew.grown g9.out (by show _ ≤ (wr.alloc _).heap.size; rw [World.size_alloc]; exact Nat.le_succ_of_le hHB) (fun g hg => (HF.out.row g hg).1)
        have HB9 := Lib.hid hb9
        clear hb9
        go_wp2
        go_roundw
        case rel => exact ⟨i + 1, _, _, by omega, by simp, rfl, f9.out, HB9.out⟩
        case measure => simp [intOf]; omega
    · obtain rfl : i = n := by omega
      have HF := Lib.hid (hf.mono (base' := w.heap.size) HB1.out.size)
      have HB := Lib.hid (below_to HB1.out hbl HB1.out.size)
      rw [List.take_of_length_le (by omega)] at HF
      clear hf hbl
      go_wp2
      go_ret
      exact ⟨_, _, rfl, HF.out, HB.out⟩
theorem r_refStream_k (A : Option Addr) (m c : Nat) (iv : Nat) (n : Int) (w : World) (h1 : ((m : Int) != 16) = true) :
    Calls Try.prog 38 #[.slice A m c, .int .u32 (iv : Int), .int .i64 n] w fun e w' => e = .returned (.tuple #[.slice none 0 0, .int .i64 2]) ∧ w = w' := by
  go_enter Try.func38, Try.ntmps38
  go_wp2
  go_ret2
  exact ⟨rfl, rfl⟩
theorem r_refStream_l (A : Option Addr) (m c : Nat) (iv : Nat) (n : Int) (w : World) (h1 : m = 16) (h2 : n < 0) :
    Calls Try.prog 38 #[.slice A m c, .int .u32 (iv : Int), .int .i64 n] w fun e w' => e = .returned (.tuple #[.slice none 0 0, .int .i64 2]) ∧ w = w' := by
  subst h1
  go_enter Try.func38, Try.ntmps38
  go_wp2
  go_ret2
  exact ⟨rfl, rfl⟩
theorem r_refStream_h (A : Option Addr) (m c : Nat) (iv : Nat) (n : Int) (w : World) (h1 : m = 16) (h2 : decide (n < 0) = false) (h3 : 4096 < n) :
    Calls Try.prog 38 #[.slice A m c, .int .u32 (iv : Int), .int .i64 n] w fun e w' => e = .returned (.tuple #[.slice none 0 0, .int .i64 2]) ∧ w = w' := by
  subst h1
  go_enter Try.func38, Try.ntmps38
  go_wp2
  go_ret2
  exact ⟨rfl, rfl⟩
theorem r_refStream (A : Option Addr) (c : Nat) (k : List UInt8) (iv n : Nat) (hiv : (iv : Int) < 4294967296) (hn : (n : Int) ≤ 4096) (w : World) (hk : k.length = 16) (hrk : Rd w w.heap.size 1 A 16 (bvs k)) :
    Calls Try.prog 38 #[.slice A 16 c, .int .u32 (iv : Int), .int .i64 (n : Int)] w fun e w' => ∃ D d, e = .returned (.tuple #[.slice D n d, .int .i64 0]) ∧ Fr w' w.heap.size 5 1 D n d (bvs (streamL k iv n)) ∧ Below w.heap.size w w' := by
  have hs := r_stream A c k iv n hiv hn w hk hrk
  have HS := Lib.hid hs
  have h1 : decide ((n : Int) < 0) = false := by simp
  have h2 : decide (4096 < (n : Int)) = false := by simp; omega
  clear hs hrk
  go_enter Try.func38, Try.ntmps38
  go_wp2_with fail
  refine HS.out.mono ?_
  rintro e w1 ⟨D, d1, rfl, f1, b1⟩
  go_wp2
  go_ret2
  exact ⟨_, _, rfl, f1, b1⟩
theorem r_refTurn_k (A : Option Addr) (m c : Nat) (iv : Nat) (B : Option Addr) (n d : Nat) (w : World) (h1 : ((m : Int) != 16) = true) :
    Calls Try.prog 39 #[.slice A m c, .int .u32 (iv : Int), .slice B n d] w fun e w' => e = .returned (.tuple #[.slice none 0 0, .int .i64 2]) ∧ w = w' := by
  go_enter Try.func39, Try.ntmps39
  go_wp2
  go_ret2
  exact ⟨rfl, rfl⟩
theorem r_refTurn_h (A : Option Addr) (m c : Nat) (iv : Nat) (B : Option Addr) (n d : Nat) (w : World) (h1 : m = 16) (h2 : 4096 < (n : Int)) :
    Calls Try.prog 39 #[.slice A m c, .int .u32 (iv : Int), .slice B n d] w fun e w' => e = .returned (.tuple #[.slice none 0 0, .int .i64 3]) ∧ w = w' := by
  subst h1
  go_enter Try.func39, Try.ntmps39
  go_wp2
  go_ret2
  exact ⟨rfl, rfl⟩
theorem r_refTurn (A : Option Addr) (c : Nat) (k : List UInt8) (iv : Nat) (hiv : (iv : Int) < 4294967296) (B : Option Addr) (n d : Nat) (b : List UInt8) (w : World) (hk : k.length = 16) (hrk : Rd w w.heap.size 1 A 16 (bvs k))
    (hb : b.length = n) (hn : (n : Int) ≤ 4096) (hrb : Rd w w.heap.size 1 B n (bvs b)) :
    Calls Try.prog 39 #[.slice A 16 c, .int .u32 (iv : Int), .slice B n d] w fun e w' => ∃ D d', e = .returned (.tuple #[.slice D n d', .int .i64 0]) ∧ Fr w' w.heap.size 5 1 D n d' (bvs (turnL k iv b)) ∧ Below w.heap.size w w' := by
  have hs := r_turned A c k iv hiv B n d b w hk hrk hb hn hrb
  have HS := Lib.hid hs
  have h2 : decide (4096 < (n : Int)) = false := by simp; omega
  clear hs hrk hrb
  go_enter Try.func39, Try.ntmps39
  go_wp2_with fail
  refine HS.out.mono ?_
  rintro e w1 ⟨D, d1, rfl, f1, b1⟩
  go_wp2
  go_ret2
  exact ⟨_, _, rfl, f1, b1⟩
end Go.Proofs.Ytfjjkkakhfgdhaa
