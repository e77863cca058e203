/-
  The walk of DevTurned.
-/
import Derived.Test.YtkaklppkmokffaaLaw09b
import Derived.Test.YtkaklppkmokffaaDevQ
namespace Go.Proofs.Ytkaklppkmokffaa
open Go.RowKit
set_option linter.unusedVariables false
set_option linter.unusedSimpArgs false
set_option maxRecDepth 100000
attribute [local go_sem] str_toList toList_mk

/-! ### plain -/
def allT : Nat → Bool := fun _ => true
def covI (c : Ct) (a : Int) (i : Nat) : Bool := (lastI c.w Prod.fst allT a i).isSome
theorem covI_step {c : Ct} {a : Int} {i : Nat} {x : Int × List UInt8} (h : c.w[i]? = some x) : covI c a (i + 1) = (covI c a i || decide (x.1 = a)) := by
  unfold covI
  rw [lastI]
  simp only [h, allT, true_and]
  by_cases e : x.1 = a <;> simp [e]
theorem u8_xor_self (x v : UInt8) : x ^^^ v = x ↔ v = 0 := by
  constructor
  · intro h
    have h1 : x ^^^ (x ^^^ v) = x ^^^ x := by rw [h]
    rw [← UInt8.xor_assoc, UInt8.xor_self, UInt8.zero_xor] at h1
    exact h1
  · rintro rfl
    exact UInt8.xor_zero
theorem turnB_get (l : List UInt8) (b : Nat) (v : UInt8) {k : Nat} (hk : k < l.length) : (turnB l b v)[k]? = some (if k = b then l[k] ^^^ v else l[k]) := by
  unfold turnB
  rw [List.getElem?_set]
  by_cases e : b = k
  · subst e
    simp [hk]
  · rw [if_neg e, if_neg (Ne.symm e), List.getElem?_eq_getElem hk]
theorem turnB_same {l : List UInt8} {b : Nat} (hb : b < l.length) (v : UInt8) : l = turnB l b v ↔ v = 0 := by
  constructor
  · intro h
    have h1 := turnB_get l b v hb
    rw [← h, if_pos rfl, List.getElem?_eq_getElem hb] at h1
    exact (u8_xor_self _ _).1 (Option.some.inj h1).symm
  · rintro rfl
    apply List.ext_getElem?
    intro k
    by_cases hk : k < l.length
    · rw [turnB_get l b 0 hk, List.getElem?_eq_getElem hk]
      split <;> simp
    · rw [List.getElem?_eq_none (by omega), List.getElem?_eq_none (by rw [turnB_len]; omega)]
theorem tamper_get {c : Ct} (h : c.May) {a b : Nat} (ha : a < 256) (v : UInt8) {i : Nat} (hi : i < 256) : ∃ l, c.b[i]? = some l ∧ l.length = 256 ∧ (c.tamper a b v).b[i]? = some (if i = a then turnB l b v else l) := by
  have hi' : i < c.b.length := by rw [h.1]; exact hi
  have ha' : a < c.b.length := by rw [h.1]; exact ha
  refine ⟨c.b[i], List.getElem?_eq_getElem hi', h.2.1 _ (List.getElem_mem hi'), ?_⟩
  show (c.b.set a (turnB (c.b.getD a []) b v))[i]? = _
  rw [List.getElem?_set]
  by_cases e : a = i
  · subst e
    simp [ha', List.getD_eq_getElem?_getD]
  · rw [if_neg e, if_neg (Ne.symm e), List.getElem?_eq_getElem hi']
theorem Ct.tamper_may {c : Ct} (h : c.May) (a b : Nat) (v : UInt8) : (c.tamper a b v).May := by
  refine ⟨by show (c.b.set _ _).length = 256; rw [List.length_set]; exact h.1, fun x hx => ?_, h.2.2.1, h.2.2.2⟩
  obtain ⟨j, hj, rfl⟩ := List.mem_iff_getElem.1 (show x ∈ c.b.set a _ from hx)
  have hj' : j < c.b.length := by simpa using hj
  rw [List.getElem_set]
  split
  · rename_i e
    subst e
    rw [turnB_len, List.getD_eq_getElem?_getD, List.getElem?_eq_getElem hj']
    exact h.2.1 _ (List.getElem_mem hj')
  · exact h.2.1 _ (List.getElem_mem hj')
theorem tamper_want {c : Ct} (h : c.May) {a b : Nat} (ha : a < 256) (hb : b < 256) (v : UInt8) (n : Nat) : (wantL c allT (a : Int) n == wantL (c.tamper a b v) allT (a : Int) n) = (covI c (a : Int) n || decide (v = 0)) := by
  unfold wantL covI
  have e : (c.tamper a b v).w = c.w := rfl
  rw [e]
  cases hl : lastI c.w Prod.fst allT (a : Int) n with
  | some x => simp
  | none =>
    obtain ⟨l, h1, h2, h3⟩ := tamper_get (b := b) h ha v ha
    rw [if_pos rfl] at h3
    simp only [Int.toNat_natCast, List.getD_eq_getElem?_getD, h1, h3, Option.getD_some, Option.isSome_none, Bool.false_or]
    rw [Bool.eq_iff_iff]
    simp only [beq_iff_eq, decide_eq_true_eq]
    exact turnB_same (by omega) v
/-! ### the walk -/
def TuR (V : World) (x : Value) (wr : World) : Prop := ∃ k : Nat, k ≤ 256 ∧ x = .int .i64 (k : Int) ∧ V = wr
def TuC (c : Ct) (a : Int) (n : Nat) (V : World) (q x : Value) (wr : World) : Prop := ∃ i : Nat, i ≤ n ∧ x = .int .i64 (i : Int) ∧ q = .bool (covI c a i) ∧ V = wr
set_option maxHeartbeats 4000000 in
theorem devTurned_walk (d : Dk) (at_ byt : Int) (v : UInt8) (w : World) (hd : d.ok w) (hat : I64 at_) (hbt : I64 byt) :
    Calls Try.prog 9 #[d.v, .int .i64 at_, .int .i64 byt, .int .u8 (v.toNat : Int)] w fun e w' => e = .returned (.bool true) ∧ Below w.heap.size w w' := by
  have hx := DkBox.new w (.slice d.A d.nB d.cB) (.slice d.W d.nW d.cW)
  have hb := below_new' w (.cells #[.slice d.A d.nB d.cB, .slice d.W d.nW d.cW] 25)
  have HX := Lib.hid hx
  have HB := Lib.hid hb
  have HD := Lib.hid hd
  have HAT := Lib.hid hat
  have HBT := Lib.hid hbt
  clear hx hb hd hat hbt
  simp only [Dk.v] at *
  go_enter Try.func9, Try.ntmps9
  go_wp2_with fail
  refine (alive09 _).mono ?_
  rintro e w1 ⟨rfl, b1⟩
  have hx := HX.out.below b1 HX.out.lt
  have HB1 := Lib.hid (below_to HB.out b1 HB.out.size)
  have HX1 := Lib.hid hx
  obtain ⟨x0, x1⟩ := hx.cells
  clear b1 hx HX HB
  go_wp2_with fail
  refine (g_great d w1 (HD.out.below HB1.out)).mono ?_
  rintro e w2 ⟨vg, rfl, hv, b2⟩
  have hx := HX1.out.below b2 HX1.out.lt
  have HB2 := Lib.hid (below_to HB1.out b2 HB1.out.size)
  have HX2 := Lib.hid hx
  clear x0 x1 b2 HX1 HB1
  obtain ⟨x0, x1⟩ := hx.cells
  clear hx
  cases vg with
  | true =>
    clear hv
    go_wp2
    go_ret
    exact ⟨rfl, HB2.out⟩
  | false =>
    obtain ⟨g1, g2⟩ := hv rfl
    obtain ⟨E, hE⟩ : ∃ E, E = errG d.c (decide ((0 ≤ at_ ∧ at_ < 256) ∧ 0 ≤ byt ∧ byt < 256)) := ⟨_, rfl⟩
    have htm := d_tamper d w2 (HD.out.below HB2.out) (by omega) (by omega) at_ byt v HAT.out HBT.out E hE
    have HTM := Lib.hid htm
    have HE := Lib.hid hE
    have HG1 := Lib.hid g1
    have HG2 := Lib.hid g2
    clear htm hE hv g1 g2
    go_wp2_with fail
    refine HTM.out.mono ?_
    rintro e w3 ⟨d', rfl, hn, b3⟩
    have hb4 := below_new' w3 (.cells #[.slice d'.A d'.nB d'.cB, .slice d'.W d'.nW d'.cW] 25)
    have HB4 := Lib.hid (below_to (below_to HB2.out b3 HB2.out.size) hb4 (below_to HB2.out b3 HB2.out.size).size)
    have HN4 := Lib.hid (hn.below hb4)
    have HX4 := Lib.hid ((HX2.out.below b3 HX2.out.lt).below hb4 (Nat.lt_of_lt_of_le HX2.out.lt b3.size))
    have HY4 := Lib.hid (DkBox.new w3 (.slice d'.A d'.nB d'.cB) (.slice d'.W d'.nW d'.cW))
    clear x0 x1 b3 hb4 hn HTM HX2
    by_cases he : E = 0
    · subst he
      obtain ⟨hm, hpl⟩ := errG_zero HE.out.symm
      obtain ⟨⟨h1, h2⟩, h3, h4⟩ := of_decide_eq_true hpl
      obtain ⟨a, rfl⟩ : ∃ a : Nat, at_ = (a : Int) := ⟨at_.toNat, by omega⟩
      obtain ⟨b, rfl⟩ : ∃ b : Nat, byt = (b : Int) := ⟨byt.toNat, by omega⟩
      have ha : a < 256 := by omega
      have hb : b < 256 := by omega
      rw [if_pos rfl, Int.toNat_natCast, Int.toNat_natCast] at HN4
      have HM := Lib.hid hm
      have HA := Lib.hid ha
      have HBb := Lib.hid hb
      clear hm hpl h1 h2 h3 h4 ha hb HE
      go_wp2
      generalize w3.alloc (.cells #[.slice d'.A d'.nB d'.cB, .slice d'.W d'.nW d'.cW] 25) = W4 at *
      have hd4 := HD.out.below HB4.out
      obtain ⟨hz1, hz2⟩ := hd4.sizes rfl HM.out
      obtain ⟨hz3, hz4⟩ := HN4.out.ok.sizes HN4.out.cc (Ct.tamper_may HM.out a b v)
      have HD4 := Lib.hid hd4
      have HZ := Lib.hid (show d.nB = 256 ∧ d'.nB = 256 ∧ d'.nW = d.nW ∧ d.nW = d.c.w.length from ⟨hz1, hz3, by rw [hz4, hz2]; rfl, hz2⟩)
      clear hd4 hz1 hz2 hz3 hz4
      go_loopw [12] (fun q wr => TuR W4 q wr) (fun q _ => 256 - (intOf q).toNat)
      case atStart => exact ⟨0, Nat.zero_le _, rfl, rfl⟩
      case round =>
        obtain ⟨i, hi, rfl, rfl⟩ := hrel
        by_cases hlt : i < 256
        · have hi1 : (i : Int) < 256 := by omega
          go_wp2
          go_loopw [13] (fun q wr => TuR W4 q wr) (fun q _ => 256 - (intOf q).toNat)
          case atStart => exact ⟨0, Nat.zero_le _, rfl, rfl⟩
          case round =>
            obtain ⟨k, hk, rfl, rfl⟩ := hrel
            by_cases hlk : k < 256
            · obtain ⟨l, hl1, hl2, hl3⟩ := tamper_get (b := b) HM.out HA.out v hlt
              obtain ⟨s, bs, os, hA, hbl, hcs, hss, hsb, -⟩ := HD4.out.block (k := i) (by rw [HZ.out.1]; exact hlt)
              obtain ⟨s', bs', os', hA', hbl', hcs', hss', hsb', -⟩ := HN4.out.ok.block (k := i) (by rw [HZ.out.2.1]; exact hlt)
              rw [hl1] at hsb
              rw [HN4.out.cc, hl3] at hsb'
              have e1 := Option.some.inj hsb
              have e2 := Option.some.inj hsb'
              have hsn : s.n = 256 := by rw [← hss.1, ← e1]; exact hl2
              have hsn' : s'.n = 256 := by rw [← hss'.1, ← e2]; split <;> simp only [turnB_len, hl2]
              obtain ⟨p, po, u, hp, hpb, hu, hpc⟩ := hss.2.1.at_ (k := k) (by omega)
              obtain ⟨p', po', u', hp', hpb', hu', hpc'⟩ := hss'.2.1.at_ (k := k) (by omega)
              have hkl : k < l.length := by omega
              rw [← e1, bvs_get, List.getElem?_eq_getElem hkl] at hu
              have hu1 : u = bv l[k] := (Option.some.inj hu).symm
              have hu2 : u' = bv (if i = a ∧ k = b then l[k] ^^^ v else l[k]) := by
                rw [← e2, bvs_get] at hu'
                by_cases e : i = a
                · rw [if_pos e, turnB_get l b v hkl] at hu'
                  rw [← (Option.some.inj hu')]
                  simp [e]
                · rw [if_neg e, List.getElem?_eq_getElem hkl] at hu'
                  rw [← (Option.some.inj hu')]
                  simp [e]
              subst hu1 hu2
              obtain ⟨x0, x1⟩ := HX4.out.cells
              obtain ⟨y0, y1⟩ := HY4.out.cells
              rw [hA] at x0
              rw [hA'] at y0
              rw [hp, hsn] at hcs
              rw [hp', hsn'] at hcs'
              have i0 : ¬ ((i : Int) < 0) := by omega
              have i1 : (i : Int) < (d.nB : Int) := by rw [HZ.out.1]; exact hi1
              have i2 : (i : Int) < (d'.nB : Int) := by rw [HZ.out.2.1]; exact hi1
              have k0 : ¬ ((k : Int) < 0) := by omega
              have k1 : (k : Int) < 256 := by omega
              have hxr := xor_u8 l[k] v
              clear hl1 hl2 hl3 hA hbl hss hsb hA' hbl' hss' hsb' e1 e2 hsn hsn' hp hpb hu hp' hpb' hu'
              unfold bv at hpc hpc'
              generalize l[k] = y at *
              by_cases hia : i = a
              · subst hia
                by_cases hkb : k = b
                · subst hkb
                  rw [if_pos ⟨rfl, rfl⟩, ← hxr] at hpc'
                  clear hxr
                  go_wp2
                  go_roundw
                  case rel => exact ⟨k + 1, by omega, by simp, rfl⟩
                  case measure => simp [intOf]; omega
                · have hkb2 : ((k : Int) == (b : Int)) = false := by simp; omega
                  rw [if_neg (fun h => hkb h.2)] at hpc'
                  clear hxr hkb
                  go_wp2
                  go_roundw
                  case rel => exact ⟨k + 1, by omega, by simp, rfl⟩
                  case measure => simp [intOf]; omega
              · have hia2 : ((i : Int) == (a : Int)) = false := by simp; omega
                rw [if_neg (fun h => hia h.1)] at hpc'
                clear hxr hia
                go_wp2
                go_roundw
                case rel => exact ⟨k + 1, by omega, by simp, rfl⟩
                case measure => simp [intOf]; omega
            · obtain rfl : k = 256 := by omega
              go_wp2
              go_roundw
              case rel => exact ⟨i + 1, by omega, by simp, rfl⟩
              case measure => simp [intOf]; omega
        · obtain rfl : i = 256 := by omega
          obtain ⟨x0, x1⟩ := HX4.out.cells
          have hnw9 : (d.nW : Int) ≤ 4106 := HG2.out
          have HNW9 := Lib.hid hnw9
          have hnw8 : (d.nW : Int) ≤ 1000000000 := by omega
          clear hnw9
          go_wp2
          go_loopw [15, 16] (fun q x wr => TuC d.c (a : Int) d.nW W4 q x wr) (fun _ x _ => d.nW - (intOf x).toNat)
          case atStart => exact ⟨0, Nat.zero_le _, rfl, rfl, rfl⟩
          case round =>
            clear x0 x1
            obtain ⟨i, hi, rfl, rfl, rfl⟩ := hrel
            obtain ⟨x0, x1⟩ := HX4.out.cells
            by_cases hlt : i < d.nW
            · obtain ⟨x, b2, off2, hW, hb2, c0, c1, hxs, hxa, hcw⟩ := HD4.out.write_ (k := i) hlt
              rw [hW] at x1
              have hst := covI_step (a := (a : Int)) hcw
              have i0 : ¬ ((i : Int) < 0) := by omega
              have i1 : (i : Int) < (d.nW : Int) := by omega
              have HST := Lib.hid hst
              clear hW hb2 c1 hxs hxa hcw hst
              generalize covI d.c (a : Int) i = q at *
              cases q with
              | true =>
                go_wp2
                go_roundw
                case rel => exact ⟨i + 1, by omega, by simp, by rw [HST.out, Bool.true_or], rfl⟩
                case measure => simp [intOf]; omega
              | false =>
                have hst2 : covI d.c (a : Int) (i + 1) = (x.a == (a : Int)) := by
                  rw [HST.out, Bool.false_or, Bool.eq_iff_iff]
                  simp
                have HST2 := Lib.hid hst2
                clear hst2
                go_wp2
                go_roundw
                case rel => exact ⟨i + 1, by omega, by simp, by rw [HST2.out], rfl⟩
                case measure => simp [intOf]; omega
            · obtain rfl : i = d.nW := by omega
              have ha64 : I64 (a : Int) := HAT.out
              have hpl : decide (0 ≤ (a : Int) ∧ (a : Int) < 256) = true := decide_eq_true (by have := HA.out; omega)
              have hr1 := d_read d W4 HD4.out (by have := HG1.out; omega) (by have := HG2.out; omega) (a : Int) ha64 0 (by rw [hpl]; exact (errG_ok HM.out).symm)
              have HR1 := Lib.hid hr1
              simp only [Dk.v] at hr1
              have HR1 := Lib.hid hr1
              clear hr1 ha64
              go_wp2_with fail
              refine HR1.out.mono ?_
              rintro e w5 ⟨s, rfl, hs, ho, hl, hb5⟩
              have hn5 := HN4.out.below hb5
              have hr2 := d_read d' w5 hn5.ok (by have := HZ.out; omega) (by have := HG2.out; have := HZ.out; omega) (a : Int) HAT.out 0 (by rw [hn5.cc, hpl]; exact (errG_ok (Ct.tamper_may HM.out a b v)).symm)
              rw [hn5.cc] at hr2
              simp only [Dk.v] at hr2
              have HR2 := Lib.hid hr2
              have hy5 := HY4.out.below hb5 HY4.out.lt
              have hx5 := HX4.out.below hb5 HX4.out.lt
              obtain ⟨y0, y1⟩ := hy5.cells
              have HX5 := Lib.hid hx5
              have HY5 := Lib.hid hy5
              have HB5 := Lib.hid (below_to HB4.out hb5 HB4.out.size)
              have HS := Lib.hid hs
              have HL := Lib.hid hl
              clear x0 x1 hr2 hs ho hl hb5 hn5 hy5 hx5 HR1 hpl
              go_wp2_with fail
              refine HR2.out.mono ?_
              rintro e w6 ⟨s', rfl, hs', ho', hl', hb6⟩
              have hy6 := HY5.out.below hb6 HY5.out.lt
              have hx6 := HX5.out.below hb6 HX5.out.lt
              clear y0 y1
              obtain ⟨y0, y1⟩ := hy6.cells
              obtain ⟨x0, x1⟩ := hx6.cells
              have cv := conv (HS.out.below hb6).2.1 s.c
              have cv' := conv hs'.2.1 s'.c
              have hw1 := wantL_end HM.out allT HA.out
              have hw2 := wantL_end (Ct.tamper_may HM.out a b v) allT HA.out
              have e1 : s.l = wantL d.c allT (a : Int) d.nW := by
                have := HL.out
                simp only [if_true] at this
                rw [Int.toNat_natCast, List.getD_eq_getElem?_getD] at this
                rw [this]
                show Option.getD (d.c.left allT).b[a]? [] = _
                rw [hw1, HZ.out.2.2.2]
                rfl
              have e2 : s'.l = wantL (d.c.tamper a b v) allT (a : Int) d.nW := by
                simp only [if_true] at hl'
                rw [Int.toNat_natCast, List.getD_eq_getElem?_getD] at hl'
                rw [hl']
                show Option.getD ((d.c.tamper a b v).left allT).b[a]? [] = _
                rw [hw2, HZ.out.2.2.2]
                rfl
              have heq := tamper_want HM.out HA.out HBb.out v d.nW
              rw [← e1, ← e2] at heq
              have hnw : ((d'.nW : Int) == (d.nW : Int)) = true := by simp [HZ.out.2.2.1]
              have HB6 := Lib.hid (below_to HB5.out hb6 HB5.out.size)
              clear hs' ho' hl' hb6 hy6 hx6 hw1 hw2 e1 e2 HS HL HR2 HX5 HY5 HD4 HN4
              generalize covI d.c (a : Int) d.nW = q at *
              cases q with
              | true =>
                rw [Bool.true_or] at heq
                go_wp2
                go_ret
                exact ⟨rfl, HB6.out⟩
              | false =>
                rw [Bool.false_or] at heq
                by_cases hv : v = 0
                · subst hv
                  have heq2 : (s.l == s'.l) = true := by rw [heq]; rfl
                  clear heq
                  go_wp2
                  go_ret
                  exact ⟨rfl, HB6.out⟩
                · have hv2 : ((v.toNat : Int) == 0) = false := by
                    simp
                    intro h
                    exact hv (UInt8.toNat_inj.1 (by simpa using h))
                  have heq2 : (s.l == s'.l) = false := by rw [heq]; simp [hv]
                  clear heq hv
                  go_wp2
                  go_ret
                  exact ⟨rfl, HB6.out⟩
    · have he2 : (E != 0) = true := by simp [he]
      have hz := HN4.out
      rw [if_neg he] at hz
      obtain ⟨z1, z2⟩ := hz.none_
      have z3 : ((d'.nB : Int) == 0) = true := by rw [z1]; rfl
      obtain ⟨y0, y1⟩ := HY4.out.cells
      clear hz z1 z2 HN4 he
      go_wp2
      go_ret
      exact ⟨rfl, HB4.out⟩
end Go.Proofs.Ytkaklppkmokffaa
