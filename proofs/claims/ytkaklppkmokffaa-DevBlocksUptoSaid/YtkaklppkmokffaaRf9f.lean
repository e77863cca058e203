/-
  Contracts of charterhouseref09.last, left, Seen.
-/
import Derived.Test.YtkaklppkmokffaaLaw09b
import Derived.Test.YtkaklppkmokffaaDevT
namespace Go.Proofs.Ytkaklppkmokffaa
open Go.RowKit
set_option linter.unusedVariables false
set_option linter.unusedSimpArgs false
set_option maxRecDepth 100000

/-- The place of the last of the first i writes on block a of which it is so; below nought: there is none. -/
def lastN (ws : List (Int × List UInt8)) (so : Nat → Bool) (a : Int) : Nat → Int
  | 0 => -1
  | i + 1 => match ws[i]? with
    | some x => if so i = true ∧ x.1 = a then (i : Int) else lastN ws so a i
    | none => lastN ws so a i
theorem lastN_is (ws : List (Int × List UInt8)) (so : Nat → Bool) (a : Int) : ∀ i, (lastN ws so a i < 0 ∧ lastN ws so a i = -1 ∧ lastI ws Prod.fst so a i = none) ∨ ∃ k : Nat, lastN ws so a i = (k : Int) ∧ k < i ∧ k < ws.length ∧ lastI ws Prod.fst so a i = ws[k]?
  | 0 => .inl ⟨by simp [lastN], rfl, rfl⟩
  | i + 1 => by
    rw [lastN, lastI]
    cases hw : ws[i]? with
    | none =>
      rcases lastN_is ws so a i with h | ⟨k, h1, h2, h3, h4⟩
      · exact .inl h
      · exact .inr ⟨k, h1, by omega, h3, h4⟩
    | some x =>
      simp only
      by_cases hc : so i = true ∧ x.1 = a
      · rw [if_pos hc, if_pos hc]
        exact .inr ⟨i, rfl, by omega, (List.getElem?_eq_some_iff.1 hw).1, hw.symm⟩
      · rw [if_neg hc, if_neg hc]
        rcases lastN_is ws so a i with h | ⟨k, h1, h2, h3, h4⟩
        · exact .inl h
        · exact .inr ⟨k, h1, by omega, h3, h4⟩
/-- Which are so, by marks; no marks: all. -/
def soK (keep : List Bool) (i : Nat) : Bool := if keep.length = 0 then true else markB keep i
def LsN (ws : List (Int × List UInt8)) (so : Nat → Bool) (a : Int) (n : Nat) (V : World) (x : Value) (wr : World) : Prop :=
  ∃ j : Nat, j ≤ n ∧ x = .int .i64 ((j : Int) - 1) ∧ lastN ws so a n = lastN ws so a j ∧ V = wr
set_option maxHeartbeats 4000000 in
theorem r_last (d : Dk) (K : Option Addr) (m kc : Nat) (keep : List Bool) (at_ : Int) (w : World) (hd : d.ok w) (hW6 : (d.nW : Int) ≤ 1000000) (hl : keep.length = m) (hr : Rd w w.heap.size 1 K m (bos keep)) (hm : m = 0 ∨ m = d.nW) :
    Calls Try.prog 65 #[d.v, .slice K m kc, .int .i64 at_] w fun e w' => e = .returned (.int .i64 (lastN d.c.w (soK keep) at_ d.nW)) ∧ Below w.heap.size w w' := by
  have hx := DkBox.new w (.slice d.A d.nB d.cB) (.slice d.W d.nW d.cW)
  have hb := below_new' w (.cells #[.slice d.A d.nB d.cB, .slice d.W d.nW d.cW] 25)
  have HX := Lib.hid hx
  have HB := Lib.hid hb
  have HD := Lib.hid (hd.below hb)
  have HR := Lib.hid (hr.below hb)
  have HL := Lib.hid hl
  have HM := Lib.hid hm
  obtain ⟨x0, x1⟩ := hx.cells
  clear hx hb hd hr hl hm
  simp only [Dk.v] at *
  go_enter Try.func65, Try.ntmps65
  go_wp2
  clear x0 x1
  generalize w.alloc (.cells #[.slice d.A d.nB d.cB, .slice d.W d.nW d.cW] 25) = W1 at *
  go_loopw [7] (fun x wr => LsN d.c.w (soK keep) at_ d.nW W1 x wr) (fun x _ => (intOf x + 1).toNat)
  case atStart => exact ⟨d.nW, Nat.le_refl _, rfl, rfl, rfl⟩
  case round =>
    obtain ⟨j, hj, rfl, heq, rfl⟩ := hrel
    obtain ⟨x0, x1⟩ := HX.out.cells
    have HEQ := Lib.hid heq
    clear heq
    by_cases h0 : j = 0
    · subst h0
      have h1 : ((0 : Nat) : Int) - 1 = -1 := rfl
      go_wp2
      go_ret
      exact ⟨by rw [HEQ.out]; rfl, HB.out⟩
    · obtain ⟨i, rfl⟩ : ∃ i, j = i + 1 := ⟨j - 1, by omega⟩
      have hji : (((i + 1 : Nat) : Int) - 1) = (i : Int) := by omega
      rw [hji]
      obtain ⟨x, b, off, hW, hbl, c0, c1, hxs, hxa, hcw⟩ := HD.out.write_ (k := i) (by omega)
      rw [hW] at x1
      have i0 : (0 : Int) ≤ (i : Int) := by omega
      have i1 : ¬ ((i : Int) < 0) := by omega
      have i2 : (i : Int) < (d.nW : Int) := by omega
      have hst : lastN d.c.w (soK keep) at_ (i + 1) = if soK keep i = true ∧ x.a = at_ then (i : Int) else lastN d.c.w (soK keep) at_ i := by
        rw [lastN, hcw]
      have HST := Lib.hid hst
      clear hW hbl c1 hxs hxa hcw hst
      by_cases ha : x.a = at_
      · have ha2 : (x.a == at_) = true := by simp [ha]
        have HA := Lib.hid ha
        clear ha
        by_cases hm0 : m = 0
        · have hm2 : ((m : Int) == 0) = true := by simp [hm0]
          have hso : soK keep i = true := by unfold soK; rw [if_pos (by rw [HL.out]; exact hm0)]
          have HSO := Lib.hid hso
          clear hm0 hso
          go_wp2
          go_ret
          exact ⟨by rw [HEQ.out, HST.out, if_pos ⟨HSO.out, HA.out⟩]; rfl, HB.out⟩
        · have hm2 : ((m : Int) == 0) = false := by simp; omega
          have hmw : m = d.nW := by have := HM.out; omega
          have hso : soK keep i = markB keep i := by unfold soK; rw [if_neg (by rw [HL.out]; exact hm0)]
          obtain ⟨bk, ok, u, hK, hbk, hu, hck⟩ := HR.out.at_ (k := i) (by omega)
          have hv : u = .bool (markB keep i) := by
            unfold markB
            rw [bos, List.getElem?_map, List.getElem?_eq_getElem (by rw [HL.out]; omega)] at hu
            rw [List.getD_eq_getElem?_getD, List.getElem?_eq_getElem (by rw [HL.out]; omega)]
            exact (Option.some.inj hu).symm
          subst hv
          have i3 : (i : Int) < (m : Int) := by omega
          have HSO := Lib.hid hso
          clear hm0 hmw hso hu hbk
          subst hK
          cases hq : markB keep i with
          | true =>
            rw [hq] at hck
            have HQ := Lib.hid hq
            clear hq
            go_wp2
            go_ret
            exact ⟨by rw [HEQ.out, HST.out, if_pos ⟨HSO.out.trans HQ.out, HA.out⟩]; rfl, HB.out⟩
          | false =>
            rw [hq] at hck
            have HQ := Lib.hid hq
            clear hq
            go_wp2
            go_roundw
            case rel => exact ⟨i, by omega, by simp, by rw [HEQ.out, HST.out, if_neg (fun h => by rw [HSO.out, HQ.out] at h; cases h.1)], rfl⟩
            case measure => first | (simp [intOf]; done) | (simp [intOf]; omega)
      · have ha2 : (x.a == at_) = false := by simp [ha]
        have HA := Lib.hid ha
        clear ha
        go_wp2
        go_roundw
        case rel => exact ⟨i, by omega, by simp, by rw [HEQ.out, HST.out, if_neg (fun h => HA.out h.2)], rfl⟩
        case measure => first | (simp [intOf]; done) | (simp [intOf]; omega)
/-! ### left, Seen -/
theorem wantL_last (c : Ct) (so : Nat → Bool) (a : Int) (i : Nat) : (lastN c.w so a i < 0 ∧ wantL c so a i = c.b.getD a.toNat []) ∨ ∃ (k : Nat) (x : Int × List UInt8), lastN c.w so a i = (k : Int) ∧ c.w[k]? = some x ∧ wantL c so a i = x.2 := by
  rcases lastN_is c.w so a i with ⟨h1, h2, h3⟩ | ⟨k, h1, h2, h3, h4⟩
  · exact .inl ⟨h1, by unfold wantL; rw [h3]⟩
  · refine .inr ⟨k, c.w[k], h1, List.getElem?_eq_getElem h3, ?_⟩
    unfold wantL
    rw [h4, List.getElem?_eq_getElem h3]
set_option maxHeartbeats 4000000 in
theorem r_left (d : Dk) (K : Option Addr) (m kc : Nat) (keep : List Bool) (a : Nat) (w : World) (hd : d.ok w) (hmay : d.c.May) (hl : keep.length = m) (hr : Rd w w.heap.size 1 K m (bos keep)) (hm : m = 0 ∨ m = d.nW) (ha : a < 256) :
    Calls Try.prog 62 #[d.v, .slice K m kc, .int .i64 (a : Int)] w (OfP (wantL d.c (soK keep) (a : Int) d.nW) w) := by
  have hx := DkBox.new w (.slice d.A d.nB d.cB) (.slice d.W d.nW d.cW)
  have hb := below_new' w (.cells #[.slice d.A d.nB d.cB, .slice d.W d.nW d.cW] 25)
  obtain ⟨z1, z2⟩ := hd.sizes rfl hmay
  have hW6 : (d.nW : Int) ≤ 1000000 := by have := hmay.2.2.1; omega
  have hla := r_last d K m kc keep (a : Int) _ (hd.below hb) hW6 hl ((hr.below hb).more hb.size) hm
  have HLA := Lib.hid hla
  have HX := Lib.hid hx
  have HB := Lib.hid hb
  have HD := Lib.hid hd
  have HM := Lib.hid hmay
  have HZ := Lib.hid z1
  have HA := Lib.hid ha
  have hwl := wantL_last d.c (soK keep) (a : Int) d.nW
  have HWL := Lib.hid hwl
  clear hx hb hd hr hl hm hla hmay z1 z2 ha hwl
  simp only [Dk.v] at *
  go_enter Try.func62, Try.ntmps62
  go_wp2_with fail
  refine HLA.out.mono ?_
  rintro e w2 ⟨rfl, b2⟩
  have hx2 := HX.out.below b2 HX.out.lt
  have HB2 := Lib.hid (below_to HB.out b2 HB.out.size)
  obtain ⟨x0, x1⟩ := hx2.cells
  clear b2 hx2 HX HB HLA
  have hd2 := HD.out.below HB2.out
  rcases HWL.out with ⟨h1, h2⟩ | ⟨k, x, h1, h2, h3⟩
  · obtain ⟨s, b, off, hA, hbl, hc, hs, hsb, -⟩ := hd2.block (k := a) (by rw [HZ.out]; exact HA.out)
    rw [hA] at x0
    have a0 : ¬ ((a : Int) < 0) := by omega
    have a1 : (a : Int) < (d.nB : Int) := by have := HZ.out; have := HA.out; omega
    have hsl : s.l = wantL d.c (soK keep) (a : Int) d.nW := by
      rw [h2, Int.toNat_natCast, List.getD_eq_getElem?_getD, hsb]
      rfl
    have hn : (s.n : Int) ≤ 256 := by
      have := HM.out.2.1 _ (List.mem_of_getElem? hsb)
      have := hs.1
      omega
    have HS := Lib.hid hs
    have HSL := Lib.hid hsl
    have HN := Lib.hid hn
    clear hA hbl hs hsb hsl hn h2 hd2
    go_wp2_with (at_builtin; go_loud (refine wpList_append_to rfl (.const (.slice none 0 0)) (.tmp 18) rfl okB rfl (Fr.none_ (w := w2) (base := w.heap.size)) rfl HS.out.2.1 (bvs_one _) s.n (by omega) (bvs s.l) rfl (by have := HN.out; unfold maxLen; omega) (by have := HN.out; omega) HB2.out.size ?_; intro D dd w3 f3 g3 _))
    have hb3 := HB2.out.grown g3 HB2.out.size (by intro q hq; rw [rowOf_zero] at hq; cases hq)
    go_ret
    exact ⟨⟨D, s.n, dd, s.l⟩, rfl, f3.cameS, f3.ownS, HSL.out, hb3⟩
  · obtain ⟨y, b, off, hW, hbl, hc0, hc, hs, hya, hcw⟩ := hd2.write_ (k := k) (by
      have := (List.getElem?_eq_some_iff.1 h2).1
      rw [Dk.c_w, List.length_map, HD.out.lw] at this
      exact this)
    rw [hcw] at h2
    cases h2
    rw [hW] at x1
    rw [h1]
    have a0 : ¬ ((k : Int) < 0) := by omega
    have a1 : (k : Int) < (d.nW : Int) := by
      have := (List.getElem?_eq_some_iff.1 hcw).1
      rw [Dk.c_w, List.length_map, HD.out.lw] at this
      omega
    have hn : (y.s.n : Int) ≤ 256 := by
      have := (HM.out.2.2.2 _ (List.mem_of_getElem? hcw)).2
      have := hs.1
      simp only at *
      omega
    have HS := Lib.hid hs
    have HSL := Lib.hid h3
    have HN := Lib.hid hn
    clear hW hbl hc0 hs hya hcw h3 hn h1 hd2
    go_wp2_with (at_builtin; go_loud (refine wpList_append_to rfl (.const (.slice none 0 0)) (.tmp 25) rfl okB rfl (Fr.none_ (w := w2) (base := w.heap.size)) rfl HS.out.2.1 (bvs_one _) y.s.n (by omega) (bvs y.s.l) rfl (by have := HN.out; unfold maxLen; omega) (by have := HN.out; omega) HB2.out.size ?_; intro D dd w3 f3 g3 _))
    have hb3 := HB2.out.grown g3 HB2.out.size (by intro q hq; rw [rowOf_zero] at hq; cases hq)
    go_ret
    exact ⟨⟨D, y.s.n, dd, y.s.l⟩, rfl, f3.cameS, f3.ownS, HSL.out.symm, hb3⟩
theorem r_seen (d : Dk) (a : Nat) (w : World) (hd : d.ok w) (hmay : d.c.May) (ha : a < 256) :
    Calls Try.prog 46 #[d.v, .int .i64 (a : Int)] w (OfP (wantL d.c (fun _ => true) (a : Int) d.nW) w) := by
  have hx := DkBox.new w (.slice d.A d.nB d.cB) (.slice d.W d.nW d.cW)
  have hb := below_new' w (.cells #[.slice d.A d.nB d.cB, .slice d.W d.nW d.cW] 25)
  have hle := r_left d none 0 0 [] a _ (hd.below hb) hmay rfl Rd.nil_ (.inl rfl) ha
  have hso : soK [] = fun _ => true := by funext i; rfl
  rw [hso] at hle
  have HLE := Lib.hid hle
  have HB := Lib.hid hb
  clear hx hb hle hso hd hmay ha
  simp only [Dk.v] at *
  go_enter Try.func46, Try.ntmps46
  go_wp2_with fail
  refine HLE.out.mono ?_
  rintro e w2 ⟨s, rfl, hs, ho, hl, b2⟩
  have HB2 := Lib.hid (below_to HB.out b2 HB.out.size)
  have HO := Lib.hid (ho.mono HB.out.size)
  have HS := Lib.hid hs
  have HL := Lib.hid hl
  clear hs ho hl b2
  go_wp2
  go_ret
  exact ⟨s, rfl, HS.out, HO.out, HL.out, HB2.out⟩
end Go.Proofs.Ytkaklppkmokffaa
