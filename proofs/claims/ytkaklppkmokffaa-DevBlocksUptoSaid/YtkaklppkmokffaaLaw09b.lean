/-
  The walk of DevLast.
-/
import Derived.Test.YtkaklppkmokffaaLaw09a
namespace Go.Proofs.Ytkaklppkmokffaa
open Go.RowKit
set_option linter.unusedVariables false
set_option linter.unusedSimpArgs false
set_option maxRecDepth 100000

theorem conv {w : World} {B n : Nat} {A : Option Addr} {l : List UInt8} (h : Rd w B 1 A n (bvs l)) (c : Nat) : (convert 41 9 (.slice A n c)).run Try.prog w = .ok (.string (str l)) w :=
  run_conv Try.underlying41 Try.underlying5 Try.underlying9 h c
theorem errG_zero {c : Ct} {is : Bool} (h : errG c is = 0) : c.May ∧ is = true := by
  unfold errG at h
  split at h
  · rename_i hm
    split at h
    · rename_i h2
      exact ⟨hm, h2⟩
    · cases h
  · cases h
theorem Nw.none_ {base : Nat} {d : Dk} {w : World} (h : Nw ⟨[], []⟩ base d w) : d.nB = 0 ∧ d.nW = 0 := by
  have hc := h.cc
  unfold Dk.c at hc
  injection hc with h1 h2
  have e1 := h.ok.lb
  have e2 := h.ok.lw
  rw [List.map_eq_nil_iff.1 h1] at e1
  rw [List.map_eq_nil_iff.1 h2] at e2
  exact ⟨e1.symm, e2.symm⟩
/-- What is wanted of a block, of the first i writes. -/
def wantL (c : Ct) (so : Nat → Bool) (at_ : Int) (i : Nat) : List UInt8 := match lastI c.w Prod.fst so at_ i with
  | some x => x.2
  | none => c.b.getD at_.toNat []
theorem wantL_zero (c : Ct) (so : Nat → Bool) (at_ : Int) : wantL c so at_ 0 = c.b.getD at_.toNat [] := rfl
theorem wantL_hit {c : Ct} {so : Nat → Bool} {at_ : Int} {i : Nat} {x : Int × List UInt8} (h : c.w[i]? = some x) (hs : so i = true) (ha : x.1 = at_) : wantL c so at_ (i + 1) = x.2 := by
  simp [wantL, lastI, h, hs, ha]
theorem wantL_not {c : Ct} {so : Nat → Bool} {at_ : Int} {i : Nat} {x : Int × List UInt8} (h : c.w[i]? = some x) (hs : so i = false) : wantL c so at_ (i + 1) = wantL c so at_ i := by
  simp [wantL, lastI, h, hs]
theorem wantL_other {c : Ct} {so : Nat → Bool} {at_ : Int} {i : Nat} {x : Int × List UInt8} (h : c.w[i]? = some x) (ha : ¬ x.1 = at_) : wantL c so at_ (i + 1) = wantL c so at_ i := by
  simp [wantL, lastI, h, ha]
theorem wantL_end {c : Ct} (h : c.May) (so : Nat → Bool) {k : Nat} (hk : k < 256) : (c.left so).b[k]? = some (wantL c so (k : Int) c.w.length) := by
  have hk' : k < c.b.length := by rw [h.1]; exact hk
  show (leftB c.b c.w so)[k]? = _
  rw [leftB_get _ _ _ hk']
  simp only [wantL, Int.toNat_natCast, List.getD_eq_getElem?_getD, List.getElem?_eq_getElem hk', Option.getD_some]
  rfl
/-- The k-th block of a disk in memory. -/
theorem Dk.ok.block {d : Dk} {w : World} (h : d.ok w) {k : Nat} (hk : k < d.nB) : ∃ (s : Sl) (b off : Nat), d.A = some ⟨b, off, none⟩ ∧ b < w.heap.size ∧ w.cell? ⟨b, off + k, none⟩ = some (.slice s.A s.n s.c) ∧ s.came w ∧ d.c.b[k]? = some s.l ∧ d.bs[k]? = some s := by
  obtain ⟨b, off, hA, hb, hc⟩ := h.rb.atS hk h.lb
  have hkl : k < d.bs.length := by rw [h.lb]; exact hk
  exact ⟨d.bs[k], b, off, hA, hb, hc, h.sb _ (List.getElem_mem hkl), by rw [Dk.c_b, List.getElem?_map, List.getElem?_eq_getElem hkl]; rfl, List.getElem?_eq_getElem hkl⟩
/-- The k-th write that waits. -/
theorem Dk.ok.write_ {d : Dk} {w : World} (h : d.ok w) {k : Nat} (hk : k < d.nW) : ∃ (x : Wt) (b off : Nat), d.W = some ⟨b, off, none⟩ ∧ b < w.heap.size ∧ w.cell? ⟨b, off + k * 2, none⟩ = some (.int .i64 x.a) ∧ w.cell? ⟨b, off + k * 2 + 1, none⟩ = some (.slice x.s.A x.s.n x.s.c) ∧ x.s.came w ∧ I64 x.a ∧ d.c.w[k]? = some (x.a, x.s.l) := by
  obtain ⟨b, off, hA, hb, hc0, hc1⟩ := h.rw_.at2 hk h.lw
  have hkl : k < d.ws.length := by rw [h.lw]; exact hk
  have hs := h.sw _ (List.getElem_mem hkl)
  exact ⟨d.ws[k], b, off, hA, hb, hc0, hc1, hs.1, hs.2, by rw [Dk.c_w, List.getElem?_map, List.getElem?_eq_getElem hkl]; rfl⟩
def LaR (c : Ct) (keep : List Bool) (at_ : Int) (n : Nat) (w : World) (s x : Value) (wr : World) : Prop :=
  ∃ i : Nat, i ≤ n ∧ x = .int .i64 (i : Int) ∧ s = .string (str (wantL c (markB keep) at_ i)) ∧ w = wr
set_option maxHeartbeats 4000000 in
theorem devLast_walk (d : Dk) (K : Option Addr) (n kc : Nat) (keep : List Bool) (at_ : Int) (w : World) (hd : d.ok w) (hl : keep.length = n) (hr : Rd w w.heap.size 1 K n (bos keep)) (hat : I64 at_) :
    Calls Try.prog 6 #[d.v, .slice K n kc, .int .i64 at_] w fun e w' => e = .returned (.bool true) ∧ Below w.heap.size w w' := by
  have hx := DkBox.new w (.slice d.A d.nB d.cB) (.slice d.W d.nW d.cW)
  have hb := below_new' w (.cells #[.slice d.A d.nB d.cB, .slice d.W d.nW d.cW] 25)
  have HX := Lib.hid hx
  have HB := Lib.hid hb
  have HD := Lib.hid hd
  have HR := Lib.hid hr
  have HAT := Lib.hid hat
  have HL := Lib.hid hl
  clear hx hb hd hr hat hl
  simp only [Dk.v] at *
  go_enter Try.func6, Try.ntmps6
  go_wp2_with fail
  refine (alive09 _).mono ?_
  rintro e w1 ⟨rfl, b1⟩
  have hx := HX.out.below b1 HX.out.lt
  have HB1 := Lib.hid (below_to HB.out b1 HB.out.size)
  have HX1 := Lib.hid hx
  obtain ⟨x0, x1⟩ := hx.cells
  clear b1 hx HX HB
  go_wp2_with fail
  refine (g_great d w1 (HD.out.below HB1.out)).mono ?_
  rintro e w2 ⟨v, rfl, hv, b2⟩
  have hx := HX1.out.below b2 HX1.out.lt
  have HB2 := Lib.hid (below_to HB1.out b2 HB1.out.size)
  have HX2 := Lib.hid hx
  clear x0 x1 b2 HX1 HB1
  obtain ⟨x0, x1⟩ := hx.cells
  clear hx
  cases v with
  | true =>
    clear hv
    go_wp2
    go_ret
    exact ⟨rfl, HB2.out⟩
  | false =>
    obtain ⟨g1, g2⟩ := hv rfl
    clear hv
    by_cases hk : n > 5000
    · have hk1 : (5000 : Int) < (n : Int) := by omega
      clear hk
      go_wp2
      go_ret
      exact ⟨rfl, HB2.out⟩
    · have hk1 : ¬ ((5000 : Int) < (n : Int)) := by omega
      have hk2 : decide ((5000 : Int) < (n : Int)) = false := by simp; omega
      obtain ⟨E, hE⟩ : ∃ E, E = errG d.c (decide (n = d.nW)) := ⟨_, rfl⟩
      have hcr := d_crash d w2 (HD.out.below HB2.out) (by omega) (by omega) K n kc keep HL.out ((HR.out.below HB2.out).more HB2.out.size) (by omega) E hE
      have HCR := Lib.hid hcr
      have HE := Lib.hid hE
      have HG1 := Lib.hid g1
      have HG2 := Lib.hid g2
      have HK := Lib.hid hk
      clear hcr hE hk g1 g2
      go_wp2_with fail
      refine HCR.out.mono ?_
      rintro e w3 ⟨d', rfl, hn, b3⟩
      have HB3 := Lib.hid (below_to HB2.out b3 HB2.out.size)
      have HX3b := Lib.hid (HX2.out.below b3 HX2.out.lt)
      have hx3 := (HX2.out.below b3 HX2.out.lt).alloc (.cells #[.slice d'.A d'.nB d'.cB, .slice d'.W d'.nW d'.cW] 25)
      have hy3 := DkBox.new w3 (.slice d'.A d'.nB d'.cB) (.slice d'.W d'.nW d'.cW)
      have hb4 := below_new' w3 (.cells #[.slice d'.A d'.nB d'.cB, .slice d'.W d'.nW d'.cW] 25)
      have HB4 := Lib.hid (below_to HB3.out hb4 HB3.out.size)
      have hn4 := hn.below hb4
      have HN4 := Lib.hid hn4
      have HX3 := Lib.hid hx3
      have HY3 := Lib.hid hy3
      clear x0 x1 hk1 hk2 b3 hb4 hn hn4 HCR HX2 hx3 hy3
      by_cases he : E = 0
      · subst he
        obtain ⟨hm, hnw⟩ := errG_zero HE.out.symm
        have hnw : n = d.nW := of_decide_eq_true hnw
        rw [if_pos rfl] at HN4
        by_cases h0 : at_ < 0 ∨ 255 < at_
        · clear HN4 hm hnw HE HX3 HY3
          rcases h0 with h0 | h0
          · go_wp2
            go_ret
            exact ⟨rfl, HB4.out⟩
          · have h1 : decide (at_ < 0) = false := by simp; omega
            go_wp2
            go_ret
            exact ⟨rfl, HB4.out⟩
        · have h1 : ¬ at_ < 0 := fun h => h0 (.inl h)
          have h2 : ¬ 255 < at_ := fun h => h0 (.inr h)
          have h3 : decide (at_ < 0) = false := by simp; omega
          have h4 : decide (255 < at_) = false := by simp; omega
          clear h0
          obtain ⟨k, rfl⟩ : ∃ k : Nat, at_ = (k : Int) := ⟨at_.toNat, by omega⟩
          have hk : k < 256 := by omega
          have hkc : ¬ ((k : Int) < 0) := by omega
          have hd4 := HD.out.below HB4.out
          obtain ⟨hz1, hz2⟩ := hd4.sizes rfl hm
          obtain ⟨hz3, hz4⟩ := HN4.out.ok.sizes HN4.out.cc (Ct.left_may hm _)
          obtain ⟨s, b, off, hA, hbl, hcell, hsc3, hcb, -⟩ := (HD.out.below HB3.out).block (k := k) (by omega)
          have hsc := hsc3.below (below_new' w3 (.cells #[.slice d'.A d'.nB d'.cB, .slice d'.W d'.nW d'.cW] 25))
          obtain ⟨s', b', off', hA', hbl', hcell', hsc', hcb', -⟩ := HN4.out.ok.block (k := k) (by omega)
          have hk1 : (k : Int) < (d.nB : Int) := by omega
          have hk2 : (k : Int) < (d'.nB : Int) := by omega
          have hwant : s'.l = wantL d.c (markB keep) (k : Int) d.nW := by
            have h5 := wantL_end hm (markB keep) hk
            rw [← HN4.out.cc, hcb'] at h5
            rw [hz2]
            exact Option.some.inj h5
          have hw0 : s.l = wantL d.c (markB keep) (k : Int) 0 := by
            rw [wantL_zero, Int.toNat_natCast, List.getD_eq_getElem?_getD, hcb]
            rfl
          have cv := conv hsc.2.1 s.c
          have cv' := conv hsc'.2.1 s'.c
          rw [hw0] at cv
          rw [hwant] at cv'
          obtain ⟨x0, x1⟩ := HX3b.out.cells
          have hxl := HX3b.out.lt
          rw [hA] at x0
          have HC' := Lib.hid hcell'
          have HCV' := Lib.hid cv'
          have HA' := Lib.hid hA'
          have hnW0 : d'.nW = 0 := hz4
          have hck := d_check d' _ HN4.out.ok 0 (by rw [HN4.out.cc, if_pos (Ct.left_may hm _)]) (by omega) (by rw [hnW0]; decide)
          have hnW1 : ((d'.nW : Int) == 0) = true := by rw [hnW0]; rfl
          have HD4 := Lib.hid hd4
          have HCK := Lib.hid hck
          have HR4 := Lib.hid ((HR.out.below HB4.out).more HB4.out.size)
          have HM := Lib.hid hm
          have HNW := Lib.hid hnw
          have hlen : (n : Int) ≤ 5000 := by have := HK.out; omega
          clear hd4 hz1 hz2 hz3 hz4 hA hA' hbl' hsc hsc3 hsc' hcb hcb' hwant hw0 hck hnW0 hm hnw hk HD HB3 HN4 cv' hcell'
          go_wp2
          clear x0 x1 hxl hbl hcell cv HX3b
          generalize w3.alloc (.cells #[.slice d'.A d'.nB d'.cB, .slice d'.W d'.nW d'.cW] 25) = W4 at *
          obtain ⟨x0, x1⟩ := HX3.out.cells
          obtain ⟨y0, y1⟩ := HY3.out.cells
          rw [HA'.out] at y0
          go_loopw [10, 11] (fun q x wr => LaR d.c keep (k : Int) n W4 q x wr) (fun _ x _ => n - (intOf x).toNat)
          case atStart => exact ⟨0, Nat.zero_le _, rfl, rfl, rfl⟩
          case round =>
            obtain ⟨i, hi, rfl, rfl, rfl⟩ := hrel
            clear x0
            by_cases hlt : i < n
            · clear y0 y1
              obtain ⟨bk, ok, u, rfl, hbk, hu, hck⟩ := HR4.out.at_ hlt
              have hv : u = .bool (markB keep i) := by
                unfold markB
                rw [bos, List.getElem?_map, List.getElem?_eq_getElem (by rw [HL.out]; exact hlt)] at hu
                rw [List.getD_eq_getElem?_getD, List.getElem?_eq_getElem (by rw [HL.out]; exact hlt)]
                exact (Option.some.inj hu).symm
              subst hv
              obtain ⟨x, b2, off2, hW, hb2, c0, c1, hxs, hxa, hcw⟩ := HD4.out.write_ (k := i) (by rw [← HNW.out]; exact hlt)
              rw [hW] at x1
              have cw := conv hxs.2.1 x.s.c
              have h0 : ¬ ((i : Int) < 0) := by omega
              have h5 : (i : Int) < (n : Int) := by omega
              have h6 : (i : Int) < (d.nW : Int) := by have := HNW.out; omega
              obtain ⟨q, hq⟩ : ∃ q, markB keep i = q := ⟨_, rfl⟩
              rw [hq] at hck
              have hstep1 : q = true → x.a = (k : Int) → wantL d.c (markB keep) (k : Int) (i + 1) = x.s.l := fun h1 h2 => wantL_hit hcw (hq.trans h1) h2
              have hstep2 : q = false → wantL d.c (markB keep) (k : Int) (i + 1) = wantL d.c (markB keep) (k : Int) i := fun h1 => wantL_not hcw (hq.trans h1)
              have hstep3 : ¬ x.a = (k : Int) → wantL d.c (markB keep) (k : Int) (i + 1) = wantL d.c (markB keep) (k : Int) i := fun h2 => wantL_other hcw h2
              have HS1 := Lib.hid hstep1
              have HS2 := Lib.hid hstep2
              have HS3 := Lib.hid hstep3
              clear hu hW hb2 hxs hxa hcw hq hstep1 hstep2 hstep3 hbk
              generalize wantL d.c (markB keep) (k : Int) i = L at *
              cases q with
              | false =>
                go_wp2
                go_roundw
                case rel => exact ⟨i + 1, by omega, by simp, by rw [HS2.out (by trivial)], rfl⟩
                case measure => simp [intOf]; omega
              | true =>
                by_cases ha : x.a = (k : Int)
                · have e := HS1.out (by trivial) ha
                  have ha2 : (x.a == (k : Int)) = true := by simp [ha]
                  have HE := Lib.hid e
                  clear e ha
                  go_wp2
                  go_roundw
                  case rel => exact ⟨i + 1, by omega, by simp, by rw [HE.out], rfl⟩
                  case measure => simp [intOf]; omega
                · have e := HS3.out ha
                  have ha2 : (x.a == (k : Int)) = false := by simp [ha]
                  have HE := Lib.hid e
                  clear e ha
                  go_wp2
                  go_roundw
                  case rel => exact ⟨i + 1, by omega, by simp, by rw [HE.out], rfl⟩
                  case measure => simp [intOf]; omega
            · obtain rfl : n = i := by omega
              have cv' := HCV'.out
              have hcell' := HC'.out
              rw [HNW.out]
              generalize wantL d.c (markB keep) (k : Int) d.nW = L at *
              have hck := HCK.out
              unfold Dk.v at hck
              rw [HA'.out] at hck
              have HCK2 := Lib.hid hck
              clear hck
              go_wp2_with fail
              refine HCK2.out.mono ?_
              rintro e w5 ⟨rfl, b5⟩
              go_wp2
              go_ret
              exact ⟨rfl, below_to HB4.out b5 HB4.out.size⟩
      · have he2 : (E != 0) = true := by simp [he]
        have he3 : (E == 0) = false := by simp [he]
        have hz := HN4.out
        rw [if_neg he] at hz
        obtain ⟨z1, z2⟩ := hz.none_
        have z3 : ((d'.nB : Int) == 0) = true := by rw [z1]; rfl
        obtain ⟨y0, y1⟩ := HY3.out.cells
        clear hz z1 z2 HN4 he
        go_wp2
        go_ret
        exact ⟨rfl, HB4.out⟩
end Go.Proofs.Ytkaklppkmokffaa
