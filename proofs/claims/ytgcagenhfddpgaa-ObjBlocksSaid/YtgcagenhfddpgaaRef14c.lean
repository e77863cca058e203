/-
  charterhouseref14: contract of Read.
-/
import Derived.Test.YtgcagenhfddpgaaRef14b
import Derived.Test.YtgcagenhfddpgaaRef10f
import Derived.Test.YtgcagenhfddpgaaObjR
namespace Go.Proofs.Ytgcagenhfddpgaa
open Go.RowKit
set_option linter.unusedVariables false
set_option linter.unusedSimpArgs false
set_option maxRecDepth 100000
attribute [local go_sem] str_toList toList_mk

theorem convR {w : World} {B n : Nat} {A : Option Addr} {l : List UInt8} (h : Rd w B 1 A n (bvs l)) (c : Nat) : (convert 23 9 (.slice A n c)).run Try.prog w = .ok (.string (str l)) w :=
  run_conv Try.underlying23 Try.underlying5 Try.underlying9 h c
def pcK (l : List UInt8) (k : Nat) : List UInt8 := (l.drop (16 + 16 * k)).take 16
def rdK (l : List UInt8) (k : Nat) : List Pt := upto (fun j => rd16 (pcK l j)) k
theorem pcK_len {l : List UInt8} (hl : l.length = 256) {k : Nat} (hk : k < 15) : (pcK l k).length = 16 := by
  rw [pcK, List.length_take, List.length_drop]; omega
theorem pc_pad {l : List UInt8} (hl : l.length = 256) {k : Nat} (hk : k < 15) : piece16 (padL l) k = pcK l k := by
  unfold piece16 padL pcK
  rw [List.drop_append_of_le_length (by rw [List.length_drop]; omega), List.take_append_of_le_length (by rw [List.length_drop, List.length_drop]; omega), List.drop_drop]
theorem rdK_step (l : List UInt8) (k : Nat) : rdK l (k + 1) = rdK l k ++ [rd16 (pcK l k)] := upto_succ _ _
theorem rdK_at {l : List UInt8} {k i : Nat} (h : i < (rdK l k).length) : (rdK l k)[i] = rd16 (pcK l i) := upto_get _ _ _ h
theorem rdK_all {l : List UInt8} (hl : l.length = 256) : rdK l 15 = rdData l := by
  apply List.ext_getElem
  · rw [rdK, upto_length, rdData_len]
  · intro i h1 h2
    have hi : i < 15 := by rw [rdK, upto_length] at h1; exact h1
    have h3 : i < (rowsL (padL l)).length := by rw [rowsL_len]; omega
    have e : (rdData l)[i]'h2 = (rowsL (padL l))[i]'h3 := by simp [rdData]
    have e2 : (rowsL (padL l))[i]'h3 = rd16 (piece16 (padL l) i) := upto_get (fun k => rd16 (piece16 (padL l) k)) 16 i h3
    rw [rdK_at h1]
    rw [pc_pad hl hi] at e2
    exact (e.trans e2).symm
theorem RdOk.iff {l : List UInt8} (hl : l.length = 256) : RdOk l ↔ ObMay (byteN l 0 : Int) (byteN l 1 : Int) (numS l) (rdData l) ∧ obB (byteN l 0 : Int) (byteN l 1 : Int) (numS l) (rdData l) = l := by
  constructor
  · intro h
    exact ⟨h.2.2.2, block_back h⟩
  · rintro ⟨ho, hb⟩
    obtain ⟨hok, -⟩ := read_block ho (rdData_U l)
    rw [hb] at hok
    exact hok
/-- What reading an object answers: both texts alike. -/
def RdP (l : List UInt8) (w : World) (e : Ending) (w' : World) : Prop :=
  ((RdOk l ∧ ∃ D k d, e = .returned (.tuple #[.agg #[.int .u8 (byteN l 0 : Int), .int .i64 (byteN l 1 : Int), .int .i64 (numS l), .slice D 15 k], .int .i64 0]) ∧ Fr w' w.heap.size 31 5 D 15 d (pcs (rdData l)))
    ∨ (¬ RdOk l ∧ e = .returned (.tuple #[.agg #[.int .u8 0, .int .i64 0, .int .i64 0, .slice none 0 0], .int .i64 (if l.length = 256 then 8 else 3)]))) ∧ Below w.heap.size w w'
theorem q_oread_len (A : Option Addr) (n c : Nat) (l : List UInt8) (w : World) (hl : l.length = n) (h : ¬ (n : Int) = 256) : Calls Try.prog 43 #[.slice A n c] w (RdP l w) := by
  have hx := ObBox.new w 0 0 0 (.slice none 0 0)
  have hb := below_new w (.cells #[.int .u8 0, .int .i64 0, .int .i64 0, .slice none 0 0] 50)
  obtain ⟨d0, d1, d2, d3⟩ := hx.cells
  have hno : ¬ RdOk l := fun hk => h (by have := hk.1; omega)
  have hif : (if l.length = 256 then (8 : Int) else 3) = 3 := if_neg (by omega)
  have HB := Lib.hid hb
  have HN := Lib.hid hno
  have HI := Lib.hid hif
  clear hb hx hno hif
  go_enter Try.func43, Try.ntmps43
  go_wp2
  refine bodyPost_ret (v := .tuple #[.agg #[.int .u8 0, .int .i64 0, .int .i64 0, .slice none 0 0], .int .i64 3]) (by simp [results, Try.results43, go_sem, d0, d1, d2, d3]) rfl ?_
  exact ⟨.inr ⟨HN.out, by rw [HI.out]⟩, HB.out⟩
/-- The head's numbers. -/
theorem head_at {l : List UInt8} (hl : l.length = 256) (i : Nat) (hi : i < 256) : (bvs l)[i]? = some (.int .u8 (byteN l i : Int)) := by
  rw [bvs_get, List.getElem?_eq_getElem (by omega)]
  simp [byteN, bv, List.getD_eq_getElem?_getD, List.getElem?_eq_getElem (show i < l.length by omega)]
theorem numS_eq {l : List UInt8} (hl : l.length = 256) : numS l = (byteN l 2 : Int) + 256 * (byteN l 3 : Int) := by
  match l, hl with
  | b0 :: b1 :: b2 :: b3 :: r, hl =>
    simp [numS, byteN, num]
structure OrI (l : List UInt8) (w : World) (g : Nat) (k : Nat) (D : Option Addr) (d : Nat) (wr : World) : Prop where
  r : ObBox wr w.heap.size 0 0 0 (.slice none 0 0)
  x : ObBox wr g (byteN l 0 : Int) (byteN l 1 : Int) (numS l) (.slice D k d)
  f : Fr wr (w.heap.size + 1) 31 5 D k d (pcs (rdK l k))
  b : Below w.heap.size w wr
theorem OrI.below {l : List UInt8} {w : World} {g k : Nat} {D : Option Addr} {d : Nat} {V V' : World} (h : OrI l w g k D d V) (hb : Below V.heap.size V V') : OrI l w g k D d V' :=
  ⟨h.r.below hb h.r.lt, h.x.below hb h.x.lt, h.f.below hb (Nat.le_refl _), below_to h.b hb h.b.size⟩
theorem ob_row_ne {w : World} {base sz n c g : Nat} {A : Option Addr} {xs : List Value} {K L S : Int} {X : Value} (h : Fr w base 31 sz A n c xs) (hx : ObBox w g K L S X) : rowOf A c ≠ some g := by
  intro e
  obtain ⟨cur, fz, hc⟩ := h.cells_ g e
  unfold ObBox at hx
  rw [hx] at hc
  cases hc
theorem ObBox.grownP {w w' : World} {g : Nat} {K L S : Int} {X : Value} {row : Option Nat} (h : ObBox w g K L S X) (hg : w.grownBy w' row) (hne : some g ≠ row) : ObBox w' g K L S X := (hg.block g h.lt hne).trans h
theorem ObBox.far {w : World} {g : Nat} {K L S : Int} {X : Value} (h : ObBox w g K L S X) (p : Addr) (hp : g ≠ p.block) (u : Value) : ObBox (w.setCell p u) g K L S X := (Below.heap_setCell w p u g hp).trans h
theorem ObBox.set3 {w : World} {g : Nat} {K L S : Int} {X : Value} (h : ObBox w g K L S X) (u : Value) : ObBox (w.setCell ⟨g, 3, none⟩ u) g K L S u := ObBox.raw h 3 u
def OrR (l : List UInt8) (w : World) (g : Nat) (x : Value) (wr : World) : Prop :=
  ∃ (k d : Nat) (D : Option Addr), k ≤ 15 ∧ x = .int .i64 (k : Int) ∧ OrI l w g k D d wr ∧ ∀ i, i < k → (rd16 (pcK l i)).May
set_option maxHeartbeats 8000000 in
theorem q_oread_256 (A : Option Addr) (c : Nat) (l : List UInt8) (w : World) (hl : l.length = 256) (hc : 256 ≤ c) (hr : Rd w w.heap.size 1 A 256 (bvs l)) :
    Calls Try.prog 43 #[.slice A 256 c] w (RdP l w) := by
  obtain ⟨b, off, rfl, hbl, hcell⟩ := hr.2 (by omega)
  have hx := ObBox.new w 0 0 0 (.slice none 0 0)
  have hb := below_new w (.cells #[.int .u8 0, .int .i64 0, .int .i64 0, .slice none 0 0] 50)
  obtain ⟨W, hW⟩ : ∃ V, V = w.alloc (.cells #[.int .u8 0, .int .i64 0, .int .i64 0, .slice none 0 0] 50) := ⟨_, rfl⟩
  rw [← hW] at hx hb
  have hzs := numS_eq hl
  have hb8 : ∀ i, (byteN l i : Int) ≤ 255 := fun i => by have := (l.getD i 0).toNat_lt; unfold byteN; omega
  have hw1 : IntKind.i64.wrap (byteN l 1 : Int) = (byteN l 1 : Int) := IntWalk.i64_in _ (by have := hb8 1; omega)
  have hw2 : IntKind.i64.wrap (byteN l 2 : Int) = (byteN l 2 : Int) := IntWalk.i64_in _ (by have := hb8 2; omega)
  have hw3 : IntKind.i64.wrap (byteN l 3 : Int) = (byteN l 3 : Int) := IntWalk.i64_in _ (by have := hb8 3; omega)
  have hw4 : IntKind.i64.wrap (256 * (byteN l 3 : Int)) = 256 * (byteN l 3 : Int) := IntWalk.i64_in _ (by have := hb8 3; omega)
  have hw5 : IntKind.i64.wrap ((byteN l 2 : Int) + 256 * (byteN l 3 : Int)) = numS l := by rw [hzs]; exact IntWalk.i64_in _ (by have := hb8 3; have := hb8 2; omega)
  have HC := Lib.hid (fun V (hV : Below w.heap.size w V) i (hi : i < 256) => show V.cell? ⟨b, off + i, none⟩ = some (.int .u8 (byteN l i : Int)) from (hV.cell (p := ⟨b, off + i, none⟩) hbl).trans (hcell i _ (head_at hl i hi)))
  have HR := Lib.hid hr
  have HL := Lib.hid hl
  have HX := Lib.hid hx
  have HB := Lib.hid hb
  have HWW := Lib.hid hW
  have HZ := Lib.hid (show W.heap.size = w.heap.size + 1 by rw [hW]; simp)
  have HI := Lib.hid (show (if l.length = 256 then (8 : Int) else 3) = 8 from if_pos hl)
  have HCC := Lib.hid hc
  have HBL := Lib.hid hbl
  clear hl hr hcell hbl hx hb hW hc hzs hb8
  go_enter Try.func43, Try.ntmps43
  go_wp2
  rw [← HWW.out]
  clear HWW
  refine wp_region_held_drew (S := fun V => Below w.heap.size w V) (by kernel_rfl) HB.out.drew (fun hS => ?_)
  have HX2 := Lib.hid (show ObBox W.drew w.heap.size 0 0 0 (.slice none 0 0) from HX.out)
  refine wpAnyH_take (i := 0) (v := ?_) rfl (by kernel_rfl) (by kernel_rfl) (by kernel_rfl) (fun _ _ _ h => h) (Or.inl ⟨by rfl, ?hyq⟩) hS ?_
  case hyq =>
    intro w hw
    go_simp
    try (with_reducible rfl)
  try go_simp
  refine wpAnyH_take (i := 1) (v := ?_) rfl (by kernel_rfl) (by kernel_rfl) (by kernel_rfl) (fun _ _ _ h => h) (Or.inl ⟨by rfl, ?hyq⟩) hS ?_
  case hyq =>
    intro w hw
    go_simp
    try (with_reducible rfl)
  try go_simp
  refine wpAnyH_take (i := 2) (v := ?_) rfl (by kernel_rfl) (by kernel_rfl) (by kernel_rfl) (fun _ _ _ h => h) (Or.inl ⟨by rfl, ?hyq⟩) hS ?_
  case hyq =>
    intro w hw
    have k0 : w.cell? ⟨b, off, none⟩ = _ := HC.out w hw 0 (by omega)
    go_simp
    try (with_reducible rfl)
  try go_simp
  refine wpAnyH_take (i := 3) (v := ?_) rfl (by kernel_rfl) (by kernel_rfl) (by kernel_rfl) (fun _ _ _ h => h) (Or.inl ⟨by rfl, ?hyq⟩) hS ?_
  case hyq =>
    intro w hw
    go_simp
    try (with_reducible rfl)
  try go_simp
  refine wpAnyH_take (i := 4) (v := ?_) rfl (by kernel_rfl) (by kernel_rfl) (by kernel_rfl) (fun _ _ _ h => h) (Or.inl ⟨by rfl, ?hyq⟩) hS ?_
  case hyq =>
    intro w hw
    go_simp
    try (with_reducible rfl)
  try go_simp
  refine wpAnyH_take (i := 5) (v := ?_) rfl (by kernel_rfl) (by kernel_rfl) (by kernel_rfl) (fun _ _ _ h => h) (Or.inl ⟨by rfl, ?hyq⟩) hS ?_
  case hyq =>
    intro w hw
    have k0 := HC.out w hw 1 (by omega)
    go_simp
    try (with_reducible rfl)
  try go_simp
  refine wpAnyH_take (i := 6) (v := ?_) rfl (by kernel_rfl) (by kernel_rfl) (by kernel_rfl) (fun _ _ _ h => h) (Or.inl ⟨by rfl, ?hyq⟩) hS ?_
  case hyq =>
    intro w hw
    go_simp
    try (with_reducible rfl)
  try go_simp
  refine wpAnyH_take (i := 7) (v := ?_) rfl (by kernel_rfl) (by kernel_rfl) (by kernel_rfl) (fun _ _ _ h => h) (Or.inl ⟨by rfl, ?hyq⟩) hS ?_
  case hyq =>
    intro w hw
    go_simp
    try (with_reducible rfl)
  try go_simp
  refine wpAnyH_take (i := 8) (v := ?_) rfl (by kernel_rfl) (by kernel_rfl) (by kernel_rfl) (fun _ _ _ h => h) (Or.inl ⟨by rfl, ?hyq⟩) hS ?_
  case hyq =>
    intro w hw
    go_simp
    try (with_reducible rfl)
  try go_simp
  refine wpAnyH_take (i := 9) (v := ?_) rfl (by kernel_rfl) (by kernel_rfl) (by kernel_rfl) (fun _ _ _ h => h) (Or.inl ⟨by rfl, ?hyq⟩) hS ?_
  case hyq =>
    intro w hw
    have k0 := HC.out w hw 2 (by omega)
    go_simp
    try (with_reducible rfl)
  try go_simp
  refine wpAnyH_take (i := 10) (v := ?_) rfl (by kernel_rfl) (by kernel_rfl) (by kernel_rfl) (fun _ _ _ h => h) (Or.inl ⟨by rfl, ?hyq⟩) hS ?_
  case hyq =>
    intro w hw
    go_simp
    try (with_reducible rfl)
  try go_simp
  refine wpAnyH_take (i := 11) (v := ?_) rfl (by kernel_rfl) (by kernel_rfl) (by kernel_rfl) (fun _ _ _ h => h) (Or.inl ⟨by rfl, ?hyq⟩) hS ?_
  case hyq =>
    intro w hw
    go_simp
    try (with_reducible rfl)
  try go_simp
  refine wpAnyH_take (i := 12) (v := ?_) rfl (by kernel_rfl) (by kernel_rfl) (by kernel_rfl) (fun _ _ _ h => h) (Or.inl ⟨by rfl, ?hyq⟩) hS ?_
  case hyq =>
    intro w hw
    go_simp
    try (with_reducible rfl)
  try go_simp
  refine wpAnyH_take (i := 13) (v := ?_) rfl (by kernel_rfl) (by kernel_rfl) (by kernel_rfl) (fun _ _ _ h => h) (Or.inl ⟨by rfl, ?hyq⟩) hS ?_
  case hyq =>
    intro w hw
    have k0 := HC.out w hw 3 (by omega)
    go_simp
    try (with_reducible rfl)
  try go_simp
  refine wpAnyH_take (i := 14) (v := ?_) rfl (by kernel_rfl) (by kernel_rfl) (by kernel_rfl) (fun _ _ _ h => h) (Or.inl ⟨by rfl, ?hyq⟩) hS ?_
  case hyq =>
    intro w hw
    go_simp
    try (with_reducible rfl)
  try go_simp
  refine wpAnyH_take (i := 15) (v := ?_) rfl (by kernel_rfl) (by kernel_rfl) (by kernel_rfl) (fun _ _ _ h => h) (Or.inl ⟨by rfl, ?hyq⟩) hS ?_
  case hyq =>
    intro w hw
    go_simp
    try (with_reducible rfl)
  try go_simp
  refine wpAnyH_take (i := 16) (v := ?_) rfl (by kernel_rfl) (by kernel_rfl) (by kernel_rfl) (fun _ _ _ h => h) (Or.inl ⟨by rfl, ?hyq⟩) hS ?_
  case hyq =>
    intro w hw
    go_simp
    try (with_reducible rfl)
  try go_simp
  refine wpAnyH_take (i := 17) (v := ?_) rfl (by kernel_rfl) (by kernel_rfl) (by kernel_rfl) (fun _ _ _ h => h) (Or.inl ⟨by rfl, ?hyq⟩) hS ?_
  case hyq =>
    intro w hw
    go_simp
    try (with_reducible rfl)
  try go_simp
  try go_simp
  refine wpAnyH_ready (rs := [18]) (by kernel_rfl) (by simp) ?_
  refine all_consH rfl (fun K hK => ?_) ?_
  · skip
    refine stp_mkq (fun g => .pointer (some ⟨g, 0, none⟩)) (.cells #[.int .u8 0, .int .i64 0, .int .i64 0, .slice none 0 0] 50) (by go_simp) (by go_simp) ?_
    intro gX V9 hn hb9
    have hSn := below_to hS hb9.out hS.size
    have HY := Lib.hid (show ObBox V9 gX 0 0 0 (.slice none 0 0) from hn.out.2.2)
    have HG := Lib.hid (show w.heap.size < gX from by have := HX2.out.lt; have := hn.out.1; omega)
    replace HX2 := Lib.hid (HX2.out.below hb9.out HX2.out.lt)
    clear hn hb9
    refine hK.out _ _ hSn (fun hS => ?_)
    clear hK K hSn
    try go_simp
    refine wpAnyH_ready (rs := [19]) (by kernel_rfl) (by simp) ?_
    refine all_consH rfl (fun K hK => ?_) ?_
    · skip
      refine Stp.mk ?_
      obtain ⟨m0, m1, m2, m3⟩ := HY.out.cells
      have mf := HY.out.frozen
      have hYn := HY.out.put (byteN l 0 : Int) (byteN l 1 : Int) (numS l) (.slice none 0 0)
      have hSn := below_put4 hS (Nat.le_of_lt HG.out) (.int .u8 (byteN l 0 : Int)) (.int .i64 (byteN l 1 : Int)) (.int .i64 (numS l)) (.slice none 0 0)
      have hXn := HX2.out.below (below_put4 (Below.refl gX _) (Nat.le_refl _) (.int .u8 (byteN l 0 : Int)) (.int .i64 (byteN l 1 : Int)) (.int .i64 (numS l)) (.slice none 0 0)) HG.out
      unfold put4 at hYn hSn hXn
      have HYn := Lib.hid hYn
      have HXn := Lib.hid hXn
      clear hYn hXn
      go_simp
      clear m0 m1 m2 m3 mf
      refine hK.out _ _ hSn (fun hS => ?_)
      clear hK K hSn
      refine wpAnyH_done (by kernel_rfl) ?_ _
      have HI0 : Hid (OrI l w gX 0 none 0 _) := Lib.hid ⟨HXn.out, HYn.out, Fr.none_, hS⟩
      clear hS HYn HXn HX2 HY hw1 hw2 hw3 hw4 hw5 HX HB
      go_wp2
      go_loopw [5] (fun x wr => OrR l w gX x wr) (fun x _ => 15 - (intOf x).toNat)
      case atStart => exact ⟨0, _, _, Nat.zero_le _, rfl, HI0.out, fun i hi => absurd hi (Nat.not_lt_zero _)⟩
      case round =>
        clear HI0
        obtain ⟨k, d, D, hk, rfl, hi, hm⟩ := hrel
        by_cases hlt : k < 15
        · have h1 : (k : Int) < 15 := by omega
          have hpl := pcK_len HL.out hlt
          obtain ⟨r, hrk⟩ : ∃ r, r = 16 * k := ⟨_, rfl⟩
          have hrd : Rd wr wr.heap.size 1 (some ⟨b, off + (16 + r), none⟩) 16 (bvs (pcK l k)) := by
            have h1 := ((HR.out.below hi.b).more hi.b.size).sub (16 + 16 * k) 16 (by omega)
            rw [hrk]
            rwa [← bvs_drop, ← bvs_take] at h1
          have hw1 : IntKind.i64.wrap (16 * (k : Int)) = (r : Int) := by rw [IntWalk.i64_in _ (by omega)]; omega
          obtain ⟨ra, hra⟩ : ∃ x, x = 16 + r := ⟨_, rfl⟩
          obtain ⟨rb, hrb⟩ : ∃ x, x = 32 + r := ⟨_, rfl⟩
          have hw2 : IntKind.i64.wrap (16 + (r : Int)) = (ra : Int) := by rw [IntWalk.i64_in _ (by omega)]; omega
          have hw3 : IntKind.i64.wrap (32 + (r : Int)) = (rb : Int) := by rw [IntWalk.i64_in _ (by omega)]; omega
          have hmx : max (rb : Int) 0 = (rb : Int) := by omega
          have hd1 : rb - ra = 16 := by omega
          have hd2 : (ra : Int) ≤ (rb : Int) := by omega
          have hd3 : ra ≤ rb := by omega
          have hd4 : (rb : Int) ≤ (c : Int) := by have := HCC.out; omega
          have hd6 : rb ≤ c := by omega
          have hd8 : ¬ c = ra := by omega
          have hd9 : 16 ≤ c - ra := by omega
          rw [← hra] at hrd
          have HST := Lib.hid (rdK_step l k)
          have HIr := Lib.hid hi
          have HM := Lib.hid hm
          by_cases hpm : (rd16 (pcK l k)).May
          · have hP := readP_may hpl hpm
            have hE : readE (pcK l k) = 0 := by rw [readE_16 hpl, Pt.chk_zero hpm]
            have hY := q_read_16 (some ⟨b, off + ra, none⟩) (c - ra) (pcK l k) wr hpl hd9 hrd
            rw [hP, hE] at hY
            simp only [Pt.v, Pt.cs] at hY
            have hmn : ∀ i, i < k + 1 → (rd16 (pcK l i)).May := fun i hi => by
              by_cases hik : i < k
              · exact HM.out i hik
              · obtain rfl : i = k := by omega
                exact hpm
            have HMN := Lib.hid hmn
            have HY := Lib.hid hY
            clear hP hE hY hmn hpm hrd hpl hi hm HM hrk hra hrb hd9
            generalize rd16 (pcK l k) = p at *
            go_wp2_with fail
            refine HY.out.mono ?_
            rintro e w3 ⟨rfl, b3⟩
            have hi3 := HIr.out.below b3
            obtain ⟨x0, x1, x2, x3⟩ := hi3.x.cells
            have xl := hi3.x.lt
            have hm2 := Rd.made2 w3 (.cells #[.int .i64 p.a, .int .u32 p.b, .int .u32 p.i, .int .u32 p.t, .int .u32 p.s] 31) 31 5 1 p.cs rfl
            have hb5 : Below w3.heap.size w3 ((w3.alloc (.cells #[.int .i64 p.a, .int .u32 p.b, .int .u32 p.i, .int .u32 p.t, .int .u32 p.s] 31)).alloc (.cells p.cs.toArray 31)) := below_alloc (below_new w3 _) _ (Nat.le_refl _)
            have hi5 := hi3.below hb5
            have HM2 := Lib.hid hm2
            have HI5 := Lib.hid hi5
            have HZ5 := Lib.hid (show w.heap.size + 1 ≤ ((w3.alloc (.cells #[.int .i64 p.a, .int .u32 p.b, .int .u32 p.i, .int .u32 p.t, .int .u32 p.s] 31)).alloc (.cells p.cs.toArray 31)).heap.size from by have := hi5.r.lt; omega)
            clear hm2 hb5 hi5 hi3 b3 HY HIr hw1 hw2 hw3 hmx hd1 hd2 hd3 hd4 hd6 hd8
            go_wp2_with (at_builtin; go_loud (refine wpList_append_to rfl (.tmp 50) (.tmp 52) rfl okP rfl HI5.out.f rfl HM2.out (by rw [← pcs_one_]; exact pcs_oneCell _) (k + 1) rfl (pcs (rdK l (k + 1))) (by rw [HST.out, pcs_app, pcs_one_]) (by unfold maxLen; omega) (by omega) HZ5.out ?_); intro D4 d4 w4 f4 g4 _; have hr4 := HI5.out.r.grownP g4 (fun e => ob_row_ne HI5.out.f HI5.out.r e.symm); have hx4 := HI5.out.x.grownP g4 (fun e => ob_row_ne HI5.out.f HI5.out.x e.symm); have hb4 := HI5.out.b.grown g4 HI5.out.b.size (fun g hg => by have := (HI5.out.f.row g hg).1; omega); clear x0 x1 x2 x3 xl; obtain ⟨x0, x1, x2, x3⟩ := hx4.cells; have xf := hx4.frozen; have hi6 : OrI l w gX (k + 1) D4 d4 (w4.setCell ⟨gX, 3, none⟩ (.slice D4 (k + 1) d4)) := ⟨hr4.far ⟨gX, 3, none⟩ (by have := HG.out; simp; omega) _, hx4.set3 _, f4.setCell (ob_row_ne f4 hx4) _, hb4.setCell (by have := HG.out; simp; omega) _⟩; have HI6 := Lib.hid hi6; clear hi6 hr4 hx4 hb4 f4 g4)
            go_roundw
            case rel => exact ⟨k + 1, _, _, by omega, by simp, HI6.out, HMN.out⟩
            case measure => simp [intOf]; omega
          · have hP := readP_bad hpm
            have hE : readE (pcK l k) = 8 := by rw [readE_16 hpl, Pt.chk_bad hpm]
            have hY := q_read_16 (some ⟨b, off + ra, none⟩) (c - ra) (pcK l k) wr hpl hd9 hrd
            rw [hP, hE] at hY
            simp only [Pt.v, Pt.cs, Pt.zero] at hY
            have hno : ¬ RdOk l := fun hh => hpm (by
              have hk' : k < (rdK l 15).length := by rw [rdK, upto_length]; exact hlt
              have h2 := hh.2.2.2.2.2.2.2 _ (by rw [← rdK_all HL.out]; exact List.getElem_mem hk')
              rwa [rdK_at] at h2)
            have HNO := Lib.hid hno
            have HY := Lib.hid hY
            clear hP hE hY hpm hrd hpl hi hm HM hrk hra hrb hd9 HST hno
            go_wp2_with fail
            refine HY.out.mono ?_
            rintro e w3 ⟨rfl, b3⟩
            have hi3 := HIr.out.below b3
            obtain ⟨x0, x1, x2, x3⟩ := hi3.r.cells
            have xf := hi3.r.frozen
            have xl := hi3.r.lt
            have hb6 := below_put4 hi3.b (Nat.le_refl _) (.int .u8 0) (.int .i64 0) (.int .i64 0) (.slice none 0 0)
            have hz6 := (ObBox.put hi3.r 0 0 0 (.slice none 0 0)).alloc (.cells #[.int .i64 0, .int .u32 0, .int .u32 0, .int .u32 0, .int .u32 0] 31)
            have HZ6 := Lib.hid hz6
            have HB8 := Lib.hid (below_alloc hb6 (.cells #[.int .i64 0, .int .u32 0, .int .u32 0, .int .u32 0, .int .u32 0] 31) (Nat.le_refl _))
            clear b3 HY HIr hi3 hb6 hz6 hw1 hw2 hw3 hmx hd1 hd2 hd3 hd4 hd6 hd8
            go_wp2
            obtain ⟨z0, z1, z2, z3⟩ := HZ6.out.cells
            unfold put4 at z0 z1 z2 z3
            refine bodyPost_ret (v := .tuple #[.agg #[.int .u8 0, .int .i64 0, .int .i64 0, .slice none 0 0], .int .i64 8]) (by simp [results, Try.results43, go_sem, z0, z1, z2, z3]) rfl ?_
            exact ⟨.inr ⟨HNO.out, by rw [HI.out]⟩, HB8.out⟩
        · obtain rfl : k = 15 := by omega
          have HIr := Lib.hid hi
          have HFD := Lib.hid (show Fr wr (w.heap.size + 1) 31 5 D 15 d (pcs (rdData l)) from by rw [← rdK_all HL.out]; exact hi.f)
          have HB80 := Lib.hid (show (byteN l 0 : Int) ≤ 255 by have := (l.getD 0 0).toNat_lt; unfold byteN; omega)
          obtain ⟨BL, hBL⟩ : ∃ x, x = obB (byteN l 0 : Int) (byteN l 1 : Int) (numS l) (rdData l) := ⟨_, rfl⟩
          clear hi hm
          by_cases ho : ObMay (byteN l 0 : Int) (byteN l 1 : Int) (numS l) (rdData l)
          · have HO := Lib.hid (decide_eq_true ho)
            by_cases hq : BL = l
            · have HOK := Lib.hid (show RdOk l from (RdOk.iff HL.out).2 ⟨ho, by rw [← hBL]; exact hq⟩)
              have hbq : (obB (byteN l 0 : Int) (byteN l 1 : Int) (numS l) (rdData l) == l) = true := by rw [← hBL]; exact beq_iff_eq.2 hq
              clear hq ho hBL
              go_wp2
              refine wp_region_held_drew (S := fun V => Below wr.heap.size wr V) (by kernel_rfl) (show Below wr.heap.size wr wr.drew from (Below.refl _ _).drew) (fun hS => ?_)
              refine wpAnyH_take (i := 0) (v := ?_) rfl (by kernel_rfl) (by kernel_rfl) (by kernel_rfl) (fun _ _ _ h => h) (Or.inl ⟨by rfl, ?hyq⟩) hS ?_
              case hyq =>
                intro w hw
                obtain ⟨k0, k1, k2, k3⟩ := (HIr.out.x.below hw HIr.out.x.lt).cells
                go_simp
                try (with_reducible rfl)
              try go_simp
              try go_simp
              refine wpAnyH_ready (rs := [1]) (by kernel_rfl) (by simp) ?_
              refine all_consH rfl (fun K hK => ?_) ?_
              · skip
                refine Stp.mk ?_
                go_simp
                go_wp2_with fail
                refine (q_omay (byteN l 0 : Int) (byteN l 1 : Int) (numS l) D 15 d (rdData l) _ (rdData_len l) (HFD.out.below hS (Nat.le_refl _)).rd ⟨by omega, HB80.out⟩ true (by rw [HO.out])).mono ?_
                rintro e w7 ⟨rfl, b7⟩
                have hSn := below_to hS b7 hS.size
                clear b7
                go_wp2
                refine hK.out _ _ hSn (fun hS => ?_)
                clear hK K hSn
                refine wpAnyH_take (i := 2) (v := ?_) rfl (by kernel_rfl) (by kernel_rfl) (by kernel_rfl) (fun _ _ _ h => h) (Or.inl ⟨by rfl, ?hyq⟩) hS ?_
                case hyq =>
                  intro w hw
                  go_simp
                  try (with_reducible rfl)
                try go_simp
                refine wpAnyH_take (i := 3) (v := ?_) rfl (by kernel_rfl) (by kernel_rfl) (by kernel_rfl) (fun _ _ _ h => h) (Or.inl ⟨by rfl, ?hyq⟩) hS ?_
                case hyq =>
                  intro w hw
                  go_simp
                  try (with_reducible rfl)
                try go_simp
                refine wpAnyH_take (i := 4) (v := ?_) rfl (by kernel_rfl) (by kernel_rfl) (by kernel_rfl) (fun _ _ _ h => h) (Or.inl ⟨by rfl, ?hyq⟩) hS ?_
                case hyq =>
                  intro w hw
                  obtain ⟨k0, k1, k2, k3⟩ := (HIr.out.x.below hw HIr.out.x.lt).cells
                  go_simp
                  try (with_reducible rfl)
                try go_simp
                refine wpAnyH_take (i := 7) (v := ?_) rfl (by kernel_rfl) (by kernel_rfl) (by kernel_rfl) (fun _ _ _ h => h) (Or.inl ⟨by rfl, ?hyq⟩) hS ?_
                case hyq =>
                  intro w hw
                  go_simp
                  try (with_reducible rfl)
                try go_simp
                refine wpAnyH_take (i := 8) (v := ?_) rfl (by kernel_rfl) (by kernel_rfl) (by kernel_rfl) (fun _ _ _ h => h) (Or.inl ⟨by rfl, ?hyq⟩) hS ?_
                case hyq =>
                  intro w hw
                  have hcv := convR (((HR.out.below HIr.out.b).more HIr.out.b.size).below hw) c
                  go_simp
                  try (with_reducible rfl)
                try go_simp
                try go_simp
                refine wpAnyH_ready (rs := [5]) (by kernel_rfl) (by simp) ?_
                refine all_consH rfl (fun K hK => ?_) ?_
                · skip
                  refine Stp.mk ?_
                  go_simp
                  go_wp2_with fail
                  refine (q_block (byteN l 0 : Int) (byteN l 1 : Int) (numS l) D d (rdData l) _ (HFD.out.below hS (Nat.le_refl _)).rd (rdData_U l) (of_decide_eq_true HO.out)).mono ?_
                  rintro e w8 ⟨D8, d8, rfl, f8, b8⟩
                  have hSn := below_to hS b8 hS.size
                  have HF8 := Lib.hid f8
                  clear f8 b8
                  go_wp2
                  refine hK.out _ _ hSn (fun hS => ?_)
                  clear hK K hSn
                  try go_simp
                  refine wpAnyH_ready (rs := [6]) (by kernel_rfl) (by simp) ?_
                  refine all_consH rfl (fun K hK => ?_) ?_
                  · skip
                    refine Stp.mk ?_
                    have hcv := convR HF8.out.rd d8
                    go_simp
                    have hSn := hS
                    clear hcv HF8
                    refine hK.out _ _ hSn (fun hS => ?_)
                    clear hK K hSn
                    refine wpAnyH_take (i := 9) (v := ?_) rfl (by kernel_rfl) (by kernel_rfl) (by kernel_rfl) (fun _ _ _ h => h) (Or.inl ⟨by rfl, ?hyq⟩) hS ?_
                    case hyq =>
                      intro w hw
                      go_simp
                      try (with_reducible rfl)
                    try go_simp
                    try go_simp
                    refine wpAnyH_ready (rs := [10]) (by kernel_rfl) (by simp) ?_
                    refine all_consH rfl (fun K hK => ?_) ?_
                    · skip
                      refine Stp.mk ?_
                      go_simp
                      have hSn := hS
                      refine hK.out _ _ hSn (fun hS => ?_)
                      clear hK K hSn
                      refine wpAnyH_done (by kernel_rfl) ?_ _
                      have hi9 := HIr.out.below hS
                      obtain ⟨x0, x1, x2, x3⟩ := hi9.x.cells
                      obtain ⟨r0, r1, r2, r3⟩ := hi9.r.cells
                      have rf := hi9.r.frozen
                      have HZ6 := Lib.hid (ObBox.put hi9.r (byteN l 0 : Int) (byteN l 1 : Int) (numS l) (.slice D 15 d))
                      have HB8 := Lib.hid (below_put4 hi9.b (Nat.le_refl _) (.int .u8 (byteN l 0 : Int)) (.int .i64 (byteN l 1 : Int)) (.int .i64 (numS l)) (.slice D 15 d))
                      have HF9 := Lib.hid ((HFD.out.below hS (Nat.le_refl _)).put4 (Nat.lt_succ_self _) (.int .u8 (byteN l 0 : Int)) (.int .i64 (byteN l 1 : Int)) (.int .i64 (numS l)) (.slice D 15 d))
                      clear hi9 hS
                      go_wp2
                      obtain ⟨z0, z1, z2, z3⟩ := HZ6.out.cells
                      unfold put4 at z0 z1 z2 z3
                      refine bodyPost_ret (v := .tuple #[.agg #[.int .u8 (byteN l 0 : Int), .int .i64 (byteN l 1 : Int), .int .i64 (numS l), (.slice D 15 d)], .int .i64 0]) (by simp [results, Try.results43, go_sem, z0, z1, z2, z3]) rfl ?_
                      exact ⟨.inl ⟨HOK.out, D, d, d, rfl, HF9.out.mono (Nat.le_succ _)⟩, HB8.out⟩
                    exact AllReadyH.nil
                  exact AllReadyH.nil
                exact AllReadyH.nil
              exact AllReadyH.nil
            · have HNO := Lib.hid (show ¬ RdOk l from fun h => hq (by rw [hBL]; exact ((RdOk.iff HL.out).1 h).2))
              have hbq : (obB (byteN l 0 : Int) (byteN l 1 : Int) (numS l) (rdData l) == l) = false := by rw [← hBL]; exact beq_eq_false_iff_ne.2 hq
              clear hq ho hBL
              go_wp2
              refine wp_region_held_drew (S := fun V => Below wr.heap.size wr V) (by kernel_rfl) (show Below wr.heap.size wr wr.drew from (Below.refl _ _).drew) (fun hS => ?_)
              refine wpAnyH_take (i := 0) (v := ?_) rfl (by kernel_rfl) (by kernel_rfl) (by kernel_rfl) (fun _ _ _ h => h) (Or.inl ⟨by rfl, ?hyq⟩) hS ?_
              case hyq =>
                intro w hw
                obtain ⟨k0, k1, k2, k3⟩ := (HIr.out.x.below hw HIr.out.x.lt).cells
                go_simp
                try (with_reducible rfl)
              try go_simp
              try go_simp
              refine wpAnyH_ready (rs := [1]) (by kernel_rfl) (by simp) ?_
              refine all_consH rfl (fun K hK => ?_) ?_
              · skip
                refine Stp.mk ?_
                go_simp
                go_wp2_with fail
                refine (q_omay (byteN l 0 : Int) (byteN l 1 : Int) (numS l) D 15 d (rdData l) _ (rdData_len l) (HFD.out.below hS (Nat.le_refl _)).rd ⟨by omega, HB80.out⟩ true (by rw [HO.out])).mono ?_
                rintro e w7 ⟨rfl, b7⟩
                have hSn := below_to hS b7 hS.size
                clear b7
                go_wp2
                refine hK.out _ _ hSn (fun hS => ?_)
                clear hK K hSn
                refine wpAnyH_take (i := 2) (v := ?_) rfl (by kernel_rfl) (by kernel_rfl) (by kernel_rfl) (fun _ _ _ h => h) (Or.inl ⟨by rfl, ?hyq⟩) hS ?_
                case hyq =>
                  intro w hw
                  go_simp
                  try (with_reducible rfl)
                try go_simp
                refine wpAnyH_take (i := 3) (v := ?_) rfl (by kernel_rfl) (by kernel_rfl) (by kernel_rfl) (fun _ _ _ h => h) (Or.inl ⟨by rfl, ?hyq⟩) hS ?_
                case hyq =>
                  intro w hw
                  go_simp
                  try (with_reducible rfl)
                try go_simp
                refine wpAnyH_take (i := 4) (v := ?_) rfl (by kernel_rfl) (by kernel_rfl) (by kernel_rfl) (fun _ _ _ h => h) (Or.inl ⟨by rfl, ?hyq⟩) hS ?_
                case hyq =>
                  intro w hw
                  obtain ⟨k0, k1, k2, k3⟩ := (HIr.out.x.below hw HIr.out.x.lt).cells
                  go_simp
                  try (with_reducible rfl)
                try go_simp
                refine wpAnyH_take (i := 7) (v := ?_) rfl (by kernel_rfl) (by kernel_rfl) (by kernel_rfl) (fun _ _ _ h => h) (Or.inl ⟨by rfl, ?hyq⟩) hS ?_
                case hyq =>
                  intro w hw
                  go_simp
                  try (with_reducible rfl)
                try go_simp
                refine wpAnyH_take (i := 8) (v := ?_) rfl (by kernel_rfl) (by kernel_rfl) (by kernel_rfl) (fun _ _ _ h => h) (Or.inl ⟨by rfl, ?hyq⟩) hS ?_
                case hyq =>
                  intro w hw
                  have hcv := convR (((HR.out.below HIr.out.b).more HIr.out.b.size).below hw) c
                  go_simp
                  try (with_reducible rfl)
                try go_simp
                try go_simp
                refine wpAnyH_ready (rs := [5]) (by kernel_rfl) (by simp) ?_
                refine all_consH rfl (fun K hK => ?_) ?_
                · skip
                  refine Stp.mk ?_
                  go_simp
                  go_wp2_with fail
                  refine (q_block (byteN l 0 : Int) (byteN l 1 : Int) (numS l) D d (rdData l) _ (HFD.out.below hS (Nat.le_refl _)).rd (rdData_U l) (of_decide_eq_true HO.out)).mono ?_
                  rintro e w8 ⟨D8, d8, rfl, f8, b8⟩
                  have hSn := below_to hS b8 hS.size
                  have HF8 := Lib.hid f8
                  clear f8 b8
                  go_wp2
                  refine hK.out _ _ hSn (fun hS => ?_)
                  clear hK K hSn
                  try go_simp
                  refine wpAnyH_ready (rs := [6]) (by kernel_rfl) (by simp) ?_
                  refine all_consH rfl (fun K hK => ?_) ?_
                  · skip
                    refine Stp.mk ?_
                    have hcv := convR HF8.out.rd d8
                    go_simp
                    have hSn := hS
                    clear hcv HF8
                    refine hK.out _ _ hSn (fun hS => ?_)
                    clear hK K hSn
                    refine wpAnyH_take (i := 9) (v := ?_) rfl (by kernel_rfl) (by kernel_rfl) (by kernel_rfl) (fun _ _ _ h => h) (Or.inl ⟨by rfl, ?hyq⟩) hS ?_
                    case hyq =>
                      intro w hw
                      go_simp
                      try (with_reducible rfl)
                    try go_simp
                    try go_simp
                    refine wpAnyH_ready (rs := [10]) (by kernel_rfl) (by simp) ?_
                    refine all_consH rfl (fun K hK => ?_) ?_
                    · skip
                      refine Stp.mk ?_
                      go_simp
                      have hSn := hS
                      refine hK.out _ _ hSn (fun hS => ?_)
                      clear hK K hSn
                      refine wpAnyH_done (by kernel_rfl) ?_ _
                      have hi9 := HIr.out.below hS
                      obtain ⟨x0, x1, x2, x3⟩ := hi9.x.cells
                      obtain ⟨r0, r1, r2, r3⟩ := hi9.r.cells
                      have rf := hi9.r.frozen
                      have HZ6 := Lib.hid (ObBox.put hi9.r 0 0 0 (.slice none 0 0))
                      have HB8 := Lib.hid (below_put4 hi9.b (Nat.le_refl _) (.int .u8 0) (.int .i64 0) (.int .i64 0) (.slice none 0 0))
                      clear hi9 hS
                      go_wp2
                      obtain ⟨z0, z1, z2, z3⟩ := HZ6.out.cells
                      unfold put4 at z0 z1 z2 z3
                      refine bodyPost_ret (v := .tuple #[.agg #[.int .u8 0, .int .i64 0, .int .i64 0, (.slice none 0 0)], .int .i64 8]) (by simp [results, Try.results43, go_sem, z0, z1, z2, z3]) rfl ?_
                      exact ⟨.inr ⟨HNO.out, by rw [HI.out]⟩, HB8.out⟩
                    exact AllReadyH.nil
                  exact AllReadyH.nil
                exact AllReadyH.nil
              exact AllReadyH.nil
          · have HO := Lib.hid (decide_eq_false ho)
            have HNO := Lib.hid (show ¬ RdOk l from fun h => ho ((RdOk.iff HL.out).1 h).1)
            clear ho hBL
            go_wp2
            refine wp_region_held_drew (S := fun V => Below wr.heap.size wr V) (by kernel_rfl) (show Below wr.heap.size wr wr.drew from (Below.refl _ _).drew) (fun hS => ?_)
            refine wpAnyH_take (i := 0) (v := ?_) rfl (by kernel_rfl) (by kernel_rfl) (by kernel_rfl) (fun _ _ _ h => h) (Or.inl ⟨by rfl, ?hyq⟩) hS ?_
            case hyq =>
              intro w hw
              obtain ⟨k0, k1, k2, k3⟩ := (HIr.out.x.below hw HIr.out.x.lt).cells
              go_simp
              try (with_reducible rfl)
            try go_simp
            try go_simp
            refine wpAnyH_ready (rs := [1]) (by kernel_rfl) (by simp) ?_
            refine all_consH rfl (fun K hK => ?_) ?_
            · skip
              refine Stp.mk ?_
              go_simp
              go_wp2_with fail
              refine (q_omay (byteN l 0 : Int) (byteN l 1 : Int) (numS l) D 15 d (rdData l) _ (rdData_len l) (HFD.out.below hS (Nat.le_refl _)).rd ⟨by omega, HB80.out⟩ false (by rw [HO.out])).mono ?_
              rintro e w7 ⟨rfl, b7⟩
              have hSn := below_to hS b7 hS.size
              clear b7
              go_wp2
              refine hK.out _ _ hSn (fun hS => ?_)
              clear hK K hSn
              refine wpAnyH_take (i := 2) (v := ?_) rfl (by kernel_rfl) (by kernel_rfl) (by kernel_rfl) (fun _ _ _ h => h) (Or.inl ⟨by rfl, ?hyq⟩) hS ?_
              case hyq =>
                intro w hw
                go_simp
                try (with_reducible rfl)
              try go_simp
              refine wpAnyH_take (i := 3) (v := ?_) rfl (by kernel_rfl) (by kernel_rfl) (by kernel_rfl) (fun _ _ _ h => h) (Or.inl ⟨by rfl, ?hyq⟩) hS ?_
              case hyq =>
                intro w hw
                go_simp
                try (with_reducible rfl)
              try go_simp
              refine wpAnyH_take (i := 4) (v := undef) rfl (by kernel_rfl) (by kernel_rfl) (by kernel_rfl) (fun _ _ _ h => h) (Or.inr ⟨by rfl, rfl⟩) hS ?_
              refine wpAnyH_take (i := 5) (v := undef) rfl (by kernel_rfl) (by kernel_rfl) (by kernel_rfl) (fun _ _ _ h => h) (Or.inr ⟨by rfl, rfl⟩) hS ?_
              refine wpAnyH_take (i := 6) (v := undef) rfl (by kernel_rfl) (by kernel_rfl) (by kernel_rfl) (fun _ _ _ h => h) (Or.inr ⟨by rfl, rfl⟩) hS ?_
              refine wpAnyH_take (i := 7) (v := undef) rfl (by kernel_rfl) (by kernel_rfl) (by kernel_rfl) (fun _ _ _ h => h) (Or.inr ⟨by rfl, rfl⟩) hS ?_
              refine wpAnyH_take (i := 8) (v := undef) rfl (by kernel_rfl) (by kernel_rfl) (by kernel_rfl) (fun _ _ _ h => h) (Or.inr ⟨by rfl, rfl⟩) hS ?_
              refine wpAnyH_take (i := 9) (v := undef) rfl (by kernel_rfl) (by kernel_rfl) (by kernel_rfl) (fun _ _ _ h => h) (Or.inr ⟨by rfl, rfl⟩) hS ?_
              try go_simp
              refine wpAnyH_ready (rs := [10]) (by kernel_rfl) (by simp) ?_
              refine all_consH rfl (fun K hK => ?_) ?_
              · skip
                refine Stp.mk ?_
                go_simp
                have hSn := hS
                refine hK.out _ _ hSn (fun hS => ?_)
                clear hK K hSn
                refine wpAnyH_done (by kernel_rfl) ?_ _
                have hi9 := HIr.out.below hS
                obtain ⟨x0, x1, x2, x3⟩ := hi9.x.cells
                obtain ⟨r0, r1, r2, r3⟩ := hi9.r.cells
                have rf := hi9.r.frozen
                have HZ6 := Lib.hid (ObBox.put hi9.r 0 0 0 (.slice none 0 0))
                have HB8 := Lib.hid (below_put4 hi9.b (Nat.le_refl _) (.int .u8 0) (.int .i64 0) (.int .i64 0) (.slice none 0 0))
                clear hi9 hS
                go_wp2
                obtain ⟨z0, z1, z2, z3⟩ := HZ6.out.cells
                unfold put4 at z0 z1 z2 z3
                refine bodyPost_ret (v := .tuple #[.agg #[.int .u8 0, .int .i64 0, .int .i64 0, (.slice none 0 0)], .int .i64 8]) (by simp [results, Try.results43, go_sem, z0, z1, z2, z3]) rfl ?_
                exact ⟨.inr ⟨HNO.out, by rw [HI.out]⟩, HB8.out⟩
              exact AllReadyH.nil
            exact AllReadyH.nil
    exact AllReadyH.nil
  exact AllReadyH.nil
theorem q_oread (A : Option Addr) (n c : Nat) (l : List UInt8) (w : World) (hl : l.length = n) (hc : n ≤ c) (hr : Rd w w.heap.size 1 A n (bvs l)) : Calls Try.prog 43 #[.slice A n c] w (RdP l w) := by
  by_cases h : n = 256
  · subst h
    exact q_oread_256 A c l w hl hc hr
  · exact q_oread_len A n c l w hl (by omega)
/-- obj.Read answers alike. -/
theorem obj_readP (A : Option Addr) (n c : Nat) (l : List UInt8) (w : World) (hl : l.length = n) (hc : n ≤ c) (hr : Rd w w.heap.size 1 A n (bvs l)) : Calls Try.prog 40 #[.slice A n c] w (RdP l w) := by
  by_cases h0 : n = 256
  · subst h0
    have hif : (if l.length = 256 then (8 : Int) else 3) = 8 := if_pos hl
    by_cases h1 : AllMay (rowsL (padL l))
    · by_cases h2 : MidOk l
      · by_cases h3 : ObMay (byteN l 0 : Int) (byteN l 1 : Int) (numS l) (rdData l)
        · refine (obj_read_ok A c l w hl hc hr h1 h2 h3).mono ?_
          rintro e w' ⟨D, d, rfl, hf, hb⟩
          exact ⟨.inl ⟨⟨hl, h1, h2, h3⟩, D, 15, d, rfl, hf.mono (Nat.le_succ _)⟩, hb⟩
        · refine (obj_read_chk A c l w hl hc hr h1 h2 h3).mono ?_
          rintro e w' ⟨rfl, hb⟩
          exact ⟨.inr ⟨fun h => h3 h.2.2.2, by rw [hif]⟩, hb⟩
      · refine (obj_read_mid A c l w hl hc hr h1 h2).mono ?_
        rintro e w' ⟨rfl, hb⟩
        exact ⟨.inr ⟨fun h => h2 h.2.2.1, by rw [hif]⟩, hb⟩
    · refine (obj_read_rows A c l w hl hc hr h1).mono ?_
      rintro e w' ⟨rfl, hb⟩
      exact ⟨.inr ⟨fun h => h1 h.2.1, by rw [hif]⟩, hb⟩
  · refine (obj_read_len A n c w (by simp; omega)).mono ?_
    rintro e w' ⟨rfl, hb⟩
    exact ⟨.inr ⟨fun h => h0 (by have := h.1; omega), by rw [if_neg (by omega)]⟩, hb⟩
end Go.Proofs.Ytgcagenhfddpgaa
