/-
  Contracts of package sign: Check.
-/
import Derived.Test.YtoggpnncmgcgoaaSignB
import Derived.Test.YtoggpnncmgcgoaaChunkQ
namespace Go.Proofs.Ytoggpnncmgcgoaa
open Go.RowKit Go.Shelf
set_option linter.unusedVariables false
set_option linter.unusedSimpArgs false
set_option maxRecDepth 100000
attribute [local go_sem] Oper.semAt_some

theorem x_check_pub (P : Option Addr) (p pc : Nat) (T : Option Addr) (n t : Nat) (S : Option Addr) (m sc : Nat) (w : World) (h : ((p : Int) != 16) = true) :
    Calls Try.prog 18 #[.slice P p pc, .slice T n t, .slice S m sc] w fun e w' => e = .returned (.tuple #[.bool false, .int .i64 2]) ∧ w = w' := by
  go_enter Try.func18, Try.ntmps18
  go_wp2
  go_ret2
  exact ⟨rfl, rfl⟩
theorem x_check_len (P : Option Addr) (pc : Nat) (T : Option Addr) (n t : Nat) (S : Option Addr) (m sc : Nat) (w : World) (h : ((m : Int) != 209) = true) :
    Calls Try.prog 18 #[.slice P 16 pc, .slice T n t, .slice S m sc] w fun e w' => e = .returned (.tuple #[.bool false, .int .i64 8]) ∧ w = w' := by
  go_enter Try.func18, Try.ntmps18
  go_wp2
  go_ret2
  exact ⟨rfl, rfl⟩
theorem x_check_leaf (P : Option Addr) (pc : Nat) (T : Option Addr) (n t : Nat) (S : Option Addr) (sc : Nat) (sig : List UInt8) (w : World) (hs : sig.length = 209) (hrs : Rd w w.heap.size 1 S 209 (bvs sig)) (h : 8 ≤ atL sig) :
    Calls Try.prog 18 #[.slice P 16 pc, .slice T n t, .slice S 209 sc] w fun e w' => e = .returned (.tuple #[.bool false, .int .i64 8]) ∧ w = w' := by
  obtain ⟨g, o, u, rfl, hg, hu, cx⟩ := hrs.at_ (k := 0) (by omega)
  have hu2 : u = .int .u8 (atL sig : Int) := by
    rw [bvs_get, List.getElem?_eq_getElem (by omega)] at hu
    rw [atL, List.getD_eq_getElem?_getD, List.getElem?_eq_getElem (by omega)]
    simpa [bv] using hu.symm
  subst hu2
  rw [Nat.add_zero] at cx
  generalize atL sig = x at *
  have h8 : decide ((8 : Int) ≤ (x : Int)) = true := by simp; omega
  clear hu hrs hs hg
  go_enter Try.func18, Try.ntmps18
  go_wp2
  go_ret2
  exact ⟨rfl, rfl⟩

theorem partL_len {sig : List UInt8} (hs : sig.length = 209) : (partL sig).length = 160 := by
  rw [partL, List.length_take, List.length_drop]
  omega
theorem Rd.subB {w : World} {B n g off : Nat} {l : List UInt8} (h : Rd w B 1 (some ⟨g, off, none⟩) n (bvs l)) (p m : Nat) (hl : p + m ≤ n) (hm : 0 < m) : Rd w B 1 (some ⟨g, off + p, none⟩) m (bvs ((l.drop p).take m)) := by
  have h1 := (h.cut (l := p) (m := n) (by omega) (Nat.le_refl _)).take (k := m) (by omega)
  rw [if_neg (by omega)] at h1
  simp only [Nat.mul_one, Option.map_some, add_lit] at h1
  rw [bvs_take, bvs_drop]
  exact h1
theorem i64_and1 (n : Int) : bits .and .i64 n 1 = n % 2 := by
  have h1 : (BitVec.ofInt 64 1).toNat = 2 ^ 1 - 1 := by decide
  have key : (BitVec.ofInt 64 n &&& BitVec.ofInt 64 1).toNat = (n % ((2 ^ 64 : Nat) : Int)).toNat % 2 ^ 1 := by
    rw [BitVec.toNat_and, BitVec.toNat_ofInt, h1, Nat.and_two_pow_sub_one_eq_mod]
  show IntKind.i64.wrap ((BitVec.ofInt 64 n &&& BitVec.ofInt 64 1).toNat : Nat) = n % 2
  rw [key, IntKind.wrap_i64]
  omega
/-- One round: the node, and what stands beside it. -/
def stepF (at_ r : Nat) (node b : List UInt8) : List UInt8 := if at_ / 2 ^ r % 2 = 1 then aboveL r b node else aboveL r node b
theorem stepF_len (at_ r : Nat) (node b : List UInt8) : (stepF at_ r node b).length = 16 := by
  unfold stepF
  split <;> exact aboveL_len _ _ _
def foldTo (at_ : Nat) (node sig : List UInt8) (pre : List (Fin 3)) : List UInt8 × Nat := pre.foldl (fun s x => (stepF at_ s.2 s.1 (besideL sig x.val), s.2 + 1)) (node, 0)
theorem foldTo_snoc (at_ : Nat) (node sig : List UInt8) (pre : List (Fin 3)) (x : Fin 3) : foldTo at_ node sig (pre ++ [x]) = (stepF at_ (foldTo at_ node sig pre).2 (foldTo at_ node sig pre).1 (besideL sig x.val), (foldTo at_ node sig pre).2 + 1) := by
  unfold foldTo
  rw [List.foldl_append]
  rfl
theorem foldTo_two (at_ : Nat) (node sig : List UInt8) (pre : List (Fin 3)) : (foldTo at_ node sig pre).2 = pre.length := by
  suffices h : ∀ (l : List (Fin 3)) (s : List UInt8 × Nat), (l.foldl (fun s (x : Fin 3) => (stepF at_ s.2 s.1 (besideL sig x.val), s.2 + 1)) s).2 = s.2 + l.length by
    have := h pre (node, 0)
    simpa [foldTo] using this
  intro l
  induction l with
  | nil => intro s; rfl
  | cons x l ih => intro s; rw [List.foldl_cons, ih, List.length_cons]; omega
theorem foldTo_len (at_ : Nat) (node sig : List UInt8) (hn : node.length = 16) (pre : List (Fin 3)) : (foldTo at_ node sig pre).1.length = 16 := by
  suffices h : ∀ (l : List (Fin 3)) (s : List UInt8 × Nat), s.1.length = 16 → (l.foldl (fun s (x : Fin 3) => (stepF at_ s.2 s.1 (besideL sig x.val), s.2 + 1)) s).1.length = 16 from h pre (node, 0) hn
  intro l
  induction l with
  | nil => intro s hs; exact hs
  | cons x l ih => intro s hs; rw [List.foldl_cons]; exact ih _ (stepF_len _ _ _ _)
theorem foldTo_fst (at_ : Nat) (node sig : List UInt8) : (foldTo at_ node sig (fst 3 3)).1 = foldN at_ node sig 3 := rfl
theorem half_up (x r : Nat) : ((x : Int) / 2 ^ r / 2) = ((x / 2 ^ (r + 1) : Nat) : Int) := by
  rw [Nat.pow_succ, ← Nat.div_div_eq_div_mul]
  simp
/-- What the loop of Check keeps. -/
def ChkI (at_ : Nat) (node sig : List UInt8) (b8 b9 b11 : Nat) (g o c : Nat) (bs : Nat) (w : World) (pre : List (Fin 3)) (W : World) : Prop :=
  ∃ D d, Boxed W b9 22 (.slice D 16 d) ∧ Fr W w.heap.size 5 1 D 16 d (bvs (foldTo at_ node sig pre).1) ∧ Boxed W b8 3 (.int .i64 ((at_ / 2 ^ pre.length : Nat) : Int)) ∧ Boxed W b11 3 (.int .i64 (pre.length : Int)) ∧
    W.heap[bs]? = some (.cells #[.slice (some ⟨g, o, none⟩) (16 * 3) c] 22 (0, 0)) ∧ W.heap[bs + 1]? = some (.cells #[.int .i64 ((16 : Nat) : Int)] 3 (0, 0)) ∧ Below w.heap.size w W
theorem chkI_own (at_ : Nat) (node sig : List UInt8) (b8 b9 b11 : Nat) (g o c : Nat) (bs : Nat) (w : World) (B : Nat) (hB : w.heap.size ≤ B) : OwnFrom B (ChkI at_ node sig b8 b9 b11 g o c bs w) := by
  rintro pre W W' row ⟨D, d, h1, h2, h3, h4, h5, h6, h7⟩ hg hr
  have hr' : ∀ r, row = some r → ∃ o : Obj, W.heap[r]? = some o ∧ o.isCells = false := fun r e => (hr r e).2
  exact ⟨D, d, block_own h1 hg hr', h2.own hg hr', block_own h3 hg hr', block_own h4 hg hr', block_own h5 hg hr', block_own h6 hg hr', h7.grown hg h7.size (fun k e => Nat.le_trans hB (hr k e).1)⟩
theorem u8_of (x : Nat) (h : x < 8) : IntKind.i64.wrap (x : Int) = (x : Int) := IntWalk.i64_in _ (by omega)
def ChkMid (x : Nat) (node : List UInt8) (b8 : Nat) (w : World) (s9 s10 : Value) (wc : World) : Prop :=
  ∃ b9 D d, s9 = .pointer (some ⟨b9, 0, none⟩) ∧ s10 = .int .i64 0 ∧ Boxed wc b9 22 (.slice D 16 d) ∧ Fr wc w.heap.size 5 1 D 16 d (bvs node) ∧ Boxed wc b8 3 (.int .i64 (x : Int)) ∧ b8 < b9 ∧ Below w.heap.size w wc
theorem box_fr {w : World} {base n c b : Nat} {A : Option Addr} {xs : List Value} {v v' : Value} (h : Fr w base 5 1 A n c xs) (hb : Boxed w b 22 v) : Fr (w.setCell ⟨b, 0, none⟩ v') base 5 1 A n c xs := by
  refine h.setCell (fun e => ?_) _
  obtain ⟨cur, fz, hc⟩ := h.cells_ b e
  rw [hb] at hc
  cases hc
theorem box_fr' {w : World} {base n c b : Nat} {A : Option Addr} {xs : List Value} {v v' : Value} (h : Fr w base 5 1 A n c xs) (hb : Boxed w b 3 v) : Fr (w.setCell ⟨b, 0, none⟩ v') base 5 1 A n c xs := by
  refine h.setCell (fun e => ?_) _
  obtain ⟨cur, fz, hc⟩ := h.cells_ b e
  rw [hb] at hc
  cases hc
set_option maxHeartbeats 8000000 in
theorem x_check_ok (P : Option Addr) (pc : Nat) (pub : List UInt8) (T : Option Addr) (n t : Nat) (text : List UInt8) (S : Option Addr) (sc : Nat) (sig : List UInt8) (w : World) (hp : pub.length = 16) (hrp : Rd w w.heap.size 1 P 16 (bvs pub))
    (hl : text.length = n) (hn : (n : Int) ≤ 1000000) (hnt : n ≤ t) (hrt : Rd w w.heap.size 1 T n (bvs text)) (hs : sig.length = 209) (hsc : 209 ≤ sc) (hrs : Rd w w.heap.size 1 S 209 (bvs sig)) (h8 : atL sig < 8) :
    Calls Try.prog 18 #[.slice P 16 pc, .slice T n t, .slice S 209 sc] w fun e w' => e = .returned (.tuple #[.bool (chkL pub text sig), .int .i64 0]) ∧ Below w.heap.size w w' := by
  obtain ⟨g, o, u, rfl, hg, hu, cx⟩ := hrs.at_ (k := 0) (by omega)
  have hu2 : u = .int .u8 (atL sig : Int) := by
    rw [bvs_get, List.getElem?_eq_getElem (by omega)] at hu
    rw [atL, List.getD_eq_getElem?_getD, List.getElem?_eq_getElem (by omega)]
    simpa [bv] using hu.symm
  subst hu2
  rw [Nat.add_zero] at cx
  have hpl := partL_len hs
  have hrpart := fun W (h : Below w.heap.size w W) => ((((hrs.below h).more h.size).subB 1 160 (by omega) (by omega)) : Rd W W.heap.size 1 (some ⟨g, o + 1, none⟩) 160 (bvs (partL sig)))
  have hbes : ∀ W (h : Below w.heap.size w W) r (hr : r < 3), Rd W W.heap.size 1 (some ⟨g, o + (161 + 16 * r), none⟩) 16 (bvs (besideL sig r)) := fun W h r hr => ((hrs.below h).more h.size).subB (161 + 16 * r) 16 (by omega) (by omega)
  have hbl := fun r (hr : r < 3) => besideL_len hs hr
  have hck : chkL pub text sig = eqB (foldN (atL sig) (recL (atL sig) text (partL sig)) sig 3) pub := rfl
  rw [hck]
  generalize atL sig = x at *
  have hrec := fun W (h : Below w.heap.size w W) => c_recover x T n t text (some ⟨g, o + 1, none⟩) (sc - 1) (partL sig) W h8 hl hn hnt ((hrt.below h).more h.size) hpl (by omega) (hrpart W h)
  have hnl := recL_len x text (partL sig)
  generalize recL x text (partL sig) = node at *
  have hdec : decide ((8 : Int) ≤ (x : Int)) = false := by simp; omega
  have hw8 := u8_of x h8
  have HREC := Lib.hid hrec
  have HBES := Lib.hid hbes
  have HBL := Lib.hid hbl
  have HNL := Lib.hid hnl
  have HP := Lib.hid hrp
  have HPL := Lib.hid hp
  have HSC := Lib.hid hsc
  have HG := Lib.hid hg
  have H8V := Lib.hid h8
  have hsc1 : (161 : Int) ≤ (sc : Int) := by omega
  have hsc2 : ¬ sc = 1 := by omega
  have hsc3 : ¬ sc = 161 := by omega
  clear hu hrs hs hg hpl hrpart hbes hbl hrec hnl hrp hp hrt hl hn hnt hsc h8 hck
  refine (callsIn_wide (n := 9)).1 ?_
  refine callsIn_of_wp_marks Try.func18 rfl trivial ?_ rfl
  refine wpIn_wide.2 ?_
  simp only [Try.ntmps18, List.size_toArray, List.length_cons, List.length_nil, Nat.reduceAdd, Nat.reduceSub, Array.replicate_succ, Array.replicate_zero, List.push_toArray, List.append_toArray, List.nil_append, List.cons_append]
  go_wp2_with fail
  obtain ⟨b8, hb8⟩ : ∃ b, b = w.heap.size := ⟨_, rfl⟩
  have hX8 := Boxed.new w 3 (.int .i64 (x : Int))
  have hBw := below_new w (.cells #[.int .i64 (x : Int)] 3)
  rw [← hb8] at hX8
  simp only [← hb8]
  obtain ⟨wb, hwb⟩ : ∃ W, W = w.alloc (.cells #[.int .i64 (x : Int)] 3) := ⟨_, rfl⟩
  rw [← hwb] at hX8 hBw
  simp only [← hwb]
  have HX8 := Lib.hid hX8
  have HBW := Lib.hid hBw
  have HL8 := Lib.hid hX8.lt
  have HB8 := Lib.hid hb8
  clear hX8 hBw hb8 hwb cx
  go_cut [9, 10] from 31 (fun s9 s10 wc => ChkMid x node b8 w s9 s10 wc)
  case first =>
    refine wp_of_normal ?_
    refine wp_region_held_drew (S := fun W => Below wb.heap.size wb W) (by kernel_rfl) (Below.refl wb.heap.size wb).drew (fun hS => ?_)
    refine wpAnyH_take (i := 0) (v := ?_) rfl (by kernel_rfl) (by kernel_rfl) (by kernel_rfl) (fun _ _ _ h => h) (Or.inl ⟨by rfl, ?hyq⟩) hS ?_
    case hyq =>
      intro w hw
      have kx := (Boxed.low HX8.out hw HL8.out).cell
      go_simp
      try (with_reducible rfl)
    refine wpAnyH_take (i := 1) (v := ?_) rfl (by kernel_rfl) (by kernel_rfl) (by kernel_rfl) (fun _ _ _ h => h) (Or.inl ⟨by rfl, ?hyq⟩) hS ?_
    case hyq =>
      intro w hw
      go_simp
      try (with_reducible rfl)
    refine wpAnyH_take (i := 2) (v := ?_) rfl (by kernel_rfl) (by kernel_rfl) (by kernel_rfl) (fun _ _ _ h => h) (Or.inl ⟨by rfl, ?hyq⟩) hS ?_
    case hyq =>
      intro w hw
      go_simp
      try (with_reducible rfl)
    refine wpAnyH_take (i := 3) (v := ?_) rfl (by kernel_rfl) (by kernel_rfl) (by kernel_rfl) (fun _ _ _ h => h) (Or.inl ⟨by rfl, ?hyq⟩) hS ?_
    case hyq =>
      intro w hw
      go_simp
      try (with_reducible rfl)
    refine wpAnyH_ready (rs := [4, 8]) (by kernel_rfl) (by simp) ?_
    refine all_consH rfl (fun K hK => ?_) ?_
    · skip
      refine Stp.mk ?_
      go_simp
      go_wp2_with fail
      refine (HREC.out _ (below_to HBW.out hS HBW.out.size)).mono ?_
      rintro e w2 ⟨D, d, rfl, f1, b1⟩
      have hSn := below_to hS b1 hS.size
      have HF := Lib.hid (f1.mono (base' := w.heap.size) (Nat.le_trans HBW.out.size hS.size))
      clear f1 b1
      go_wp2
      refine hK.out _ _ hSn (fun hS => ?_)
      clear hK K hSn
      refine wpAnyH_take (i := 5) (v := ?_) rfl (by kernel_rfl) (by kernel_rfl) (by kernel_rfl) (fun _ _ _ h => h) (Or.inl ⟨by rfl, ?hyq⟩) hS ?_
      case hyq =>
        intro w hw
        go_simp
        try (with_reducible rfl)
      refine wpAnyH_take (i := 6) (v := ?_) rfl (by kernel_rfl) (by kernel_rfl) (by kernel_rfl) (fun _ _ _ h => h) (Or.inl ⟨by rfl, ?hyq⟩) hS ?_
      case hyq =>
        intro w hw
        go_simp
        try (with_reducible rfl)
      refine wpAnyH_take (i := 7) (v := ?_) rfl (by kernel_rfl) (by kernel_rfl) (by kernel_rfl) (fun _ _ _ h => h) (Or.inl ⟨by rfl, ?hyq⟩) hS ?_
      case hyq =>
        intro w hw
        go_simp
        try (with_reducible rfl)
      refine wpAnyH_ready (rs := [8]) (by kernel_rfl) (by simp) ?_
      refine all_consH rfl (fun K hK => ?_) ?_
      · skip
        obtain ⟨b9, hb9⟩ : ∃ b, b = w2.heap.size := ⟨_, rfl⟩
        obtain ⟨w4, hw4⟩ : ∃ W, W = w2.alloc (.cells #[.slice none 0 0] 22) := ⟨_, rfl⟩
        refine stp_run (v := .pointer (some ⟨b9, 0, none⟩)) (w' := w4) rfl (by rw [hb9, hw4]; go_simp) ?_
        have hN := Boxed.new w2 22 (.slice none 0 0)
        rw [← hb9, ← hw4] at hN
        have hge := hS.size
        rw [← hb9] at hge
        have hSn := below_alloc hS (.cells #[.slice none 0 0] 22) (Nat.le_refl _)
        rw [← hw4] at hSn
        replace HF := Lib.hid (HF.out.alloc (.cells #[.slice none 0 0] 22))
        rw [← hw4] at HF
        clear hw4 hb9
        refine hK.out _ _ hSn (fun hS => ?_)
        clear hK K hSn
        refine wpAnyH_ready (rs := [9]) (by kernel_rfl) (by simp) ?_
        refine all_consH rfl (fun K hK => ?_) ?_
        · skip
          refine Stp.mk ?_
          have c9 := hN.cell
          have f9 := hN.frozen
          have hN2 := hN.set (.slice D 16 d)
          replace HF := Lib.hid (box_fr (v' := .slice D 16 d) HF.out hN)
          have hSn := hS.setCell (p := ⟨b9, 0, none⟩) hge (.slice D 16 d)
          go_simp
          clear c9 f9 hN
          refine hK.out _ _ hSn (fun hS => ?_)
          clear hK K hSn
          refine wpAnyH_take (i := 10) (v := ?_) rfl (by kernel_rfl) (by kernel_rfl) (by kernel_rfl) (fun _ _ _ h => h) (Or.inl ⟨by rfl, ?hyq⟩) hS ?_
          case hyq =>
            intro w hw
            go_simp
            try (with_reducible rfl)
          refine wpAnyH_done (by kernel_rfl) ?_ _
          refine normal_in ?_
          have hx8 := Boxed.low HX8.out hS HL8.out
          have hbw := below_to HBW.out hS HBW.out.size
          have hlt := Nat.lt_of_lt_of_le HL8.out hge
          go_wp2
          go_meet
          case rel => exact ⟨_, D, d, rfl, rfl, hN2, HF.out, hx8, hlt, hbw⟩
        exact AllReadyH.nil
      exact AllReadyH.nil
    refine all_consH rfl (fun K hK => ?_) ?_
    · skip
      obtain ⟨b9, hb9⟩ : ∃ b, b = wb.drew.heap.size := ⟨_, rfl⟩
      obtain ⟨w4, hw4⟩ : ∃ W, W = wb.drew.alloc (.cells #[.slice none 0 0] 22) := ⟨_, rfl⟩
      refine stp_run (v := .pointer (some ⟨b9, 0, none⟩)) (w' := w4) rfl (by rw [hb9, hw4]; go_simp) ?_
      have hN := Boxed.new wb.drew 22 (.slice none 0 0)
      rw [← hb9, ← hw4] at hN
      have hge := hS.size
      rw [← hb9] at hge
      have hSn := below_alloc hS (.cells #[.slice none 0 0] 22) (Nat.le_refl _)
      rw [← hw4] at hSn
      clear hw4 hb9
      refine hK.out _ _ hSn (fun hS => ?_)
      clear hK K hSn
      refine wpAnyH_ready (rs := [4]) (by kernel_rfl) (by simp) ?_
      refine all_consH rfl (fun K hK => ?_) ?_
      · skip
        refine Stp.mk ?_
        go_simp
        go_wp2_with fail
        have hz := hN.lt
        refine (HREC.out _ (below_to HBW.out hS HBW.out.size)).mono ?_
        rintro e w2 ⟨D, d, rfl, f1, b1⟩
        have hSn := below_to hS b1 hS.size
        replace hN := Boxed.low hN b1 hz
        clear hz
        have HF := Lib.hid (f1.mono (base' := w.heap.size) (Nat.le_trans HBW.out.size hS.size))
        clear f1 b1
        go_wp2
        refine hK.out _ _ hSn (fun hS => ?_)
        clear hK K hSn
        refine wpAnyH_take (i := 5) (v := ?_) rfl (by kernel_rfl) (by kernel_rfl) (by kernel_rfl) (fun _ _ _ h => h) (Or.inl ⟨by rfl, ?hyq⟩) hS ?_
        case hyq =>
          intro w hw
          go_simp
          try (with_reducible rfl)
        refine wpAnyH_take (i := 6) (v := ?_) rfl (by kernel_rfl) (by kernel_rfl) (by kernel_rfl) (fun _ _ _ h => h) (Or.inl ⟨by rfl, ?hyq⟩) hS ?_
        case hyq =>
          intro w hw
          go_simp
          try (with_reducible rfl)
        refine wpAnyH_take (i := 7) (v := ?_) rfl (by kernel_rfl) (by kernel_rfl) (by kernel_rfl) (fun _ _ _ h => h) (Or.inl ⟨by rfl, ?hyq⟩) hS ?_
        case hyq =>
          intro w hw
          go_simp
          try (with_reducible rfl)
        refine wpAnyH_ready (rs := [9]) (by kernel_rfl) (by simp) ?_
        refine all_consH rfl (fun K hK => ?_) ?_
        · skip
          refine Stp.mk ?_
          have c9 := hN.cell
          have f9 := hN.frozen
          have hN2 := hN.set (.slice D 16 d)
          replace HF := Lib.hid (box_fr (v' := .slice D 16 d) HF.out hN)
          have hSn := hS.setCell (p := ⟨b9, 0, none⟩) hge (.slice D 16 d)
          go_simp
          clear c9 f9 hN
          refine hK.out _ _ hSn (fun hS => ?_)
          clear hK K hSn
          refine wpAnyH_take (i := 10) (v := ?_) rfl (by kernel_rfl) (by kernel_rfl) (by kernel_rfl) (fun _ _ _ h => h) (Or.inl ⟨by rfl, ?hyq⟩) hS ?_
          case hyq =>
            intro w hw
            go_simp
            try (with_reducible rfl)
          refine wpAnyH_done (by kernel_rfl) ?_ _
          refine normal_in ?_
          have hx8 := Boxed.low HX8.out hS HL8.out
          have hbw := below_to HBW.out hS HBW.out.size
          have hlt := Nat.lt_of_lt_of_le HL8.out hge
          go_wp2
          go_meet
          case rel => exact ⟨_, D, d, rfl, rfl, hN2, HF.out, hx8, hlt, hbw⟩
        exact AllReadyH.nil
      exact AllReadyH.nil
    exact AllReadyH.nil
  case rest =>
    obtain ⟨b9, D, d, rfl, rfl, h9, hf, h8, hlt, hb⟩ := hcut
    have h11 := Boxed.new wc 3 (.int .i64 0)
    have hbd := below_alloc hb (.cells #[.int .i64 0] 3) (Nat.le_refl _)
    have h9d := h9.alloc (.cells #[.int .i64 0] 3)
    have h8d := h8.alloc (.cells #[.int .i64 0] 3)
    have hfd := hf.alloc (.cells #[.int .i64 0] 3)
    have hlt9 := h9.lt
    obtain ⟨b11, hb11⟩ : ∃ b, b = wc.heap.size := ⟨_, rfl⟩
    obtain ⟨wd, hwd⟩ : ∃ W, W = wc.alloc (.cells #[.int .i64 0] 3) := ⟨_, rfl⟩
    rw [← hwd] at h11 hbd h9d h8d hfd
    rw [← hb11] at h11 hlt9
    have H11 := Lib.hid h11
    have HBD := Lib.hid hbd
    have H9 := Lib.hid h9d
    have H8D := Lib.hid h8d
    have HF := Lib.hid hfd
    have HB11 := Lib.hid hb11
    have HWD := Lib.hid hwd
    clear h11 hbd h9d h8d hfd hb11 hwd h9 hf h8 hb
    go_wp2_with fail
    simp only [← HB11.out, ← HWD.out]
    refine ((callsIn_wide (n := 9)).1 (ck_in Fence.wide 9 trivial rfl _ _ _ 16 (by omega) _)).mono ?_
    rintro e w3 ⟨rfl, hw3⟩
    have hz3 : w3.heap.size = wd.heap.size + 2 := by rw [hw3, World.size_alloc, World.size_alloc]
    have hb3 : Below wd.heap.size wd w3 := by rw [hw3]; exact below_alloc (below_new wd _) _ (Nat.le_refl _)
    have hbs : w3.heap[wd.heap.size]? = some (.cells #[.slice (some ⟨g, o + 161, none⟩) (16 * 3) (sc - 161)] 22 (0, 0)) := by
      rw [hw3, Below.heap_alloc _ _ _ (by rw [World.size_alloc]; omega)]
      exact heap_alloc_new wd _
    have hbk : w3.heap[wd.heap.size + 1]? = some (.cells #[.int .i64 ((16 : Nat) : Int)] 3 (0, 0)) := by
      have h := heap_alloc_new (wd.alloc (.cells #[.slice (some ⟨g, o + 161, none⟩) 48 (sc - 161)] 22)) (.cells #[.int .i64 16] 3)
      rw [World.size_alloc] at h
      rw [hw3]
      exact h
    have hB3 := below_to HBD.out hb3 HBD.out.size
    have h93 := Boxed.low H9.out hb3 H9.out.lt
    have h83 := Boxed.low H8D.out hb3 H8D.out.lt
    have h113 := Boxed.low H11.out hb3 H11.out.lt
    have hf3 := HF.out.below hb3 (Nat.le_refl _)
    have hl11 := H11.out.lt
    obtain ⟨bs, hbse⟩ : ∃ b, b = wd.heap.size := ⟨_, rfl⟩
    rw [← hbse] at hbs hbk hz3 hl11
    simp only [← hbse]
    clear hw3 H9 H8D H11 HF hb3
    have hs49 : 16 * 3 ≤ sc - 161 := by have := HSC.out; omega
    go_wp2_with fail
    refine (wpIn_wide (n := 9)).1 ?_
    refine wpIn_rangeFunc_ownF rfl (by omega) (gf := 73) (lb := #[.pointer (some ⟨bs, 0, none⟩), .pointer (some ⟨bs + 1, 0, none⟩)]) rfl trivial (enters_of Try.func73 (by kernel_rfl) rfl)
      (ck_stops Fence.wide _ trivial rfl (by omega) bs g (o + 161) 16 3 (sc - 161) (by omega) (by omega) (by omega) hs49 w3 hbs hbk) (fun h k => h.trans k) (KpC.put (by have := hB3.size; have := HG.out; omega) (by omega)) (Below.refl _ _) (fun _ => rfl)
      (ChkI x node sig b8 b9 b11 g (o + 161) (sc - 161) bs w) (fun _ _ _ => False) (chkI_own x node sig b8 b9 b11 g (o + 161) (sc - 161) bs w _ hB3.size) (fun _ _ _ _ _ hs _ _ => hs) ?start ?a1 ?assign ?body ?done ?stop
    case start => exact ⟨D, d, h93, hf3, by simpa using h83, h113, hbs, hbk, hB3⟩
    case assign =>
      intro l x W K hK
      gi_wp2
      exact hK
    case body =>
      rintro l1 pre i W ⟨D', d', hO, hF, h8, h11, hk1, hk2, hB⟩ hlt
      have hrd := HBES.out W hB i.val i.2
      rw [← Nat.add_assoc] at hrd
      have hbl := HBL.out i.val i.2
      have hsn := foldTo_snoc x node sig pre i
      rw [foldTo_two] at hsn
      have hlen := foldTo_len x node sig HNL.out pre
      have hlp : (pre ++ [i]).length = pre.length + 1 := by rw [List.length_append, List.length_singleton]
      have HSN := Lib.hid hsn
      have HLP := Lib.hid hlp
      have HFLEN := Lib.hid hlen
      have HBLEN := Lib.hid hbl
      have HRD := Lib.hid hrd
      clear hsn hlp hlen hbl hrd
      generalize (foldTo x node sig pre).1 = nd at *
      generalize besideL sig i.val = be at *
      generalize pre.length = r at *
      generalize 16 * i.val = p at *
      have c9 := hO.cell
      have f9 := hO.frozen
      have c8 := h8.cell
      have f8 := h8.frozen
      have c11 := h11.cell
      have f11 := h11.frozen
      have HO := Lib.hid hO
      have HF := Lib.hid hF
      have H8 := Lib.hid h8
      have H11 := Lib.hid h11
      have HK1 := Lib.hid hk1
      have HK2 := Lib.hid hk2
      have HB := Lib.hid hB
      have HLT := Lib.hid hlt
      clear hO hF h8 h11 hk1 hk2 hB hlt
      have hup : x / 2 ^ (r + 1) = x / 2 ^ r / 2 := by rw [Nat.pow_succ, Nat.div_div_eq_div_mul]
      have hal : x / 2 ^ r ≤ x := Nat.div_le_self _ _
      have hx8 := H8V.out
      by_cases hpar : x / 2 ^ r % 2 = 1
      · have hst : ∀ l b, stepF x r l b = aboveL r b l := fun l b => by unfold stepF; rw [if_pos hpar]
        rw [hst] at HSN
        clear hst
        obtain ⟨a, ha⟩ : ∃ a, a = x / 2 ^ r := ⟨_, rfl⟩
        rw [← ha] at hpar hup hal
        simp only [← ha] at c8
        have hbit := i64_and1 (a : Int)
        rw [show (a : Int) % 2 = 1 by omega] at hbit
        have HA := Lib.hid ha
        have HUP := Lib.hid hup
        clear ha hup hpar
        have hr3 := HLT.out
        gi_wp2_with ((refine ⟨trivial, ?_⟩; gi_at_call 45; refine (CallsIn.inRound l1 (callsIn_wide.2 (x_above r (by omega) _ _ _ _ _ _ W
          HBLEN.out HFLEN.out HRD.out HF.out.rd))).mono ?_; rintro e W1 ⟨D2, d2, rfl, f2, b2⟩; have k9 := Boxed.low HO.out b2 HO.out.lt; have k8 := Boxed.low H8.out b2 H8.out.lt; have k11 := Boxed.low H11.out b2 H11.out.lt; have p9 := k9.cell; have q9 := k9.frozen; have p8 := k8.cell; have q8 := k8.frozen; have p11 := k11.cell; have q11 := k11.frozen; have K9 := Lib.hid k9; have K8 := Lib.hid k8; have K11 := Lib.hid k11; have F2 := Lib.hid f2; have B2 := Lib.hid b2; clear k9 k8 k11 f2 b2))
        rw [half_up]
        have hz := H11.out.lt
        have hz9 := HO.out.lt
        have hz8 := H8.out.lt
        have hzb := (Array.getElem?_eq_some_iff.1 HK2.out).1
        have hw8e := HB8.out
        have hgw := HG.out
        have hsame : ∀ b, b < W.heap.size → b ≠ b9 → b ≠ b8 → b ≠ b11 → (((W1.setCell ⟨b9, 0, none⟩ (.slice D2 16 d2)).setCell ⟨b8, 0, none⟩ (.int .i64 ((x / 2 ^ (r + 1) : Nat) : Int))).setCell ⟨b11, 0, none⟩ (.int .i64 ((r : Int) + 1))).heap[b]? = W.heap[b]? := fun b h0 n9 n8 n11 =>
          (Below.heap_setCell _ _ _ _ n11).trans ((Below.heap_setCell _ _ _ _ n8).trans ((Below.heap_setCell _ _ _ _ n9).trans (B2.out.block b h0)))
        refine ⟨(((keeps_of_below B2.out).trans (KeepsOthers.setCell _ _ _)).trans (KeepsOthers.setCell _ _ _)).trans (KeepsOthers.setCell _ _ _), ⟨hsame g (by have := HB.out.size; omega) (by omega) (by omega) (by omega), hsame bs (by omega) (by omega) (by omega) (by omega), hsame (bs + 1) (by omega) (by omega) (by omega) (by omega)⟩, D2, d2, ?_, ?_, ?_, ?_, (hsame bs (by omega) (by omega) (by omega) (by omega)).trans HK1.out, (hsame (bs + 1) (by omega) (by omega) (by omega) (by omega)).trans HK2.out, ?_⟩
        · exact ((K9.out.set _).other (by omega) _).other (by omega) _
        · rw [HSN.out]
          exact box_fr' (box_fr' (box_fr (F2.out.mono (Nat.le_trans HB.out.size (Nat.le_refl _))) K9.out) (K8.out.other (by omega) _)) ((K11.out.other (by omega) _).other (by omega) _)
        · rw [HLP.out]
          exact ((K8.out.other (by omega) _).set _).other (by omega) _
        · rw [HLP.out]
          exact ((K11.out.other (by omega) _).other (by omega) _).set _
        · exact (((below_to HB.out B2.out HB.out.size).setCell (p := ⟨b9, 0, none⟩) (by show _ ≤ b9; omega) _).setCell (p := ⟨b8, 0, none⟩) (by show _ ≤ b8; omega) _).setCell (p := ⟨b11, 0, none⟩) (by show _ ≤ b11; omega) _
      · have hst : ∀ l b, stepF x r l b = aboveL r l b := fun l b => by unfold stepF; rw [if_neg hpar]
        rw [hst] at HSN
        clear hst
        obtain ⟨a, ha⟩ : ∃ a, a = x / 2 ^ r := ⟨_, rfl⟩
        rw [← ha] at hpar hup hal
        simp only [← ha] at c8
        have hbit := i64_and1 (a : Int)
        rw [show (a : Int) % 2 = 0 by omega] at hbit
        have HA := Lib.hid ha
        have HUP := Lib.hid hup
        clear ha hup hpar
        have hr3 := HLT.out
        gi_wp2_with ((refine ⟨trivial, ?_⟩; gi_at_call 45; refine (CallsIn.inRound l1 (callsIn_wide.2 (x_above r (by omega) _ _ _ _ _ _ W
          HFLEN.out HBLEN.out HF.out.rd HRD.out))).mono ?_; rintro e W1 ⟨D2, d2, rfl, f2, b2⟩; have k9 := Boxed.low HO.out b2 HO.out.lt; have k8 := Boxed.low H8.out b2 H8.out.lt; have k11 := Boxed.low H11.out b2 H11.out.lt; have p9 := k9.cell; have q9 := k9.frozen; have p8 := k8.cell; have q8 := k8.frozen; have p11 := k11.cell; have q11 := k11.frozen; have K9 := Lib.hid k9; have K8 := Lib.hid k8; have K11 := Lib.hid k11; have F2 := Lib.hid f2; have B2 := Lib.hid b2; clear k9 k8 k11 f2 b2))
        rw [half_up]
        have hz := H11.out.lt
        have hz9 := HO.out.lt
        have hz8 := H8.out.lt
        have hzb := (Array.getElem?_eq_some_iff.1 HK2.out).1
        have hw8e := HB8.out
        have hgw := HG.out
        have hsame : ∀ b, b < W.heap.size → b ≠ b9 → b ≠ b8 → b ≠ b11 → (((W1.setCell ⟨b9, 0, none⟩ (.slice D2 16 d2)).setCell ⟨b8, 0, none⟩ (.int .i64 ((x / 2 ^ (r + 1) : Nat) : Int))).setCell ⟨b11, 0, none⟩ (.int .i64 ((r : Int) + 1))).heap[b]? = W.heap[b]? := fun b h0 n9 n8 n11 =>
          (Below.heap_setCell _ _ _ _ n11).trans ((Below.heap_setCell _ _ _ _ n8).trans ((Below.heap_setCell _ _ _ _ n9).trans (B2.out.block b h0)))
        refine ⟨(((keeps_of_below B2.out).trans (KeepsOthers.setCell _ _ _)).trans (KeepsOthers.setCell _ _ _)).trans (KeepsOthers.setCell _ _ _), ⟨hsame g (by have := HB.out.size; omega) (by omega) (by omega) (by omega), hsame bs (by omega) (by omega) (by omega) (by omega), hsame (bs + 1) (by omega) (by omega) (by omega) (by omega)⟩, D2, d2, ?_, ?_, ?_, ?_, (hsame bs (by omega) (by omega) (by omega) (by omega)).trans HK1.out, (hsame (bs + 1) (by omega) (by omega) (by omega) (by omega)).trans HK2.out, ?_⟩
        · exact ((K9.out.set _).other (by omega) _).other (by omega) _
        · rw [HSN.out]
          exact box_fr' (box_fr' (box_fr (F2.out.mono (Nat.le_trans HB.out.size (Nat.le_refl _))) K9.out) (K8.out.other (by omega) _)) ((K11.out.other (by omega) _).other (by omega) _)
        · rw [HLP.out]
          exact ((K8.out.other (by omega) _).set _).other (by omega) _
        · rw [HLP.out]
          exact ((K11.out.other (by omega) _).other (by omega) _).set _
        · exact (((below_to HB.out B2.out HB.out.size).setCell (p := ⟨b9, 0, none⟩) (by show _ ≤ b9; omega) _).setCell (p := ⟨b8, 0, none⟩) (by show _ ≤ b8; omega) _).setCell (p := ⟨b11, 0, none⟩) (by show _ ≤ b11; omega) _
    case done =>
      rintro D0 ys W hD rfl ⟨D', d', hO, hF, h8, h11, -, -, hB⟩ hK
      rw [foldTo_fst] at hF
      have hfl := foldN_len (at_ := x) (sig := sig) HNL.out 3
      have c9 := hO.cell
      have heq := x_equal D' 16 d' (foldN x node sig 3) P pc pub W hfl HPL.out (by omega) hF.rd ((HP.out.below hB).more hB.size)
      have HEQ := Lib.hid heq
      have HB := Lib.hid hB
      have HK := Lib.hid hK
      clear heq hfl hO hF h8 h11 hB hK
      go_wp2_with fail
      refine HEQ.out.mono ?_
      rintro e W1 ⟨rfl, b1⟩
      have HK1 : Hid (W1.heap[D0]? = some (.deferred (some []))) := Lib.hid ((b1.block _ (Array.getElem?_eq_some_iff.1 HK.out).1).trans HK.out)
      have HB1 := Lib.hid (below_to HB.out b1 HB.out.size)
      have hBz := hB3.size
      clear b1
      go_wp2
      refine ⟨by simp, .inl ⟨_, _, rfl, run_takeDeferred HK1.out, ?_⟩⟩
      exact ⟨_, results_tmp2 rfl _ _ _, rfl, HB1.out.trans (belowK_b (w := w) (Nat.le_refl _) W1 D0 _ _ (by omega) HK1.out rfl rfl)⟩
    case stop =>
      rintro D c pre W _ _ h _
      exact h.elim
end Go.Proofs.Ytoggpnncmgcgoaa
