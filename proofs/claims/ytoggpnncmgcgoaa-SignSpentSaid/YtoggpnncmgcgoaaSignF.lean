/-
  Contracts of package sign: Public, Sign.
-/
import Derived.Test.YtoggpnncmgcgoaaSignE
namespace Go.Proofs.Ytoggpnncmgcgoaa
open Go.RowKit Go.Shelf
set_option linter.unusedVariables false
set_option linter.unusedSimpArgs false
set_option maxRecDepth 100000

theorem AllR.at_ {w : World} {base hi b j : Nat} {B : Option Addr} {LL : List (List (List UInt8))} {L : List (List UInt8)} (h : AllR w base hi B b LL) (hj : LL[j]? = some L) :
    ∃ G A c, B = some ⟨G, 0, none⟩ ∧ base ≤ G ∧ LL.length ≤ b ∧ w.cell? ⟨G, j, none⟩ = some (.slice A L.length c) ∧ Lvl w base base A L.length c L := by
  obtain ⟨vs, hf, he⟩ := h
  have hlt : j < LL.length := (List.getElem?_eq_some_iff.1 hj).1
  have hnc := hf.nc
  obtain ⟨G, rfl, h1, h2⟩ := hf.form (by omega)
  obtain ⟨u, hu, hc⟩ := hf.cell hlt
  obtain ⟨A, c, hv, hL, _⟩ := he j L hj
  rw [hu] at hv
  cases hv
  exact ⟨G, A, c, rfl, h1, hnc, hc, hL⟩
theorem allL_at (seed : List UInt8) {j : Nat} (hj : j ≤ 3) : (allL seed 3)[j]? = some (lvL seed j) := by
  rw [allL, List.getElem?_map, List.getElem?_range (by omega)]
  rfl
theorem x_public_bad (S : Option Addr) (n c : Nat) (w : World) (h : ((n : Int) != 16) = true) :
    Calls Try.prog 31 #[.slice S n c] w fun e w' => e = .returned (.tuple #[.slice none 0 0, .int .i64 2]) ∧ w = w' := by
  go_enter Try.func31, Try.ntmps31
  go_wp2
  go_ret2
  exact ⟨rfl, rfl⟩
theorem x_public (S : Option Addr) (sc : Nat) (seed : List UInt8) (w : World) (hs : seed.length = 16) (hr : Rd w w.heap.size 1 S 16 (bvs seed)) :
    Calls Try.prog 31 #[.slice S 16 sc] w fun e w' => ∃ D d, e = .returned (.tuple #[.slice D 16 d, .int .i64 0]) ∧ Fr w' w.heap.size 5 1 D 16 d (bvs (nodeL seed 3 0)) ∧ Below w.heap.size w w' := by
  have ht := x_tree S sc seed w hs hr
  have HT := Lib.hid ht
  clear ht hr
  go_enter Try.func31, Try.ntmps31
  go_wp2_with fail
  refine HT.out.mono ?_
  rintro e w1 ⟨B, b, rfl, hA, hB⟩
  obtain ⟨G, A, c, rfl, -, hb4, hc1, hL⟩ := hA.at_ (allL_at seed (Nat.le_refl 3))
  rw [lvL_len] at hc1 hL
  obtain ⟨g, D, d, rfl, -, -, hc2, hl, hf⟩ := hL.at_ (j := 0) (by decide)
  rw [lvL_at seed 3 0 (by decide)] at hf
  have HF := Lib.hid hf
  have HB := Lib.hid hB
  have hc1' : w1.cell? ⟨G, 3, none⟩ = some (.slice (some ⟨g, 0, none⟩) 1 c) := hc1
  clear hA hL hl hf hB hc1 HT
  go_wp2
  go_ret2
  exact ⟨_, _, rfl, HF.out, HB.out⟩

/-! ### Sign -/
/-- May a signer be (and not be spent)? -/
def mayB (n : Nat) (spent : Int) : Bool := decide (n = 16) && decide (0 ≤ spent) && decide (spent ≤ 8)
def sgv (S : Option Addr) (n c : Nat) (spent : Int) : Value := .agg #[.slice S n c, .int .i64 spent]
theorem x_sign_len (S : Option Addr) (n c : Nat) (spent : Int) (T : Option Addr) (m t : Nat) (w : World) (h : ((n : Int) != 16) = true) :
    Calls Try.prog 33 #[.agg #[.slice S n c, .int .i64 spent], .slice T m t] w fun e w' => e = .returned (.tuple #[.agg #[.slice none 0 0, .int .i64 0], .slice none 0 0, .int .i64 8]) ∧ Below w.heap.size w w' := by
  go_enter Try.func33, Try.ntmps33
  go_wp2
  exact bodyPost_ret (v := .tuple #[.agg #[.slice none 0 0, .int .i64 0], .slice none 0 0, .int .i64 8]) (by simp [results, Try.results33, go_sem]) rfl ⟨rfl, below_alloc (below_new w _) _ (Nat.le_refl _)⟩
theorem x_sign_low (S : Option Addr) (n c : Nat) (spent : Int) (T : Option Addr) (m t : Nat) (w : World) (h : n = 16 ∧ spent < 0) :
    Calls Try.prog 33 #[.agg #[.slice S n c, .int .i64 spent], .slice T m t] w fun e w' => e = .returned (.tuple #[.agg #[.slice none 0 0, .int .i64 0], .slice none 0 0, .int .i64 8]) ∧ Below w.heap.size w w' := by
  obtain ⟨rfl, h⟩ := h
  go_enter Try.func33, Try.ntmps33
  go_wp2
  exact bodyPost_ret (v := .tuple #[.agg #[.slice none 0 0, .int .i64 0], .slice none 0 0, .int .i64 8]) (by simp [results, Try.results33, go_sem]) rfl ⟨rfl, below_alloc (below_new w _) _ (Nat.le_refl _)⟩
theorem x_sign_high (S : Option Addr) (n c : Nat) (spent : Int) (T : Option Addr) (m t : Nat) (w : World) (h : n = 16 ∧ 8 < spent) :
    Calls Try.prog 33 #[.agg #[.slice S n c, .int .i64 spent], .slice T m t] w fun e w' => e = .returned (.tuple #[.agg #[.slice none 0 0, .int .i64 0], .slice none 0 0, .int .i64 8]) ∧ Below w.heap.size w w' := by
  obtain ⟨rfl, h⟩ := h
  have h0 : ¬ spent < 0 := by omega
  go_enter Try.func33, Try.ntmps33
  go_wp2
  exact bodyPost_ret (v := .tuple #[.agg #[.slice none 0 0, .int .i64 0], .slice none 0 0, .int .i64 8]) (by simp [results, Try.results33, go_sem]) rfl ⟨rfl, below_alloc (below_new w _) _ (Nat.le_refl _)⟩
theorem x_sign_spent (S : Option Addr) (n c : Nat) (spent : Int) (T : Option Addr) (m t : Nat) (w : World) (h : n = 16 ∧ spent = 8) :
    Calls Try.prog 33 #[.agg #[.slice S n c, .int .i64 spent], .slice T m t] w fun e w' => e = .returned (.tuple #[.agg #[.slice none 0 0, .int .i64 0], .slice none 0 0, .int .i64 80]) ∧ Below w.heap.size w w' := by
  obtain ⟨rfl, h⟩ := h
  subst h
  go_enter Try.func33, Try.ntmps33
  go_wp2
  exact bodyPost_ret (v := .tuple #[.agg #[.slice none 0 0, .int .i64 0], .slice none 0 0, .int .i64 80]) (by simp [results, Try.results33, go_sem]) rfl ⟨rfl, below_alloc (below_new w _) _ (Nat.le_refl _)⟩
/-- The node beside one. -/
def sib (n : Nat) : Nat := if n % 2 = 1 then n - 1 else n + 1
theorem i64_xor1 (n : Nat) (h : n < 8) : bits .xor .i64 (n : Int) 1 = ((sib n : Nat) : Int) := by
  have : ∀ k : Fin 8, bits .xor .i64 ((k.val : Nat) : Int) 1 = ((sib k.val : Nat) : Int) := by decide
  exact this ⟨n, h⟩
theorem sib_lt {n m : Nat} (h : n < 2 * m) : sib n < 2 * m := by
  unfold sib
  split <;> omega
/-- A signature, with so many nodes behind the leaf's own. -/
def sgN (seed : List UInt8) (spent : Nat) (text : List UInt8) : Nat → List UInt8
  | 0 => UInt8.ofNat spent :: sigL seed spent text
  | r + 1 => sgN seed spent text r ++ nodeL seed r (sib (spent / 2 ^ r))
theorem sgN_zero (seed : List UInt8) (spent : Nat) (text : List UInt8) : bvs [UInt8.ofNat spent] ++ bvs (sigL seed spent text) = bvs (sgN seed spent text 0) := by
  rw [sgN, ← bvs_app, List.singleton_append]
theorem sgN_len (seed : List UInt8) (spent : Nat) (text : List UInt8) (r : Nat) : (sgN seed spent text r).length = 161 + 16 * r := by
  induction r with
  | zero => rw [sgN, List.length_cons, sigL_len]
  | succ r ih => rw [sgN, List.length_append, ih, nodeL_len]; omega
def sgL (seed : List UInt8) (spent : Nat) (text : List UInt8) : List UInt8 := sgN seed spent text 3
theorem sgL_len (seed : List UInt8) (spent : Nat) (text : List UInt8) : (sgL seed spent text).length = 209 := sgN_len _ _ _ _
/-- A signer in a box. -/
def Pair (w : World) (b : Nat) (v0 v1 : Value) : Prop := w.heap[b]? = some (.cells #[v0, v1] 47 (0, 0))
theorem Pair.lt {w : World} {b : Nat} {v0 v1 : Value} (h : Pair w b v0 v1) : b < w.heap.size := (Array.getElem?_eq_some_iff.1 h).1
theorem Pair.c0 {w : World} {b : Nat} {v0 v1 : Value} (h : Pair w b v0 v1) : w.cell? ⟨b, 0, none⟩ = some v0 := by
  rw [cell_of_row w b 0 _ _ _ h]
  rfl
theorem Pair.c1 {w : World} {b : Nat} {v0 v1 : Value} (h : Pair w b v0 v1) : w.cell? ⟨b, 1, none⟩ = some v1 := by
  rw [cell_of_row w b 1 _ _ _ h]
  rfl
theorem Pair.f {w : World} {b i : Nat} {v0 v1 : Value} (h : Pair w b v0 v1) : w.frozen? ⟨b, i, none⟩ = false := by
  unfold Pair at h
  simp [World.frozen?, h]
theorem Pair.low {w w' : World} {b H : Nat} {v0 v1 : Value} (h : Pair w b v0 v1) (hb : Below H w w') (hH : b < H) : Pair w' b v0 v1 := (hb.block b hH).trans h
theorem Pair.put {w : World} {b : Nat} {v0 v1 : Value} (h : Pair w b v0 v1) (u0 u1 : Value) : Pair ((w.setCell ⟨b, 0, none⟩ u0).setCell ⟨b, 1, none⟩ u1) b u0 u1 := by
  have h1 : (w.setCell ⟨b, 0, none⟩ u0).heap[b]? = some (.cells #[u0, v1] 47 (0, 0)) := by
    rw [setCell_eq_setRow w b 0 _ _ _ u0 h, setRow_heap w b _ _ _ _ h]
    rfl
  unfold Pair
  rw [setCell_eq_setRow _ b 1 _ _ _ u1 h1, setRow_heap _ b _ _ _ _ h1]
  rfl
theorem fr_pair {w : World} {base n c b : Nat} {A : Option Addr} {xs : List Value} {v0 v1 : Value} (h : Fr w base 5 1 A n c xs) (hb : Pair w b v0 v1) (u0 u1 : Value) : Fr ((w.setCell ⟨b, 0, none⟩ u0).setCell ⟨b, 1, none⟩ u1) base 5 1 A n c xs := by
  have hne : ∀ w' : World, w'.heap.size = w.heap.size → rowOf A c ≠ some b := fun w' _ e => by
    obtain ⟨cur, fz, hc⟩ := h.cells_ b e
    unfold Pair at hb
    rw [hb] at hc
    cases hc
  exact (h.setCell (p := ⟨b, 0, none⟩) (hne w rfl) _).setCell (p := ⟨b, 1, none⟩) (hne w rfl) _
def SgRel (seed : List UInt8) (spent : Nat) (text : List UInt8) (base : Nat) (w2 : World) (sg a i : Value) (wr : World) : Prop :=
  ∃ (r : Nat) (E : Option Addr) (e : Nat), r ≤ 3 ∧ i = .int .i64 (r : Int) ∧ a = .int .i64 ((spent / 2 ^ r : Nat) : Int) ∧ sg = .slice E (161 + 16 * r) e ∧ Fr wr w2.heap.size 5 1 E (161 + 16 * r) e (bvs (sgN seed spent text r)) ∧ Below w2.heap.size w2 wr
set_option maxHeartbeats 8000000 in
theorem x_sign (S : Option Addr) (sc : Nat) (seed : List UInt8) (spent : Nat) (T : Option Addr) (m t : Nat) (text : List UInt8) (w : World) (hs : seed.length = 16) (hr : Rd w w.heap.size 1 S 16 (bvs seed)) (hsp : spent < 8)
    (hl : text.length = m) (hm : (m : Int) ≤ 1000000) (hmt : m ≤ t) (hrt : Rd w w.heap.size 1 T m (bvs text)) :
    Calls Try.prog 33 #[.agg #[.slice S 16 sc, .int .i64 (spent : Int)], .slice T m t] w fun e w' => ∃ D d E ec, e = .returned (.tuple #[.agg #[.slice D 16 d, .int .i64 ((spent : Int) + 1)], .slice E 209 ec, .int .i64 0]) ∧
      Fr w' w.heap.size 5 1 D 16 d (bvs seed) ∧ Fr w' w.heap.size 5 1 E 209 ec (bvs (sgL seed spent text)) ∧ Below w.heap.size w w' := by
  have hb0 := below_alloc (below_new w (.cells #[.slice S 16 sc, .int .i64 (spent : Int)] 47)) (.cells #[.slice none 0 0, .int .i64 0] 47) (Nat.le_refl _)
  have hS2 := heap_alloc_new w (.cells #[.slice S 16 sc, .int .i64 (spent : Int)] 47)
  have hS4 := heap_alloc_new (w.alloc (.cells #[.slice S 16 sc, .int .i64 (spent : Int)] 47)) (.cells #[.slice none 0 0, .int .i64 0] 47)
  rw [World.size_alloc] at hS4
  have hsig := fun W (h : Below w.heap.size w W) => c_sign S sc seed spent T m t text W hs ((hr.below h).more h.size) hsp hl hm hmt ((hrt.below h).more h.size)
  have htree := fun W (h : Below w.heap.size w W) => x_tree S sc seed W hs ((hr.below h).more h.size)
  have hcl := fun W (h : Below w.heap.size w W) => m_clone S 16 sc seed W hs (by decide) ((hr.below h).more h.size)
  have h1 : ¬ ((spent : Int) < 0) := by omega
  have h2 : ¬ (8 < (spent : Int)) := by omega
  have h3 : ((spent : Int) == 8) = false := by simp; omega
  have HB0 := Lib.hid hb0
  have HSIG := Lib.hid hsig
  have HTREE := Lib.hid htree
  have HCL := Lib.hid hcl
  have HSP := Lib.hid hsp
  have P2 : Pair ((w.alloc (.cells #[.slice S 16 sc, .int .i64 (spent : Int)] 47)).alloc (.cells #[.slice none 0 0, .int .i64 0] 47)) w.heap.size (.slice S 16 sc) (.int .i64 (spent : Int)) := (Below.heap_alloc _ _ _ (by rw [World.size_alloc]; omega)).trans hS2
  have P4 : Pair ((w.alloc (.cells #[.slice S 16 sc, .int .i64 (spent : Int)] 47)).alloc (.cells #[.slice none 0 0, .int .i64 0] 47)) (w.heap.size + 1) (.slice none 0 0) (.int .i64 0) := hS4
  have hw8 := wrap8_nat spent
  have HP2 := Lib.hid P2
  have HP4 := Lib.hid P4
  clear hb0 hsig htree hcl hs hr hl hm hmt hrt hsp hS2 hS4 P2 P4
  go_enter Try.func33, Try.ntmps33
  go_wp2_with fail
  obtain ⟨b2, hb2⟩ : ∃ b, b = w.heap.size := ⟨_, rfl⟩
  obtain ⟨w0, hw0⟩ : ∃ W, W = (w.alloc (.cells #[.slice S 16 sc, .int .i64 (spent : Int)] 47)).alloc (.cells #[.slice none 0 0, .int .i64 0] 47) := ⟨_, rfl⟩
  have P2 := HP2.out
  have P4 := HP4.out
  have B0 := HB0.out
  rw [← hw0] at P2 P4 B0
  rw [← hb2] at P2 P4
  simp only [← hb2, ← hw0]
  have HW2 := Lib.hid hb2
  clear HP2 HP4 HB0 hb2 hw0
  refine (HSIG.out w0 B0).mono ?_
  rintro e w1 ⟨D1, d1, rfl, f1, b1⟩
  have P2' := P2.low b1 P2.lt
  have P4' := P4.low b1 P4.lt
  have B1 := below_to B0 b1 B0.size
  have HF1 := Lib.hid (f1.mono (base' := w.heap.size) B0.size)
  have HP2 := Lib.hid P2'
  have HP4 := Lib.hid P4'
  have HB1 := Lib.hid B1
  have q0 := P2'.c0
  have q1 := P2'.c1
  clear P2 P4 P2' P4' B0 B1 f1 b1 HSIG
  go_wp2_with fail
  refine (HTREE.out w1 HB1.out).mono ?_
  rintro e w2 ⟨B, b, rfl, hA, bt⟩
  have P2' := HP2.out.low bt HP2.out.lt
  have P4' := HP4.out.low bt HP4.out.lt
  have B2 := below_to HB1.out bt HB1.out.size
  have HF1 := Lib.hid (HF1.out.below bt (Nat.le_refl _))
  obtain ⟨G, A0, c0, rfl, -, hb4, -, -⟩ := hA.at_ (allL_at seed (Nat.zero_le 3))
  have hb4' : (3 : Int) ≤ (b : Int) := by rw [allL_len] at hb4; omega
  have HP2 := Lib.hid P2'
  have HP4 := Lib.hid P4'
  have HB2 := Lib.hid B2
  have HA := Lib.hid hA
  have q0 := P2'.c0
  have q1 := P2'.c1
  have hsg0 := sgN_zero seed spent text
  obtain ⟨x, hx⟩ : ∃ x, x = UInt8.ofNat spent := ⟨_, rfl⟩
  rw [← hx] at hw8 hsg0
  have HSG0 := Lib.hid hsg0
  have hfr : Fr (w2.alloc (.cells (bvs [x]).toArray 5)) w2.heap.size 5 1 (some ⟨w2.heap.size, 0, none⟩) 1 1 (bvs [x]) := Fr.made w2 _ 1 1 (Nat.le_refl _) (by unfold maxLen; omega) (Nat.le_refl _) (by simp [bvs]) (by simp [bvs]) (by simp [bvs])
  have HFR := Lib.hid hfr
  have HRD1 := Lib.hid ((HF1.out.alloc (.cells (bvs [x]).toArray 5)).rd)
  clear P2' P4' B2 bt hA hsg0 hx hfr hb4 HTREE
  go_wp2_with (at_builtin; refine wpList_append_to rfl (.tmp 55) (.tmp 56) rfl okB rfl HFR.out rfl HRD1.out (bvs_one _) 161 rfl (bvs (sgN seed spent text 0)) HSG0.out (by unfold maxLen; omega) (by omega) (by rw [World.size_alloc]; omega) ?_; intro E0 e0 w3 f3 g3 _; have b3 := (below_new w2 (.cells (bvs [x]).toArray 5)).grown g3 (by rw [World.size_alloc]; omega) (fun q hq => (HFR.out.row _ hq).1); have HF3 := Lib.hid f3; have HB3 := Lib.hid b3; have p1 := (HP2.out.low b3 HP2.out.lt).c1; clear f3 g3 b3)
  go_loopw [5, 9, 66] (fun sg a i wr => SgRel seed spent text w.heap.size w2 sg a i wr) (fun _ _ i _ => 3 - (intOf i).toNat)
  case atStart => exact ⟨0, E0, e0, by omega, rfl, by simp, rfl, HF3.out, HB3.out⟩
  case round =>
    clear HF3 HB3 HFR HRD1 HSG0 q0 q1
    obtain ⟨r, E, e, hr3, rfl, rfl, rfl, hf, hb⟩ := hrel
    by_cases hlt : r < 3
    · have hA2 := HA.out.below hb
      obtain ⟨G', A, c, e1, -, -, hc, hL⟩ := hA2.at_ (allL_at seed (j := r) (by omega))
      cases e1
      rw [lvL_len] at hc hL
      have h8 := HSP.out
      have hpw := two_pow hlt
      have ha : spent / 2 ^ r < 2 ^ (3 - r) := by
        rw [Nat.div_lt_iff_lt_mul (Nat.pow_pos (by omega)), ← Nat.pow_add, show 3 - r + r = 3 by omega]
        exact h8
      have hj : sib (spent / 2 ^ r) < 2 ^ (3 - r) := by
        rw [hpw] at ha ⊢
        exact sib_lt ha
      have ha8 : spent / 2 ^ r < 8 := Nat.lt_of_le_of_lt (Nat.div_le_self _ _) h8
      obtain ⟨g, D, d, rfl, -, -, hc2, hl, hF⟩ := hL.at_ hj
      rw [lvL_at seed r _ hj] at hF
      have hxr := i64_xor1 _ ha8
      have hsn : bvs (sgN seed spent text r) ++ bvs (nodeL seed r (sib (spent / 2 ^ r))) = bvs (sgN seed spent text (r + 1)) := by rw [← bvs_app]; rfl
      have hup : ((spent / 2 ^ r : Nat) : Int) / 2 = ((spent / 2 ^ (r + 1) : Nat) : Int) := by rw [Nat.pow_succ, ← Nat.div_div_eq_div_mul]; omega
      have hN9 : 2 ^ (3 - r) ≤ 8 := (Nat.pow_le_pow_right (by omega) (show 3 - r ≤ 3 by omega) : 2 ^ (3 - r) ≤ 2 ^ 3)
      have HSN := Lib.hid hsn
      have HUP := Lib.hid hup
      have HRD := Lib.hid hF.rd
      have HE := Lib.hid hf
      have HB := Lib.hid hb
      clear hA2 hL hsn hup hF hf hb hpw hl
      generalize nodeL seed r (sib (spent / 2 ^ r)) = nd at *
      obtain ⟨a, hae⟩ : ∃ a, a = spent / 2 ^ r := ⟨_, rfl⟩
      rw [← hae] at hxr ha ha8 hj hc2 HUP
      rw [← hae]
      generalize sib a = j at *
      generalize 2 ^ (3 - r) = N at *
      have HAE := Lib.hid hae
      clear hae
      have hj0 : (j : Int) < (N : Int) := by omega
      go_wp2_with (at_builtin; refine wpList_append_to rfl (.tmp 70) (.tmp 75) rfl okB rfl HE.out rfl HRD.out (bvs_one _) (161 + 16 * (r + 1)) (by omega) (bvs (sgN seed spent text (r + 1))) HSN.out (by unfold maxLen; omega) (by omega) HB.out.size ?_; intro E2 e2 w4 f4 g4 _; have b4 := HB.out.grown g4 HB.out.size (fun q hq => (HE.out.row _ hq).1); have HF4 := Lib.hid f4; have HB4 := Lib.hid b4; clear f4 g4 b4)
      go_roundw
      case rel => exact ⟨r + 1, E2, e2, by omega, by simp, by rw [← HUP.out], rfl, HF4.out, HB4.out⟩
      case measure => simp [intOf]; omega
    · obtain rfl : r = 3 := by omega
      have hEl : 161 + 16 * 3 = 209 := by omega
      rw [hEl] at hf ⊢
      have hsL : sgN seed spent text 3 = sgL seed spent text := rfl
      rw [hsL] at hf
      have HE := Lib.hid hf
      have HB := Lib.hid hb
      have hB3 := below_to HB2.out hb HB2.out.size
      have HP2' := Lib.hid (HP2.out.low hb HP2.out.lt)
      have HP4' := Lib.hid (HP4.out.low hb HP4.out.lt)
      have HB3 := Lib.hid hB3
      have hcl := HCL.out wr.drew hB3.drew
      have HCLN := Lib.hid hcl
      clear hf hb hEl hsL hB3 hcl HP2 HP4
      have hsum : IntKind.i64.wrap ((spent : Int) + 1) = (spent : Int) + 1 := IntWalk.i64_in _ (by omega)
      have HL2 := Lib.hid HP2'.out.lt
      have HL4 := Lib.hid HP4'.out.lt
      go_wp2_with fail
      refine wp_region_held_drew (S := fun V => V.heap[b2]? = wr.heap[b2]?) (by kernel_rfl) rfl (fun hS => ?_)
      refine wpAnyH_take (i := 0) (v := ?_) rfl (by kernel_rfl) (by kernel_rfl) (by kernel_rfl) (fun _ _ _ h => h) (Or.inl ⟨by rfl, ?hyq⟩) hS ?_
      case hyq =>
        intro w hw
        go_simp
        try (with_reducible rfl)
      refine wpAnyH_take (i := 1) (v := ?_) rfl (by kernel_rfl) (by kernel_rfl) (by kernel_rfl) (fun _ _ _ h => h) (Or.inl ⟨by rfl, ?hyq⟩) hS ?_
      case hyq =>
        intro w hw
        have kx := Pair.c0 (hw.trans HP2'.out)
        go_simp
        try (with_reducible rfl)
      refine wpAnyH_take (i := 3) (v := ?_) rfl (by kernel_rfl) (by kernel_rfl) (by kernel_rfl) (fun _ _ _ h => h) (Or.inl ⟨by rfl, ?hyq⟩) hS ?_
      case hyq =>
        intro w hw
        go_simp
        try (with_reducible rfl)
      refine wpAnyH_take (i := 4) (v := ?_) rfl (by kernel_rfl) (by kernel_rfl) (by kernel_rfl) (fun _ _ _ h => h) (Or.inl ⟨by rfl, ?hyq⟩) hS ?_
      case hyq =>
        intro w hw
        have kx := Pair.c1 (hw.trans HP2'.out)
        go_simp
        try (with_reducible rfl)
      refine wpAnyH_take (i := 5) (v := ?_) rfl (by kernel_rfl) (by kernel_rfl) (by kernel_rfl) (fun _ _ _ h => h) (Or.inl ⟨by rfl, ?hyq⟩) hS ?_
      case hyq =>
        intro w hw
        go_simp
        try (with_reducible rfl)
      refine wpAnyH_take (i := 7) (v := ?_) rfl (by kernel_rfl) (by kernel_rfl) (by kernel_rfl) (fun _ _ _ h => h) (Or.inl ⟨by rfl, ?hyq⟩) hS ?_
      case hyq =>
        intro w hw
        go_simp
        try (with_reducible rfl)
      refine wpAnyH_ready (rs := [2]) (by kernel_rfl) (by simp) ?_
      refine all_consH rfl (fun K hK => ?_) ?_
      · skip
        refine Stp.mk ?_
        go_simp
        go_wp2_with fail
        refine HCLN.out.mono ?_
        rintro e' w5 ⟨D5, d5, rfl, f5, b5⟩
        have hSn : w5.heap[b2]? = wr.heap[b2]? := b5.block b2 HL2.out
        have HP5 := Lib.hid (Pair.low (w := wr.drew) HP4'.out b5 HL4.out)
        have HF5 := Lib.hid f5
        have HB5 := Lib.hid b5
        clear f5 b5
        go_wp2
        refine hK.out _ _ hSn (fun hS => ?_)
        clear hK K hSn
        refine wpAnyH_take (i := 6) (v := ?_) rfl (by kernel_rfl) (by kernel_rfl) (by kernel_rfl) (fun _ _ _ h => h) (Or.inl ⟨by rfl, ?hyq⟩) hS ?_
        case hyq =>
          intro w hw
          go_simp
          try (with_reducible rfl)
        refine wpAnyH_ready (rs := [8]) (by kernel_rfl) (by simp) ?_
        refine all_consH rfl (fun K hK => ?_) ?_
        · skip
          refine Stp.mk ?_
          have c0 := HP5.out.c0
          have c1 := HP5.out.c1
          have f0 := HP5.out.f (i := 0)
          have f1 := HP5.out.f (i := 1)
          have hSn : ((w5.setCell ⟨b2 + 1, 0, none⟩ (.slice D5 16 d5)).setCell ⟨b2 + 1, 1, none⟩ (.int .i64 ((spent : Int) + 1))).heap[b2]? = wr.heap[b2]? := (Below.heap_setCell _ _ _ _ (by show b2 ≠ b2 + 1; omega)).trans ((Below.heap_setCell _ _ _ _ (by show b2 ≠ b2 + 1; omega)).trans hS)
          go_simp
          clear c0 c1 f0 f1
          refine hK.out _ _ hSn (fun hS => ?_)
          clear hK K hSn
          refine wpAnyH_ready (rs := [9]) (by kernel_rfl) (by simp) ?_
          refine all_consH rfl (fun K hK => ?_) ?_
          · skip
            refine Stp.mk ?_
            go_simp
            have hSn := hS
            refine hK.out _ _ hSn (fun hS => ?_)
            clear hK K hSn
            refine wpAnyH_ready (rs := [10]) (by kernel_rfl) (by simp) ?_
            refine all_consH rfl (fun K hK => ?_) ?_
            · skip
              refine Stp.mk ?_
              go_simp
              have hSn := hS
              refine hK.out _ _ hSn (fun hS => ?_)
              clear hK K hSn
              refine wpAnyH_done (by kernel_rfl) ?_ _
              have hP := HP5.out.put (.slice D5 16 d5) (.int .i64 ((spent : Int) + 1))
              have c0 := hP.c0
              have c1 := hP.c1
              go_wp2
              have hb2w := HW2.out
              have hB5 := below_to HB3.out.drew HB5.out HB3.out.size
              have hE5 := HE.out.below (w' := w5) (H := wr.drew.heap.size) ⟨HB5.out.os, HB5.out.tape, HB5.out.output, HB5.out.size, HB5.out.block⟩ (Nat.le_refl _)
              exact bodyPost_ret (v := .tuple #[.agg #[.slice D5 16 d5, .int .i64 ((spent : Int) + 1)], .slice E 209 e, .int .i64 0]) (by simp [results, Try.results33, go_sem, c0, c1]) rfl
                ⟨_, _, _, _, rfl, fr_pair (HF5.out.mono HB3.out.size) HP5.out _ _, fr_pair (hE5.mono (HB2.out.size)) HP5.out _ _, (hB5.setCell (p := ⟨b2 + 1, 0, none⟩) (by show _ ≤ b2 + 1; omega) _).setCell (p := ⟨b2 + 1, 1, none⟩) (by show _ ≤ b2 + 1; omega) _⟩
            exact AllReadyH.nil
          exact AllReadyH.nil
        exact AllReadyH.nil
      exact AllReadyH.nil
end Go.Proofs.Ytoggpnncmgcgoaa
