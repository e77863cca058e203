/-
  Contract of sign.tree.
-/
import Derived.Test.YtoggpnncmgcgoaaSignD
namespace Go.Proofs.Ytoggpnncmgcgoaa
open Go.RowKit Go.Shelf
set_option linter.unusedVariables false
set_option linter.unusedSimpArgs false
set_option maxRecDepth 100000
attribute [local go_sem] Oper.semAt_some

/-- A level of a seed's tree. -/
def pubsL (seed : List UInt8) (k : Nat) : List (List UInt8) := (List.range k).map (pubL seed)
theorem pubsL_succ (seed : List UInt8) (k : Nat) : pubsL seed (k + 1) = pubsL seed k ++ [pubL seed k] := by simp [pubsL, List.range_succ]
def lvL (seed : List UInt8) (h : Nat) : List (List UInt8) := (List.range (2 ^ (3 - h))).map (nodeL seed h)
theorem lvL_len (seed : List UInt8) (h : Nat) : (lvL seed h).length = 2 ^ (3 - h) := by simp [lvL]
theorem lvL_zero (seed : List UInt8) : lvL seed 0 = pubsL seed 8 := rfl
theorem lvL_at (seed : List UInt8) (h p : Nat) (hp : p < 2 ^ (3 - h)) : (lvL seed h).getD p [] = nodeL seed h p := by
  rw [lvL, List.getD_eq_getElem?_getD, List.getElem?_map, List.getElem?_range hp]
  rfl
def allL (seed : List UInt8) (h : Nat) : List (List (List UInt8)) := (List.range (h + 1)).map (lvL seed)
theorem allL_len (seed : List UInt8) (h : Nat) : (allL seed h).length = h + 1 := by simp [allL]
theorem allL_succ (seed : List UInt8) (h : Nat) : allL seed (h + 1) = allL seed h ++ [lvL seed (h + 1)] := by simp [allL, List.range_succ]
/-- What the pairs make. -/
def upTo (h : Nat) (L : List (List UInt8)) {m : Nat} (pre : List (Fin m)) : List (List UInt8) := pre.map fun i => aboveL h (L.getD (2 * i.val) []) (L.getD (2 * i.val + 1) [])
theorem upTo_snoc (h : Nat) (L : List (List UInt8)) {m : Nat} (pre : List (Fin m)) (i : Fin m) : upTo h L (pre ++ [i]) = upTo h L pre ++ [aboveL h (L.getD (2 * i.val) []) (L.getD (2 * i.val + 1) [])] := by simp [upTo]
theorem upTo_len (h : Nat) (L : List (List UInt8)) {m : Nat} (pre : List (Fin m)) : (upTo h L pre).length = pre.length := by simp [upTo]
theorem upTo_fst (h : Nat) (L : List (List UInt8)) (m r : Nat) (hr : r ≤ m) : upTo h L (fst m r) = (List.range r).map fun i => aboveL h (L.getD (2 * i) []) (L.getD (2 * i + 1) []) := by
  induction r with
  | zero => rfl
  | succ r ih => rw [fst_succ m r hr, upTo_snoc, ih (by omega), List.range_succ, List.map_append]; rfl
theorem two_pow {h : Nat} (hh : h < 3) : 2 ^ (3 - h) = 2 * 2 ^ (2 - h) := by
  rcases h with _ | _ | _ | h
  · rfl
  · rfl
  · rfl
  · omega
theorem upTo_lv (seed : List UInt8) (h : Nat) (hh : h < 3) : upTo h (lvL seed h) (fst (2 ^ (2 - h)) (2 ^ (2 - h))) = lvL seed (h + 1) := by
  have h2 := two_pow hh
  rw [upTo_fst _ _ _ _ (Nat.le_refl _)]
  show _ = (List.range (2 ^ (3 - (h + 1)))).map (nodeL seed (h + 1))
  rw [show 3 - (h + 1) = 2 - h by omega]
  refine List.map_congr_left fun i hi => ?_
  have hi' := List.mem_range.1 hi
  rw [lvL_at seed h (2 * i) (by omega), lvL_at seed h (2 * i + 1) (by omega)]
  rfl
def PubRel (seed : List UInt8) (w : World) (v i : Value) (wr : World) : Prop :=
  ∃ (k : Nat) (A : Option Addr) (c : Nat), k ≤ 8 ∧ i = .int .i64 (k : Int) ∧ v = .slice A k c ∧ Lvl wr w.heap.size w.heap.size A k c (pubsL seed k) ∧ Below w.heap.size w wr
theorem El.of {w : World} {base d : Nat} {D : Option Addr} {l : List UInt8} (hl : l.length = 16) (h : Fr w base 5 1 D 16 d (bvs l)) : El w base (.slice D 16 d) l := ⟨D, d, rfl, hl, h⟩
theorem sls_one (v : Value) (h : ∃ D n d, v = .slice D n d) : ∀ u ∈ [v], u.oneCell' = true := by
  obtain ⟨D, n, d, rfl⟩ := h
  exact ones1 rfl
/-- What the loop over the levels keeps. -/
def TreeL (seed : List UInt8) (S0 : Value) (w : World) (a : Act) (wr : World) : Prop :=
  ∃ (h : Nat) (A : Option Addr) (c : Nat) (B : Option Addr) (b bh : Nat) (ds : List Nat) (u1 u2 u3 u5 u6 u7 u10 u11 u12 u13 u14 u15 u16 u17 u18 u19 u20 u21 u22 u23 u24 u25 u26 u27 u28 u29 u30 u31 u32 u33 u34 u35 u36 u37 u38 u39 u40 u41 u42 u43 u44 u45 u46 u47 u48 u49 u50 u51 u52 u53 u54 u55 u56 : Value), h ≤ 3 ∧
    a = { tmps := #[S0, u1, u2, u3, .slice A (2 ^ (3 - h)) c, u5, u6, u7, .slice B (h + 1) b, .pointer (some ⟨bh, 0, none⟩), u10, u11, u12, u13, u14, u15, u16, u17, u18, u19, u20, u21, u22, u23, u24, u25, u26, u27, u28, u29, u30, u31, u32, u33, u34, u35, u36, u37, u38, u39, u40, u41, u42, u43, u44, u45, u46, u47, u48, u49, u50, u51, u52, u53, u54, u55, u56], defers := ds.map mk_ } ∧
    Boxed wr bh 3 (.int .i64 (h : Int)) ∧ w.heap.size ≤ bh ∧ Lvl wr w.heap.size w.heap.size A (2 ^ (3 - h)) c (lvL seed h) ∧ AllR wr w.heap.size wr.heap.size B b (allL seed h) ∧ Marks w.heap.size ds wr ∧ Below w.heap.size w wr
theorem Lvl.drew_ {w : World} {rb eb n c : Nat} {A : Option Addr} {L : List (List UInt8)} (h : Lvl w rb eb A n c L) : Lvl w.drew rb eb A n c L := h.kind (row := none) ⟨rfl, rfl, rfl, Nat.le_refl _, fun _ _ _ => rfl⟩ (kind_none _ _)
theorem AllR.drew_ {w : World} {base hi b : Nat} {B : Option Addr} {LL : List (List (List UInt8))} (h : AllR w base hi B b LL) : AllR w.drew base hi B b LL := h.kind (row := none) ⟨rfl, rfl, rfl, Nat.le_refl _, fun _ _ _ => rfl⟩ (kind_none _ _)
theorem AllR.kept2 {w w' : World} {base hi b : Nat} {B : Option Addr} {LL : List (List (List UInt8))} {row : Option Nat} (h : AllR w base hi B b LL) (hg : w.grownBy w' row) (h0 : rowOf B b = none ∨ rowOf B b ≠ row) (hr : Kind w row [5, 22]) : AllR w' base hi B b LL := by
  obtain ⟨vs, hf, he⟩ := h
  refine ⟨vs, hf.kept hg h0, fun j L hj => ?_⟩
  obtain ⟨A, c, hv, hL, hlo⟩ := he j L hj
  exact ⟨A, c, hv, hL.kind hg hr, hlo⟩
theorem AllR.row {w : World} {base hi b : Nat} {B : Option Addr} {LL : List (List (List UInt8))} (h : AllR w base hi B b LL) : ∀ q, rowOf B b = some q → q < w.heap.size := by
  obtain ⟨vs, hf, he⟩ := h
  exact fun q e => (hf.row q e).2
def treeM (a : Act) (_ : World) : Nat := lenOf (a.tmps.getD 4 undef)
/-- What the loop over a level's pairs keeps. -/
def TreeI (hi h c g : Nat) (B : Option Addr) (b bh bn bs m : Nat) (L : List (List UInt8)) (LL : List (List (List UInt8))) (ds : List Nat) (w : World) (pre : List (Fin m)) (W : World) : Prop :=
  ∃ A' c', Boxed W bn 56 (.slice A' pre.length c') ∧ Lvl W hi w.heap.size A' pre.length c' (upTo h L pre) ∧ Boxed W bh 3 (.int .i64 (h : Int)) ∧ Lvl W w.heap.size w.heap.size (some ⟨g, 0, none⟩) (2 * m) c L ∧ AllR W w.heap.size hi B b LL ∧ Marks w.heap.size ds W ∧
    W.heap[bs]? = some (.cells #[.slice (some ⟨g, 0, none⟩) (2 * m) c] 56 (0, 0)) ∧ W.heap[bs + 1]? = some (.cells #[.int .i64 ((2 : Nat) : Int)] 3 (0, 0)) ∧ Below w.heap.size w W ∧ hi ≤ W.heap.size
theorem treeI_own (hi h c g : Nat) (B : Option Addr) (b bh bn bs m : Nat) (L : List (List UInt8)) (LL : List (List (List UInt8))) (ds : List Nat) (w : World) (Z : Nat) (hZ : w.heap.size ≤ Z) (hds : ∀ D ∈ ds, D < Z) : OwnFrom Z (TreeI hi h c g B b bh bn bs m L LL ds w) := by
  rintro pre W W' row ⟨A', c', h1, h2, h3, h4, h5, h6, h7, h8, h9, h10⟩ hg hr
  have hr' : ∀ r, row = some r → ∃ o : Obj, W.heap[r]? = some o ∧ o.isCells = false := fun r e => (hr r e).2
  exact ⟨A', c', block_own h1 hg hr', h2.own hg hr', block_own h3 hg hr', h4.own hg hr', h5.own hg hr', ⟨h6.1, fun D hD => ⟨(h6.2 D hD).1, (hg.block D (Array.getElem?_eq_some_iff.1 (h6.2 D hD).2).1 (fun e => by have := (hr D e.symm).1; have := hds D hD; omega)).trans (h6.2 D hD).2⟩⟩,
    block_own h7 hg hr', block_own h8 hg hr', h9.grown hg h9.size (fun k e => Nat.le_trans hZ (hr k e).1), Nat.le_trans h10 hg.size⟩
theorem marks_of_keeps {base : Nat} {ds : List Nat} {w w' : World} (h : Marks base ds w) (hb : Below w.heap.size w w') : Marks base ds w' := h.keeps (keeps_of_below hb)
set_option maxHeartbeats 8000000 in
theorem x_tree (S : Option Addr) (sc : Nat) (seed : List UInt8) (w : World) (hs : seed.length = 16) (hr : Rd w w.heap.size 1 S 16 (bvs seed)) :
    Calls Try.prog 58 #[.slice S 16 sc] w fun e w' => ∃ B b, e = .returned (.tuple #[.slice B 4 b, .int .i64 0]) ∧ AllR w' w.heap.size w'.heap.size B b (allL seed 3) ∧ Below w.heap.size w w' := by
  have hpub := fun k (hk : k < 8) W (h : Below w.heap.size w W) => c_public S sc seed k W hs ((hr.below h).more h.size) hk
  have HPUB := Lib.hid hpub
  clear hpub hr
  refine (callsIn_wide (n := 9)).1 ?_
  refine callsIn_of_wp_marks Try.func58 rfl trivial ?_ rfl
  refine wpIn_wide.2 ?_
  simp only [Try.ntmps58, List.size_toArray, List.length_cons, List.length_nil, Nat.reduceAdd, Nat.reduceSub, Array.replicate_succ, Array.replicate_zero, List.push_toArray, List.append_toArray, List.nil_append, List.cons_append]
  go_wp2
  go_loopw [4, 12] (fun v i wr => PubRel seed w v i wr) (fun _ i _ => 8 - (intOf i).toNat)
  case atStart => exact ⟨0, none, 0, by omega, rfl, rfl, Lvl.nil_, Below.refl _ _⟩
  case round =>
    obtain ⟨k, A, c, hk, rfl, rfl, hL, hb⟩ := hrel
    have HB := Lib.hid hb
    by_cases hlt : k < 8
    · have hp := HPUB.out k hlt wr HB.out
      have hpl := pubL_len seed k
      have hsn := pubsL_succ seed k
      have HP := Lib.hid hp
      have HPL := Lib.hid hpl
      have HSN := Lib.hid hsn
      have HL := Lib.hid hL
      clear hp hpl hsn hL hb
      generalize pubL seed k = p at *
      go_wp2_with fail
      refine HP.out.mono ?_
      rintro e w1 ⟨D, d, rfl, f1, b1⟩
      obtain ⟨vs, hl, hf, he⟩ := HL.out.below b1
      have HE := Lib.hid (El.of HPL.out (f1.mono (base' := w.heap.size) HB.out.size))
      have HF := Lib.hid (hf.alloc (.cells #[.slice D 16 d] 22))
      have HFO := Lib.hid hf
      have HVE := Lib.hid he
      have HLL := Lib.hid hl
      have HR := Lib.hid (Rd.made w1 22 1 1 [.slice D 16 d] rfl)
      have HB1 := Lib.hid (below_to HB.out b1 HB.out.size)
      clear f1 b1 hl hf he HL HP
      go_wp2_with (at_builtin; refine wpList_append_to rfl (.tmp 24) (.tmp 26) rfl okBB rfl HF.out rfl HR.out (ones1 rfl) (k + 1) rfl (vs ++ [.slice D 16 d]) rfl (by unfold maxLen; omega) (by omega) (by rw [World.size_alloc]; have := HB1.out.size; omega) ?_; intro D2 d2 w2 f2 g2 _; have HF2 := Lib.hid f2; have HG2 := Lib.hid g2; clear f2 g2)
      have hL2 := Lvl.snoc HLL.out HF.out (fun j l hj => by obtain ⟨v, hv, hE⟩ := HVE.out j l hj; exact ⟨v, hv, hE.kept (World.grownBy_alloc w1 _ none) (kind_none _ _)⟩) (HE.out.kept (World.grownBy_alloc w1 (.cells #[.slice D 16 d] 22) none) (kind_none _ _)) HG2.out HF2.out
      rw [← HSN.out] at hL2
      have hB2 := (below_alloc HB1.out (.cells #[.slice D 16 d] 22) (Nat.le_refl _)).grown HG2.out (by rw [World.size_alloc]; have := HB1.out.size; omega) (fun g hg => (HF.out.row _ hg).1)
      clear HF HFO HVE HE HR HF2 HG2 HB1
      go_wp2
      go_roundw
      case rel => exact ⟨k + 1, D2, d2, by omega, by simp, rfl, hL2, hB2⟩
      case measure => simp [intOf]; omega
    · obtain rfl : k = 8 := by omega
      rw [← lvL_zero] at hL
      have hb0 := HB.out
      clear hb
      go_wp2_with fail
      have hL1 := (hL.alloc (.cells #[.slice A 8 c] 56)).alloc (.cells #[.int .i64 0] 3)
      have hX := Boxed.new (wr.alloc (.cells #[.slice A 8 c] 56)) 3 (.int .i64 0)
      rw [World.size_alloc] at hX
      have hA : AllR ((wr.alloc (.cells #[.slice A 8 c] 56)).alloc (.cells #[.int .i64 0] 3)) w.heap.size ((wr.alloc (.cells #[.slice A 8 c] 56)).alloc (.cells #[.int .i64 0] 3)).heap.size (some ⟨wr.heap.size, 0, none⟩) 1 (allL seed 0) := by
        have hf : Fr (wr.alloc (.cells [Value.slice A 8 c].toArray 56)) w.heap.size 56 1 (some ⟨wr.heap.size, 0, none⟩) 1 1 [.slice A 8 c] := Fr.made wr _ 1 1 hb0.size (by unfold maxLen; omega) (Nat.le_refl _) (by simp) (by simp) (by simp)
        refine ⟨[.slice A 8 c], hf.alloc _, fun j L' hj => ?_⟩
        have hj0 : j = 0 := by
          have := (List.getElem?_eq_some_iff.1 hj).1
          rw [allL_len] at this
          omega
        subst hj0
        have hLe : L' = lvL seed 0 := by
          have h1 : (allL seed 0)[0]? = some (lvL seed 0) := rfl
          rw [h1] at hj
          exact (Option.some.inj hj).symm
        subst hLe
        obtain ⟨vs, hl, hf2, he⟩ := hL1
        refine ⟨A, c, by rw [hl]; rfl, by rw [hl]; exact ⟨vs, hl, hf2, he⟩, fun g e => (hf2.row g e).2⟩
      have hB := below_alloc (below_alloc hb0 (.cells #[.slice A 8 c] 56) (Nat.le_refl _)) (.cells #[.int .i64 0] 3) (Nat.le_refl _)
      have hbh : w.heap.size ≤ wr.heap.size + 1 := by have := hb0.size; omega
      refine wp_loop (TreeL seed (.slice S 16 sc) w) treeM ?_ ?_
      · exact ⟨0, A, c, _, _, _, [], _, _, _, _, _, _, _, _, _, _, _, _, _, _, _, _, _, _, _, _, _, _, _, _, _, _, _, _, _, _, _, _, _, _, _, _, _, _, _, _, _, _, _, _, _, _, _, _, _, _, _, _, _, by omega, rfl, hX, hbh, hL1, hA, Marks.nil_ _ _, hB⟩
      · clear hL1 hX hA hB hbh hL hb0 HB
        rintro a wr2 ⟨h, A, c, B, b, bh, ds, u1, u2, u3, u5, u6, u7, u10, u11, u12, u13, u14, u15, u16, u17, u18, u19, u20, u21, u22, u23, u24, u25, u26, u27, u28, u29, u30, u31, u32, u33, u34, u35, u36, u37, u38, u39, u40, u41, u42, u43, u44, u45, u46, u47, u48, u49, u50, u51, u52, u53, u54, u55, u56, hh, rfl, hX, hbh, hL, hA, hM, hB⟩
        by_cases hlt3 : h < 3
        · have hup := upTo_lv seed h hlt3
          have hlv := lvL_len seed h
          have hpw := two_pow hlt3
          obtain ⟨m, hm⟩ : ∃ m, m = 2 ^ (2 - h) := ⟨_, rfl⟩
          have hm1 : 1 ≤ m := by rw [hm]; exact Nat.pow_pos (by omega)
          have hm4 : m ≤ 4 := by
            rw [hm]
            rcases h with _ | _ | _ | h
            · decide
            · decide
            · decide
            · omega
          have hnx : 2 ^ (3 - (h + 1)) = m := by rw [hm, show 3 - (h + 1) = 2 - h by omega]
          rw [← hm] at hup hpw
          have hall := allL_succ seed h
          have hal := allL_len seed h
          rw [hpw] at hL hlv ⊢
          obtain ⟨L, hLe⟩ : ∃ L, L = lvL seed h := ⟨_, rfl⟩
          obtain ⟨LL, hLLe⟩ : ∃ L, L = allL seed h := ⟨_, rfl⟩
          rw [← hLe] at hL hlv hup
          rw [← hLLe] at hA hall hal
          obtain ⟨g, D0, d0, rfl, hg1, hg2, -⟩ := hL.at_ (j := 0) (by omega)
          have hcN : 2 * m ≤ c := by obtain ⟨_, _, hf, _⟩ := hL; exact hf.nc
          have hBrow := hA.row
          have HUP := Lib.hid hup
          have HLV := Lib.hid hlv
          have HM := Lib.hid hm
          have HNX := Lib.hid hnx
          have HALL := Lib.hid hall
          have HAL := Lib.hid hal
          have HCN := Lib.hid hcN
          have HPW := Lib.hid hpw
          have HX := Lib.hid hX
          have HL := Lib.hid hL
          have HA := Lib.hid hA
          have HMK := Lib.hid hM
          have HB2 := Lib.hid hB
          have HXL := Lib.hid hX.lt
          clear hup hlv hm hnx hall hal hcN hpw hX hL hA hM hB hLe hLLe
          have hgt : (1 : Int) < ((2 * m : Nat) : Int) := by omega
          have hBn := Boxed.new wr2 56 (.slice none 0 0)
          have hbn := below_new wr2 (.cells #[.slice none 0 0] 56)
          obtain ⟨bn, hbne⟩ : ∃ b, b = wr2.heap.size := ⟨_, rfl⟩
          rw [← hbne] at hBrow
          have HBR := Lib.hid hBrow
          clear hBrow
          obtain ⟨wn, hwn⟩ : ∃ W, W = wr2.alloc (.cells #[.slice none 0 0] 56) := ⟨_, rfl⟩
          have hzn : wn.heap.size = bn + 1 := by rw [hwn, World.size_alloc, hbne]
          rw [← hwn] at hBn hbn
          rw [← hbne] at hBn
          have HBN := Lib.hid hBn
          have HBLN := Lib.hid hbn
          have HBNE := Lib.hid hbne
          have HWN := Lib.hid hwn
          have HZN := Lib.hid hzn
          clear hBn hbn hbne hwn hzn
          generalize hN : 2 * m = N at *
          go_wp2_with fail
          simp only [← HBNE.out, ← HWN.out]
          refine ((callsIn_wide (n := 9)).1 (cv_in Fence.wide 9 trivial rfl _ _ _ 2 (by omega) _)).mono ?_
          rintro e w3 ⟨rfl, hw3⟩
          subst hN
          have hz3 : w3.heap.size = wn.heap.size + 2 := by rw [hw3, World.size_alloc, World.size_alloc]
          have hb3 : Below wn.heap.size wn w3 := by rw [hw3]; exact below_alloc (below_new wn _) _ (Nat.le_refl _)
          have hbs : w3.heap[wn.heap.size]? = some (.cells #[.slice (some ⟨g, 0, none⟩) (2 * m) c] 56 (0, 0)) := by
            rw [hw3, Below.heap_alloc _ _ _ (by rw [World.size_alloc]; omega)]
            exact heap_alloc_new wn _
          have hbk : w3.heap[wn.heap.size + 1]? = some (.cells #[.int .i64 ((2 : Nat) : Int)] 3 (0, 0)) := by
            have h := heap_alloc_new (wn.alloc (.cells #[.slice (some ⟨g, 0, none⟩) (2 * m) c] 56)) (.cells #[.int .i64 2] 3)
            rw [World.size_alloc] at h
            rw [hw3]
            exact h
          clear hw3
          have hbw : Below wr2.heap.size wr2 w3 := below_to HBLN.out hb3 HBLN.out.size
          have hX3 := Boxed.low HX.out hbw HXL.out
          have hN3 := Boxed.low HBN.out hb3 HBN.out.lt
          have hL3 := HL.out.below hbw
          have hA3 := (HA.out.below hbw).more (hi' := bn + 1) (by rw [HBNE.out]; omega)
          have hM3 := marks_of_keeps HMK.out hbw
          have hB3 := below_to HB2.out hbw HB2.out.size
          have hdl : ∀ D ∈ ds, D < w3.heap.size := fun D hD => (Array.getElem?_eq_some_iff.1 (hM3.2 D hD).2).1
          obtain ⟨bs, hbse⟩ : ∃ b, b = wn.heap.size := ⟨_, rfl⟩
          rw [← hbse] at hbs hbk hz3
          have hbs1 : bn + 1 ≤ bs := by have := HZN.out; omega
          have hbs2 : bs ≤ bn + 1 := by have := HZN.out; omega
          simp only [← hbse]
          have hA3 := hA3.more (hi' := bs + 2) (by omega)
          have hbhn : bh < bn := by rw [HBNE.out]; exact HXL.out
          have hgn : g < bn := by rw [HBNE.out]; exact hg2
          have hwbn : w.heap.size ≤ bn := by rw [HBNE.out]; exact HB2.out.size
          have HLIM := HCN.out
          have hlv2 := HLV.out
          clear HBN HBLN HB2 HMK HA HL HX HWN hb3 hbse HZN
          go_wp2_with fail
          refine (wpIn_wide (n := 9)).1 ?_
          refine wpIn_rangeFunc_ownF rfl (by omega) (gf := 94) (lb := #[.pointer (some ⟨bs, 0, none⟩), .pointer (some ⟨bs + 1, 0, none⟩)]) rfl trivial (enters_of Try.func94 (by kernel_rfl) rfl)
            (cv_stops Fence.wide _ trivial rfl (by omega) bs g 0 2 m c (by omega) (by omega) (by omega) HLIM w3 hbs hbk) (fun h k => h.trans k) (KpC.put (by omega) (by omega)) (Below.refl _ _) (fun _ => rfl)
            (TreeI (bs + 2) h c g B b bh bn bs m L LL ds w) (fun _ _ _ => False) (treeI_own (bs + 2) h c g B b bh bn bs m L LL ds w _ hB3.size hdl) (fun _ _ _ _ _ hs _ _ => hs) ?start ?a1 ?assign ?body ?done ?stop
          case start => exact ⟨none, 0, hN3, Lvl.nil_, hX3, hL3, hA3, hM3, hbs, hbk, hB3, by omega⟩
          case assign =>
            intro l x W K hK
            gi_wp2
            exact hK
          case body =>
            rintro l1 pre i W ⟨A', c', hN, hNL, hH, hL, hA, hM, hk1, hk2, hB, hsz⟩ hlt
            have him := i.2
            obtain ⟨g1, D1, d1, e1, -, -, hc1, hl1, hf1⟩ := hL.at_ (j := 2 * i.val) (by omega)
            obtain ⟨g2, D2, d2, e2, -, -, hc2, hl2, hf2⟩ := hL.at_ (j := 2 * i.val + 1) (by omega)
            cases e1
            cases e2
            have hsn := upTo_snoc h L pre i
            have hplen : (pre ++ [i]).length = pre.length + 1 := by rw [List.length_append, List.length_singleton]
            generalize L.getD (2 * i.val) [] = l1' at *
            generalize L.getD (2 * i.val + 1) [] = l2' at *
            obtain ⟨p, hp⟩ : ∃ p, p = 2 * i.val := ⟨_, rfl⟩
            rw [← hp] at hc1 hc2
            rw [← hp]
            have hab := x_above h (by omega) D1 d1 l1' D2 d2 l2' W.drew hl1 hl2 hf1.rd hf2.rd
            have hal := aboveL_len h l1' l2'
            generalize aboveL h l1' l2' = ab at *
            have hcN2 : p + 2 ≤ c := by omega
            obtain ⟨r, hr⟩ : ∃ r, r = pre.length := ⟨_, rfl⟩
            have hr9 : r ≤ 4 := by omega
            simp only [← hr] at hN hNL hplen
            have HR := Lib.hid hr
            have HAB := Lib.hid hab
            have HALN := Lib.hid hal
            have HSN := Lib.hid hsn
            have HPLEN := Lib.hid hplen
            have HN := Lib.hid hN
            have HNL := Lib.hid hNL
            have HH := Lib.hid hH
            have HL := Lib.hid hL
            have HA := Lib.hid hA
            have HMK := Lib.hid hM
            have HK1 := Lib.hid hk1
            have HK2 := Lib.hid hk2
            have HB := Lib.hid hB
            have HSZ := Lib.hid hsz
            have HC1 := Lib.hid hc1
            have HC2 := Lib.hid hc2
            have HHL := Lib.hid hH.lt
            have hgl : g < W.heap.size := by omega
            clear hab hal hsn hplen hN hNL hH hL hA hM hk1 hk2 hB hsz hc1 hc2 hl1 hl2 hf1 hf2 hr hp him hlt hX3 hN3 hL3 hA3 hM3 hB3 hbs hbk
            have hfo : Try.prog.follows .mixedOrders = true := by kernel_rfl
            gi_wp2
            refine regionIn_held (S := fun V => V.heap[bh]? = W.heap[bh]? ∧ V.heap[g]? = W.heap[g]?) hfo (fun _ _ h => h) (by kernel_rfl) ⟨rfl, rfl⟩ (fun hS => ?_)
            have HNX : Hid (Boxed W.drew bn 56 (.slice A' r c')) := HN
            refine wpAnyH_take (i := 1) (v := ?_) rfl (by kernel_rfl) (by kernel_rfl) (by kernel_rfl) (fun _ _ _ h => h) (Or.inl ⟨by rfl, ?hyq⟩) hS ?_
            case hyq =>
              intro w hw
              have kx := Boxed.cell (hw.1.trans HH.out)
              go_simp
              try (with_reducible rfl)
            refine wpAnyH_take (i := 2) (v := ?_) rfl (by kernel_rfl) (by kernel_rfl) (by kernel_rfl) (fun _ _ _ h => h) (Or.inl ⟨by rfl, ?hyq⟩) hS ?_
            case hyq =>
              intro w hw
              go_simp
              try (with_reducible rfl)
            refine wpAnyH_take (i := 3) (v := ?_) rfl (by kernel_rfl) (by kernel_rfl) (by kernel_rfl) (fun _ _ _ h => h) (Or.inl ⟨by rfl, ?hyq⟩) hS ?_
            case hyq =>
              intro w hw
              go_simp
              try (with_reducible rfl)
            refine wpAnyH_take (i := 4) (v := ?_) rfl (by kernel_rfl) (by kernel_rfl) (by kernel_rfl) (fun _ _ _ h => h) (Or.inl ⟨by rfl, ?hyq⟩) hS ?_
            case hyq =>
              intro w hw
              have ky := (World.cell?_of_block (a := ⟨g, p, none⟩) hw.2).trans HC1.out
              go_simp
              try (with_reducible rfl)
            refine wpAnyH_take (i := 5) (v := ?_) rfl (by kernel_rfl) (by kernel_rfl) (by kernel_rfl) (fun _ _ _ h => h) (Or.inl ⟨by rfl, ?hyq⟩) hS ?_
            case hyq =>
              intro w hw
              go_simp
              try (with_reducible rfl)
            refine wpAnyH_take (i := 6) (v := ?_) rfl (by kernel_rfl) (by kernel_rfl) (by kernel_rfl) (fun _ _ _ h => h) (Or.inl ⟨by rfl, ?hyq⟩) hS ?_
            case hyq =>
              intro w hw
              go_simp
              try (with_reducible rfl)
            refine wpAnyH_take (i := 7) (v := ?_) rfl (by kernel_rfl) (by kernel_rfl) (by kernel_rfl) (fun _ _ _ h => h) (Or.inl ⟨by rfl, ?hyq⟩) hS ?_
            case hyq =>
              intro w hw
              have ky := (World.cell?_of_block (a := ⟨g, p + 1, none⟩) hw.2).trans HC2.out
              go_simp
              try (with_reducible rfl)
            refine wpAnyH_ready (rs := [0, 8]) (by kernel_rfl) (by simp) ?_
            refine all_consH rfl (fun K hK => ?_) ?_
            · skip
              refine Stp.mk ?_
              have kx := HNX.out.cell
              go_simp
              clear kx
              have hSn := hS
              refine hK.out _ _ hSn (fun hS => ?_)
              clear hK K hSn
              refine wpAnyH_ready (rs := [8]) (by kernel_rfl) (by simp) ?_
              refine all_consH rfl (fun K hK => ?_) ?_
              · skip
                refine Stp.mk ?_
                go_simp
                go_wp2_with fail
                refine HAB.out.mono ?_
                rintro e w2 ⟨D3, d3, rfl, f3, b3⟩
                have hSn : w2.heap[bh]? = W.heap[bh]? ∧ w2.heap[g]? = W.heap[g]? := ⟨b3.block bh HHL.out, b3.block g hgl⟩
                replace HNX := Lib.hid (Boxed.low (W := W.drew) HN.out b3 HN.out.lt)
                have HF3 := Lib.hid f3
                have HB3 := Lib.hid b3
                clear f3 b3
                go_wp2
                refine hK.out _ _ hSn (fun hS => ?_)
                clear hK K hSn
                refine wpAnyH_ready (rs := [9]) (by kernel_rfl) (by simp) ?_
                refine all_consH rfl (fun K hK => ?_) ?_
                · skip
                  obtain ⟨bx, hbx⟩ : ∃ b, b = w2.heap.size := ⟨_, rfl⟩
                  obtain ⟨w3, hw3⟩ : ∃ V, V = w2.alloc (.cells #[.slice D3 16 d3] 22) := ⟨_, rfl⟩
                  refine stp_run (v := .slice (some ⟨bx, 0, none⟩) 1 1) (w' := w3) rfl (by rw [hbx, hw3]; go_simp) ?_
                  have hSn : w3.heap[bh]? = W.heap[bh]? ∧ w3.heap[g]? = W.heap[g]? := by
                    rw [hw3]
                    exact ⟨(Below.heap_alloc _ _ _ (Nat.lt_of_lt_of_le HHL.out HB3.out.size)).trans hS.1, (Below.heap_alloc _ _ _ (Nat.lt_of_lt_of_le hgl HB3.out.size)).trans hS.2⟩
                  have HR3 : Hid (Rd w3 (bx + 1) 1 (some ⟨bx, 0, none⟩) 1 [.slice D3 16 d3]) := Lib.hid (by rw [hbx, hw3]; exact Rd.made w2 22 1 1 [.slice D3 16 d3] rfl)
                  replace HNX : Hid (Boxed w3 bn 56 (.slice A' r c')) := Lib.hid (by rw [hw3]; exact HNX.out.alloc _)
                  have HW3 := Lib.hid hw3
                  clear hw3 hbx
                  refine hK.out _ _ hSn (fun hS => ?_)
                  clear hK K hSn
                  refine wpAnyH_ready (rs := [10]) (by kernel_rfl) (by simp) ?_
                  refine all_consH rfl (fun K hK => ?_) ?_
                  · skip
                    obtain ⟨vs, hvl, hvf, hve⟩ := (HNL.out.drew_.below HB3.out)
                    have hvf3 : Fr w3 (bs + 2) 22 1 A' r c' vs := by rw [HW3.out]; exact hvf.alloc _
                    have hz3 : W.heap.size ≤ w3.heap.size := by rw [HW3.out, World.size_alloc]; exact Nat.le_trans HB3.out.size (by omega)
                    have hsz := HSZ.out
                    refine stp_append_to rfl (.tmp 39) (.tmp 48) rfl okBB rfl hvf3 rfl HR3.out (ones1 rfl) (r + 1) rfl (vs ++ [.slice D3 16 d3]) rfl (by unfold maxLen; omega) (by omega) (Nat.le_trans hsz hz3) ?_
                    intro D4 d4 w4 HF4 HG4
                    have hrow : ∀ q, rowOf A' c' = some q → bs + 2 ≤ q := fun q e => (hvf3.row q e).1
                    have hSn : w4.heap[bh]? = W.heap[bh]? ∧ w4.heap[g]? = W.heap[g]? := ⟨(HG4.out.block bh (Nat.lt_of_lt_of_le HHL.out hz3) (fun e => by have := hrow _ e.symm; omega)).trans hS.1, (HG4.out.block g (Nat.lt_of_lt_of_le hgl hz3) (fun e => by have := hrow _ e.symm; omega)).trans hS.2⟩
                    replace HNX : Hid (Boxed w4 bn 56 (.slice A' r c')) := Lib.hid ((HG4.out.block bn HNX.out.lt (fun e => by have := hrow _ e.symm; omega)).trans HNX.out)
                    have HVL := Lib.hid hvl
                    have HVF := Lib.hid hvf3
                    have HVE := Lib.hid hve
                    clear hvl hvf hve hvf3 hz3 hsz
                    refine hK.out _ _ hSn (fun hS => ?_)
                    clear hK K hSn
                    refine wpAnyH_ready (rs := [11]) (by kernel_rfl) (by simp) ?_
                    refine all_consH rfl (fun K hK => ?_) ?_
                    · skip
                      refine Stp.mk ?_
                      have c9 := HNX.out.cell
                      have f9 := HNX.out.frozen
                      have hSn : (w4.setCell ⟨bn, 0, none⟩ (.slice D4 (r + 1) d4)).heap[bh]? = W.heap[bh]? ∧ (w4.setCell ⟨bn, 0, none⟩ (.slice D4 (r + 1) d4)).heap[g]? = W.heap[g]? := ⟨(Below.heap_setCell _ _ _ _ (by show bh ≠ bn; omega)).trans hS.1, (Below.heap_setCell _ _ _ _ (by show g ≠ bn; omega)).trans hS.2⟩
                      go_simp
                      clear c9 f9
                      refine hK.out _ _ hSn (fun hS => ?_)
                      clear hK K hSn
                      refine wpAnyH_done (by kernel_rfl) ?_ _
                      have hk8 := kind_fr HVF.out (ts := [5]) (by decide)
                      have hk86 := kind_fr HVF.out (ts := [5, 56]) (by decide)
                      have hkb : Kind w4 (some bn) [5, 22] := kind_box HNX.out (by decide)
                      have hz2 := HB3.out.size
                      have hsz := HSZ.out
                      have hwz : w.heap.size ≤ W.heap.size := HB.out.size
                      have hz23 : w2.heap.size ≤ w3.heap.size := by rw [HW3.out, World.size_alloc]; omega
                      have hz02 : W.heap.size ≤ w2.heap.size := hz2
                      have hz03 : W.heap.size ≤ w3.heap.size := Nat.le_trans hz02 hz23
                      have h3 : ∀ q, q < w2.heap.size → w3.heap[q]? = w2.heap[q]? := fun q hq => by rw [HW3.out]; exact Below.heap_alloc _ _ _ hq
                      have hsame : ∀ q, q < bs + 2 → q ≠ bn → (w4.setCell ⟨bn, 0, none⟩ (.slice D4 (r + 1) d4)).heap[q]? = W.heap[q]? := fun q hq hne =>
                        (Below.heap_setCell _ _ _ _ hne).trans ((HG4.out.block q (by omega) (fun e => by have := hrow _ e.symm; omega)).trans ((h3 q (by omega)).trans (HB3.out.block q (by show q < W.heap.size; omega))))
                      have hgA : w2.grownBy w3 none := by rw [HW3.out]; exact World.grownBy_alloc w2 _ none
                      have hgS := grown_setCell w4 bn (.slice D4 (r + 1) d4)
                      have hgB := grown_of_below HB3.out
                      have hkeep : KeepsOthers W (w4.setCell ⟨bn, 0, none⟩ (.slice D4 (r + 1) d4)) := ((((KeepsOthers.drew W).trans (keeps_of_below HB3.out)).trans (by rw [HW3.out]; exact KeepsOthers.alloc _ _)).trans (HVF.out.keeps HG4.out)).trans (KeepsOthers.setCell _ _ _)
                      have hEl : El w3 w.heap.size (.slice D3 16 d3) ab := (El.of HALN.out (HF3.out.mono (Nat.le_trans hwz (Nat.le_refl _)))).kept hgA (kind_none _ _)
                      have hLn := Lvl.snoc HVL.out HVF.out (fun j l hj => by obtain ⟨v, hv, hE⟩ := HVE.out j l hj; exact ⟨v, hv, hE.kept hgA (kind_none _ _)⟩) hEl HG4.out HF4.out
                      have hLnf := hLn.kind hgS hkb
                      have hgr : rowOf (some ⟨g, 0, none⟩) c = none ∨ rowOf (some ⟨g, 0, none⟩) c ≠ rowOf A' c' := .inr fun e => by
                        rw [rowOf_some g 0 c (by omega)] at e
                        have := hrow _ e.symm
                        omega
                      have hLg := ((((HL.out.drew_.kind hgB (kind_none _ _)).kind hgA (kind_none _ _)).kept HG4.out hgr hk8).kind hgS hkb)
                      have hAf := ((((HA.out.drew_.kind hgB (kind_none _ _)).kind hgA (kind_none _ _)).kept HG4.out hrow hk86).kept2 hgS (.inr fun e => by have := HBR.out _ e; omega) hkb)
                      have hbel : Below w.heap.size w (w4.setCell ⟨bn, 0, none⟩ (.slice D4 (r + 1) d4)) := by
                        have h1 : Below w.heap.size w w3 := by rw [HW3.out]; exact below_alloc (below_to (HB.out.drew) HB3.out HB.out.size) _ (Nat.le_refl _)
                        exact (h1.grown HG4.out h1.size (fun q e => by have := hrow _ e; omega)).setCell (p := ⟨bn, 0, none⟩) (by show _ ≤ bn; omega) _
                      gi_wp2
                      refine ⟨hkeep, ⟨hsame g (by omega) (by omega), hsame bs (by omega) (by omega), hsame (bs + 1) (by omega) (by omega)⟩, D4, d4, ?_, ?_, hS.1.trans HH.out, hLg, hAf, HMK.out.keeps hkeep, (hsame bs (by omega) (by omega)).trans HK1.out, (hsame (bs + 1) (by omega) (by omega)).trans HK2.out, hbel, ?_⟩
                      · rw [HPLEN.out]
                        exact HNX.out.set _
                      · rw [HSN.out, HPLEN.out]
                        exact hLnf
                      · exact Nat.le_trans hsz hkeep.size
                    exact AllReadyH.nil
                  exact AllReadyH.nil
                exact AllReadyH.nil
              exact AllReadyH.nil
            refine all_consH rfl (fun K hK => ?_) ?_
            · skip
              refine Stp.mk ?_
              go_simp
              go_wp2_with fail
              refine HAB.out.mono ?_
              rintro e w2 ⟨D3, d3, rfl, f3, b3⟩
              have hSn : w2.heap[bh]? = W.heap[bh]? ∧ w2.heap[g]? = W.heap[g]? := ⟨b3.block bh HHL.out, b3.block g hgl⟩
              replace HNX := Lib.hid (Boxed.low (W := W.drew) HN.out b3 HN.out.lt)
              have HF3 := Lib.hid f3
              have HB3 := Lib.hid b3
              clear f3 b3
              go_wp2
              refine hK.out _ _ hSn (fun hS => ?_)
              clear hK K hSn
              refine wpAnyH_ready (rs := [0, 9]) (by kernel_rfl) (by simp) ?_
              refine all_consH rfl (fun K hK => ?_) ?_
              · skip
                refine Stp.mk ?_
                have kx := HNX.out.cell
                go_simp
                clear kx
                have hSn := hS
                refine hK.out _ _ hSn (fun hS => ?_)
                clear hK K hSn
                refine wpAnyH_ready (rs := [9]) (by kernel_rfl) (by simp) ?_
                refine all_consH rfl (fun K hK => ?_) ?_
                · skip
                  obtain ⟨bx, hbx⟩ : ∃ b, b = w2.heap.size := ⟨_, rfl⟩
                  obtain ⟨w3, hw3⟩ : ∃ V, V = w2.alloc (.cells #[.slice D3 16 d3] 22) := ⟨_, rfl⟩
                  refine stp_run (v := .slice (some ⟨bx, 0, none⟩) 1 1) (w' := w3) rfl (by rw [hbx, hw3]; go_simp) ?_
                  have hSn : w3.heap[bh]? = W.heap[bh]? ∧ w3.heap[g]? = W.heap[g]? := by
                    rw [hw3]
                    exact ⟨(Below.heap_alloc _ _ _ (Nat.lt_of_lt_of_le HHL.out HB3.out.size)).trans hS.1, (Below.heap_alloc _ _ _ (Nat.lt_of_lt_of_le hgl HB3.out.size)).trans hS.2⟩
                  have HR3 : Hid (Rd w3 (bx + 1) 1 (some ⟨bx, 0, none⟩) 1 [.slice D3 16 d3]) := Lib.hid (by rw [hbx, hw3]; exact Rd.made w2 22 1 1 [.slice D3 16 d3] rfl)
                  replace HNX : Hid (Boxed w3 bn 56 (.slice A' r c')) := Lib.hid (by rw [hw3]; exact HNX.out.alloc _)
                  have HW3 := Lib.hid hw3
                  clear hw3 hbx
                  refine hK.out _ _ hSn (fun hS => ?_)
                  clear hK K hSn
                  refine wpAnyH_ready (rs := [10]) (by kernel_rfl) (by simp) ?_
                  refine all_consH rfl (fun K hK => ?_) ?_
                  · skip
                    obtain ⟨vs, hvl, hvf, hve⟩ := (HNL.out.drew_.below HB3.out)
                    have hvf3 : Fr w3 (bs + 2) 22 1 A' r c' vs := by rw [HW3.out]; exact hvf.alloc _
                    have hz3 : W.heap.size ≤ w3.heap.size := by rw [HW3.out, World.size_alloc]; exact Nat.le_trans HB3.out.size (by omega)
                    have hsz := HSZ.out
                    refine stp_append_to rfl (.tmp 39) (.tmp 48) rfl okBB rfl hvf3 rfl HR3.out (ones1 rfl) (r + 1) rfl (vs ++ [.slice D3 16 d3]) rfl (by unfold maxLen; omega) (by omega) (Nat.le_trans hsz hz3) ?_
                    intro D4 d4 w4 HF4 HG4
                    have hrow : ∀ q, rowOf A' c' = some q → bs + 2 ≤ q := fun q e => (hvf3.row q e).1
                    have hSn : w4.heap[bh]? = W.heap[bh]? ∧ w4.heap[g]? = W.heap[g]? := ⟨(HG4.out.block bh (Nat.lt_of_lt_of_le HHL.out hz3) (fun e => by have := hrow _ e.symm; omega)).trans hS.1, (HG4.out.block g (Nat.lt_of_lt_of_le hgl hz3) (fun e => by have := hrow _ e.symm; omega)).trans hS.2⟩
                    replace HNX : Hid (Boxed w4 bn 56 (.slice A' r c')) := Lib.hid ((HG4.out.block bn HNX.out.lt (fun e => by have := hrow _ e.symm; omega)).trans HNX.out)
                    have HVL := Lib.hid hvl
                    have HVF := Lib.hid hvf3
                    have HVE := Lib.hid hve
                    clear hvl hvf hve hvf3 hz3 hsz
                    refine hK.out _ _ hSn (fun hS => ?_)
                    clear hK K hSn
                    refine wpAnyH_ready (rs := [11]) (by kernel_rfl) (by simp) ?_
                    refine all_consH rfl (fun K hK => ?_) ?_
                    · skip
                      refine Stp.mk ?_
                      have c9 := HNX.out.cell
                      have f9 := HNX.out.frozen
                      have hSn : (w4.setCell ⟨bn, 0, none⟩ (.slice D4 (r + 1) d4)).heap[bh]? = W.heap[bh]? ∧ (w4.setCell ⟨bn, 0, none⟩ (.slice D4 (r + 1) d4)).heap[g]? = W.heap[g]? := ⟨(Below.heap_setCell _ _ _ _ (by show bh ≠ bn; omega)).trans hS.1, (Below.heap_setCell _ _ _ _ (by show g ≠ bn; omega)).trans hS.2⟩
                      go_simp
                      clear c9 f9
                      refine hK.out _ _ hSn (fun hS => ?_)
                      clear hK K hSn
                      refine wpAnyH_done (by kernel_rfl) ?_ _
                      have hk8 := kind_fr HVF.out (ts := [5]) (by decide)
                      have hk86 := kind_fr HVF.out (ts := [5, 56]) (by decide)
                      have hkb : Kind w4 (some bn) [5, 22] := kind_box HNX.out (by decide)
                      have hz2 := HB3.out.size
                      have hsz := HSZ.out
                      have hwz : w.heap.size ≤ W.heap.size := HB.out.size
                      have hz23 : w2.heap.size ≤ w3.heap.size := by rw [HW3.out, World.size_alloc]; omega
                      have hz02 : W.heap.size ≤ w2.heap.size := hz2
                      have hz03 : W.heap.size ≤ w3.heap.size := Nat.le_trans hz02 hz23
                      have h3 : ∀ q, q < w2.heap.size → w3.heap[q]? = w2.heap[q]? := fun q hq => by rw [HW3.out]; exact Below.heap_alloc _ _ _ hq
                      have hsame : ∀ q, q < bs + 2 → q ≠ bn → (w4.setCell ⟨bn, 0, none⟩ (.slice D4 (r + 1) d4)).heap[q]? = W.heap[q]? := fun q hq hne =>
                        (Below.heap_setCell _ _ _ _ hne).trans ((HG4.out.block q (by omega) (fun e => by have := hrow _ e.symm; omega)).trans ((h3 q (by omega)).trans (HB3.out.block q (by show q < W.heap.size; omega))))
                      have hgA : w2.grownBy w3 none := by rw [HW3.out]; exact World.grownBy_alloc w2 _ none
                      have hgS := grown_setCell w4 bn (.slice D4 (r + 1) d4)
                      have hgB := grown_of_below HB3.out
                      have hkeep : KeepsOthers W (w4.setCell ⟨bn, 0, none⟩ (.slice D4 (r + 1) d4)) := ((((KeepsOthers.drew W).trans (keeps_of_below HB3.out)).trans (by rw [HW3.out]; exact KeepsOthers.alloc _ _)).trans (HVF.out.keeps HG4.out)).trans (KeepsOthers.setCell _ _ _)
                      have hEl : El w3 w.heap.size (.slice D3 16 d3) ab := (El.of HALN.out (HF3.out.mono (Nat.le_trans hwz (Nat.le_refl _)))).kept hgA (kind_none _ _)
                      have hLn := Lvl.snoc HVL.out HVF.out (fun j l hj => by obtain ⟨v, hv, hE⟩ := HVE.out j l hj; exact ⟨v, hv, hE.kept hgA (kind_none _ _)⟩) hEl HG4.out HF4.out
                      have hLnf := hLn.kind hgS hkb
                      have hgr : rowOf (some ⟨g, 0, none⟩) c = none ∨ rowOf (some ⟨g, 0, none⟩) c ≠ rowOf A' c' := .inr fun e => by
                        rw [rowOf_some g 0 c (by omega)] at e
                        have := hrow _ e.symm
                        omega
                      have hLg := ((((HL.out.drew_.kind hgB (kind_none _ _)).kind hgA (kind_none _ _)).kept HG4.out hgr hk8).kind hgS hkb)
                      have hAf := ((((HA.out.drew_.kind hgB (kind_none _ _)).kind hgA (kind_none _ _)).kept HG4.out hrow hk86).kept2 hgS (.inr fun e => by have := HBR.out _ e; omega) hkb)
                      have hbel : Below w.heap.size w (w4.setCell ⟨bn, 0, none⟩ (.slice D4 (r + 1) d4)) := by
                        have h1 : Below w.heap.size w w3 := by rw [HW3.out]; exact below_alloc (below_to (HB.out.drew) HB3.out HB.out.size) _ (Nat.le_refl _)
                        exact (h1.grown HG4.out h1.size (fun q e => by have := hrow _ e; omega)).setCell (p := ⟨bn, 0, none⟩) (by show _ ≤ bn; omega) _
                      gi_wp2
                      refine ⟨hkeep, ⟨hsame g (by omega) (by omega), hsame bs (by omega) (by omega), hsame (bs + 1) (by omega) (by omega)⟩, D4, d4, ?_, ?_, hS.1.trans HH.out, hLg, hAf, HMK.out.keeps hkeep, (hsame bs (by omega) (by omega)).trans HK1.out, (hsame (bs + 1) (by omega) (by omega)).trans HK2.out, hbel, ?_⟩
                      · rw [HPLEN.out]
                        exact HNX.out.set _
                      · rw [HSN.out, HPLEN.out]
                        exact hLnf
                      · exact Nat.le_trans hsz hkeep.size
                    exact AllReadyH.nil
                  exact AllReadyH.nil
                exact AllReadyH.nil
              refine all_consH rfl (fun K hK => ?_) ?_
              · skip
                obtain ⟨bx, hbx⟩ : ∃ b, b = w2.heap.size := ⟨_, rfl⟩
                obtain ⟨w3, hw3⟩ : ∃ V, V = w2.alloc (.cells #[.slice D3 16 d3] 22) := ⟨_, rfl⟩
                refine stp_run (v := .slice (some ⟨bx, 0, none⟩) 1 1) (w' := w3) rfl (by rw [hbx, hw3]; go_simp) ?_
                have hSn : w3.heap[bh]? = W.heap[bh]? ∧ w3.heap[g]? = W.heap[g]? := by
                  rw [hw3]
                  exact ⟨(Below.heap_alloc _ _ _ (Nat.lt_of_lt_of_le HHL.out HB3.out.size)).trans hS.1, (Below.heap_alloc _ _ _ (Nat.lt_of_lt_of_le hgl HB3.out.size)).trans hS.2⟩
                have HR3 : Hid (Rd w3 (bx + 1) 1 (some ⟨bx, 0, none⟩) 1 [.slice D3 16 d3]) := Lib.hid (by rw [hbx, hw3]; exact Rd.made w2 22 1 1 [.slice D3 16 d3] rfl)
                replace HNX : Hid (Boxed w3 bn 56 (.slice A' r c')) := Lib.hid (by rw [hw3]; exact HNX.out.alloc _)
                have HW3 := Lib.hid hw3
                clear hw3 hbx
                refine hK.out _ _ hSn (fun hS => ?_)
                clear hK K hSn
                refine wpAnyH_ready (rs := [0]) (by kernel_rfl) (by simp) ?_
                refine all_consH rfl (fun K hK => ?_) ?_
                · skip
                  refine Stp.mk ?_
                  have kx := HNX.out.cell
                  go_simp
                  clear kx
                  have hSn := hS
                  refine hK.out _ _ hSn (fun hS => ?_)
                  clear hK K hSn
                  refine wpAnyH_ready (rs := [10]) (by kernel_rfl) (by simp) ?_
                  refine all_consH rfl (fun K hK => ?_) ?_
                  · skip
                    obtain ⟨vs, hvl, hvf, hve⟩ := (HNL.out.drew_.below HB3.out)
                    have hvf3 : Fr w3 (bs + 2) 22 1 A' r c' vs := by rw [HW3.out]; exact hvf.alloc _
                    have hz3 : W.heap.size ≤ w3.heap.size := by rw [HW3.out, World.size_alloc]; exact Nat.le_trans HB3.out.size (by omega)
                    have hsz := HSZ.out
                    refine stp_append_to rfl (.tmp 39) (.tmp 48) rfl okBB rfl hvf3 rfl HR3.out (ones1 rfl) (r + 1) rfl (vs ++ [.slice D3 16 d3]) rfl (by unfold maxLen; omega) (by omega) (Nat.le_trans hsz hz3) ?_
                    intro D4 d4 w4 HF4 HG4
                    have hrow : ∀ q, rowOf A' c' = some q → bs + 2 ≤ q := fun q e => (hvf3.row q e).1
                    have hSn : w4.heap[bh]? = W.heap[bh]? ∧ w4.heap[g]? = W.heap[g]? := ⟨(HG4.out.block bh (Nat.lt_of_lt_of_le HHL.out hz3) (fun e => by have := hrow _ e.symm; omega)).trans hS.1, (HG4.out.block g (Nat.lt_of_lt_of_le hgl hz3) (fun e => by have := hrow _ e.symm; omega)).trans hS.2⟩
                    replace HNX : Hid (Boxed w4 bn 56 (.slice A' r c')) := Lib.hid ((HG4.out.block bn HNX.out.lt (fun e => by have := hrow _ e.symm; omega)).trans HNX.out)
                    have HVL := Lib.hid hvl
                    have HVF := Lib.hid hvf3
                    have HVE := Lib.hid hve
                    clear hvl hvf hve hvf3 hz3 hsz
                    refine hK.out _ _ hSn (fun hS => ?_)
                    clear hK K hSn
                    refine wpAnyH_ready (rs := [11]) (by kernel_rfl) (by simp) ?_
                    refine all_consH rfl (fun K hK => ?_) ?_
                    · skip
                      refine Stp.mk ?_
                      have c9 := HNX.out.cell
                      have f9 := HNX.out.frozen
                      have hSn : (w4.setCell ⟨bn, 0, none⟩ (.slice D4 (r + 1) d4)).heap[bh]? = W.heap[bh]? ∧ (w4.setCell ⟨bn, 0, none⟩ (.slice D4 (r + 1) d4)).heap[g]? = W.heap[g]? := ⟨(Below.heap_setCell _ _ _ _ (by show bh ≠ bn; omega)).trans hS.1, (Below.heap_setCell _ _ _ _ (by show g ≠ bn; omega)).trans hS.2⟩
                      go_simp
                      clear c9 f9
                      refine hK.out _ _ hSn (fun hS => ?_)
                      clear hK K hSn
                      refine wpAnyH_done (by kernel_rfl) ?_ _
                      have hk8 := kind_fr HVF.out (ts := [5]) (by decide)
                      have hk86 := kind_fr HVF.out (ts := [5, 56]) (by decide)
                      have hkb : Kind w4 (some bn) [5, 22] := kind_box HNX.out (by decide)
                      have hz2 := HB3.out.size
                      have hsz := HSZ.out
                      have hwz : w.heap.size ≤ W.heap.size := HB.out.size
                      have hz23 : w2.heap.size ≤ w3.heap.size := by rw [HW3.out, World.size_alloc]; omega
                      have hz02 : W.heap.size ≤ w2.heap.size := hz2
                      have hz03 : W.heap.size ≤ w3.heap.size := Nat.le_trans hz02 hz23
                      have h3 : ∀ q, q < w2.heap.size → w3.heap[q]? = w2.heap[q]? := fun q hq => by rw [HW3.out]; exact Below.heap_alloc _ _ _ hq
                      have hsame : ∀ q, q < bs + 2 → q ≠ bn → (w4.setCell ⟨bn, 0, none⟩ (.slice D4 (r + 1) d4)).heap[q]? = W.heap[q]? := fun q hq hne =>
                        (Below.heap_setCell _ _ _ _ hne).trans ((HG4.out.block q (by omega) (fun e => by have := hrow _ e.symm; omega)).trans ((h3 q (by omega)).trans (HB3.out.block q (by show q < W.heap.size; omega))))
                      have hgA : w2.grownBy w3 none := by rw [HW3.out]; exact World.grownBy_alloc w2 _ none
                      have hgS := grown_setCell w4 bn (.slice D4 (r + 1) d4)
                      have hgB := grown_of_below HB3.out
                      have hkeep : KeepsOthers W (w4.setCell ⟨bn, 0, none⟩ (.slice D4 (r + 1) d4)) := ((((KeepsOthers.drew W).trans (keeps_of_below HB3.out)).trans (by rw [HW3.out]; exact KeepsOthers.alloc _ _)).trans (HVF.out.keeps HG4.out)).trans (KeepsOthers.setCell _ _ _)
                      have hEl : El w3 w.heap.size (.slice D3 16 d3) ab := (El.of HALN.out (HF3.out.mono (Nat.le_trans hwz (Nat.le_refl _)))).kept hgA (kind_none _ _)
                      have hLn := Lvl.snoc HVL.out HVF.out (fun j l hj => by obtain ⟨v, hv, hE⟩ := HVE.out j l hj; exact ⟨v, hv, hE.kept hgA (kind_none _ _)⟩) hEl HG4.out HF4.out
                      have hLnf := hLn.kind hgS hkb
                      have hgr : rowOf (some ⟨g, 0, none⟩) c = none ∨ rowOf (some ⟨g, 0, none⟩) c ≠ rowOf A' c' := .inr fun e => by
                        rw [rowOf_some g 0 c (by omega)] at e
                        have := hrow _ e.symm
                        omega
                      have hLg := ((((HL.out.drew_.kind hgB (kind_none _ _)).kind hgA (kind_none _ _)).kept HG4.out hgr hk8).kind hgS hkb)
                      have hAf := ((((HA.out.drew_.kind hgB (kind_none _ _)).kind hgA (kind_none _ _)).kept HG4.out hrow hk86).kept2 hgS (.inr fun e => by have := HBR.out _ e; omega) hkb)
                      have hbel : Below w.heap.size w (w4.setCell ⟨bn, 0, none⟩ (.slice D4 (r + 1) d4)) := by
                        have h1 : Below w.heap.size w w3 := by rw [HW3.out]; exact below_alloc (below_to (HB.out.drew) HB3.out HB.out.size) _ (Nat.le_refl _)
                        exact (h1.grown HG4.out h1.size (fun q e => by have := hrow _ e; omega)).setCell (p := ⟨bn, 0, none⟩) (by show _ ≤ bn; omega) _
                      gi_wp2
                      refine ⟨hkeep, ⟨hsame g (by omega) (by omega), hsame bs (by omega) (by omega), hsame (bs + 1) (by omega) (by omega)⟩, D4, d4, ?_, ?_, hS.1.trans HH.out, hLg, hAf, HMK.out.keeps hkeep, (hsame bs (by omega) (by omega)).trans HK1.out, (hsame (bs + 1) (by omega) (by omega)).trans HK2.out, hbel, ?_⟩
                      · rw [HPLEN.out]
                        exact HNX.out.set _
                      · rw [HSN.out, HPLEN.out]
                        exact hLnf
                      · exact Nat.le_trans hsz hkeep.size
                    exact AllReadyH.nil
                  exact AllReadyH.nil
                exact AllReadyH.nil
              exact AllReadyH.nil
            exact AllReadyH.nil
          case done =>
            rintro D ys W hD rfl ⟨A', c', hN, hNL, hH, hL, hA, hM, -, -, hB, hsz⟩ hK
            rw [HUP.out] at hNL
            rw [fst_len _ _ (Nat.le_refl _)] at hNL hN
            have hkr : ∀ q, rowOf B b = some q → q < bn := HBR.out
            have hMc : Marks w.heap.size (D :: ds) W := by
              refine ⟨List.nodup_cons.2 ⟨fun hm => ?_, hM.1⟩, fun D' hD' => ?_⟩
              · have := hdl D hm
                omega
              · rcases List.mem_cons.1 hD' with rfl | hm
                · exact ⟨by have := hB3.size; omega, hK⟩
                · exact hM.2 D' hm
            have cH := hH.cell
            have fH := hH.frozen
            have HN := Lib.hid hN
            have HNL := Lib.hid hNL
            have HH := Lib.hid hH
            have HA := Lib.hid hA
            have HMC := Lib.hid hMc
            have HB := Lib.hid hB
            clear hN hNL hH hL hA hM hMc hB hK hX3 hN3 hL3 hA3 hM3 hB3 hbs hbk cH fH
            go_wp2_with fail
            refine wp_of_normal ?_
            refine wp_region_held_drew (S := fun V => V.heap[bn]? = W.heap[bn]?) (by kernel_rfl) rfl (fun hS => ?_)
            refine wpAnyH_take (i := 0) (v := ?_) rfl (by kernel_rfl) (by kernel_rfl) (by kernel_rfl) (fun _ _ _ h => h) (Or.inl ⟨by rfl, ?hyq⟩) hS ?_
            case hyq =>
              intro w hw
              go_simp
              try (with_reducible rfl)
            refine wpAnyH_take (i := 1) (v := ?_) rfl (by kernel_rfl) (by kernel_rfl) (by kernel_rfl) (fun _ _ _ h => h) (Or.inl ⟨by rfl, ?hyq⟩) hS ?_
            case hyq =>
              intro w hw
              have kx := Boxed.cell (hw.trans HN.out)
              go_simp
              try (with_reducible rfl)
            refine wpAnyH_take (i := 4) (v := ?_) rfl (by kernel_rfl) (by kernel_rfl) (by kernel_rfl) (fun _ _ _ h => h) (Or.inl ⟨by rfl, ?hyq⟩) hS ?_
            case hyq =>
              intro w hw
              have kx := Boxed.cell (hw.trans HN.out)
              go_simp
              try (with_reducible rfl)
            refine wpAnyH_ready (rs := [2]) (by kernel_rfl) (by simp) ?_
            refine all_consH rfl (fun K hK => ?_) ?_
            · skip
              obtain ⟨bx, hbx⟩ : ∃ b, b = W.drew.heap.size := ⟨_, rfl⟩
              obtain ⟨w3, hw3⟩ : ∃ V, V = W.drew.alloc (.cells #[.slice A' m c'] 56) := ⟨_, rfl⟩
              refine stp_run (v := .slice (some ⟨bx, 0, none⟩) 1 1) (w' := w3) rfl (by rw [hbx, hw3]; go_simp) ?_
              have hSn : w3.heap[bn]? = W.heap[bn]? := by
                rw [hw3]
                exact Below.heap_alloc _ _ _ HN.out.lt
              have HR3 : Hid (Rd w3 (bx + 1) 1 (some ⟨bx, 0, none⟩) 1 [.slice A' m c']) := Lib.hid (by rw [hbx, hw3]; exact Rd.made W.drew 56 1 1 [.slice A' m c'] rfl)
              have HW3 := Lib.hid hw3
              clear hw3 hbx
              refine hK.out _ _ hSn (fun hS => ?_)
              clear hK K hSn
              refine wpAnyH_ready (rs := [3]) (by kernel_rfl) (by simp) ?_
              refine all_consH rfl (fun K hK => ?_) ?_
              · skip
                obtain ⟨vs, hvf, hve⟩ := HA.out.drew_
                have hvf3 : Fr w3 w.heap.size 56 1 B (h + 1) b vs := by rw [HW3.out]; rw [HAL.out] at hvf; exact hvf.alloc _
                have hz3 : W.heap.size ≤ w3.heap.size := by rw [HW3.out, World.size_alloc]; exact Nat.le_succ _
                have hbz := HB.out.size
                refine stp_append_to rfl (.tmp 50) (.tmp 52) rfl okBBB rfl hvf3 rfl HR3.out (ones1 rfl) (h + 1 + 1) rfl (vs ++ [.slice A' m c']) rfl (by unfold maxLen; omega) (by omega) (Nat.le_trans hbz hz3) ?_
                intro D4 d4 w4 HF4 HG4
                have hSn : w4.heap[bn]? = W.heap[bn]? := (HG4.out.block bn (Nat.lt_of_lt_of_le HN.out.lt hz3) (fun e => by have := hkr _ e.symm; omega)).trans hS
                have HVF := Lib.hid hvf3
                have HVE := Lib.hid hve
                clear hvf hve hvf3 hz3 hbz
                refine hK.out _ _ hSn (fun hS => ?_)
                clear hK K hSn
                refine wpAnyH_take (i := 5) (v := ?_) rfl (by kernel_rfl) (by kernel_rfl) (by kernel_rfl) (fun _ _ _ h => h) (Or.inl ⟨by rfl, ?hyq⟩) hS ?_
                case hyq =>
                  intro w hw
                  go_simp
                  try (with_reducible rfl)
                refine wpAnyH_take (i := 6) (v := ?_) rfl (by kernel_rfl) (by kernel_rfl) (by kernel_rfl) (fun _ _ _ h => h) (Or.inl ⟨by rfl, ?hyq⟩) hS ?_
                case hyq =>
                  intro w hw
                  go_simp
                  try (with_reducible rfl)
                refine wpAnyH_done (by kernel_rfl) ?_ _
                refine normal_in ?_
                have hz3 : W.heap.size ≤ w3.heap.size := by rw [HW3.out, World.size_alloc]; exact Nat.le_succ _
                have hgA : W.drew.grownBy w3 none := by rw [HW3.out]; exact World.grownBy_alloc W.drew _ none
                have h3 : ∀ q, q < W.heap.size → w3.heap[q]? = W.heap[q]? := fun q hq => by rw [HW3.out]; exact Below.heap_alloc _ _ _ hq
                have hwz : w.heap.size ≤ W.heap.size := HB.out.size
                have hNL3 : Lvl w3 w.heap.size w.heap.size A' m c' (lvL seed (h + 1)) := ((HNL.out.mono (by omega)).drew_).kind hgA (kind_none _ _)
                have hk := kind_fr HVF.out (ts := [5, 22]) (by decide)
                have hNL4 := hNL3.kind HG4.out hk
                have hA4 := AllR.snoc (hi := w4.heap.size) (by rw [HAL.out]; exact HVF.out) (fun j L' hj => by obtain ⟨A1, c1, e1, l1, lo1⟩ := HVE.out j L' hj; exact ⟨A1, c1, e1, l1.kind hgA (kind_none _ _), fun q e => Nat.lt_of_lt_of_le (lo1 q e) (Nat.le_trans hsz (Nat.le_trans hz3 HG4.out.size))⟩) hNL3 HG4.out.size HG4.out (by rw [HAL.out]; exact HF4.out)
                rw [← HALL.out] at hA4
                have hbh4 : Boxed w4 bh 3 (.int .i64 (h : Int)) := by
                  refine (HG4.out.block bh (Nat.lt_of_lt_of_le HH.out.lt hz3) (fun e => ?_)).trans ((h3 bh HH.out.lt).trans HH.out)
                  obtain ⟨cur, t, fz, hc, ht⟩ := kind_fr HVF.out (ts := [3]) (by decide) _ e.symm
                  rw [(h3 bh HH.out.lt).trans HH.out] at hc
                  cases hc
                  exact ht (by simp)
                have hkp : KeepsOthers W w4 := ((KeepsOthers.drew W).trans (by rw [HW3.out]; exact KeepsOthers.alloc _ _)).trans (HVF.out.keeps HG4.out)
                have hM4 := HMC.out.keeps hkp
                have hB4 : Below w.heap.size w w4 := by
                  have h1 : Below w.heap.size w w3 := by rw [HW3.out]; exact below_alloc HB.out.drew _ (Nat.le_refl _)
                  exact h1.grown HG4.out h1.size (fun q e => (HVF.out.row q e).1)
                have c4 := hbh4.cell
                have f4 := hbh4.frozen
                have HNL4 := Lib.hid hNL4
                have HA4 := Lib.hid hA4
                have HBH4 := Lib.hid hbh4
                have HM4 := Lib.hid hM4
                have HB4 := Lib.hid hB4
                clear hNL4 hA4 hbh4 hM4 hB4 hkp hNL3 hk hgA h3 hS
                go_wp2
                rw [← HNX.out]
                have hpos : 0 < 2 ^ (3 - (h + 1)) := Nat.pow_pos (by omega)
                refine ⟨⟨h + 1, A', c', D4, d4, w4.heap.size, D :: ds, _, _, _, _, _, _, _, _, _, _, _, _, _, _, _, _, _, _, _, _, _, _, _, _, _, _, _, _, _, _, _, _, _, _, _, _, _, _, _, _, _, _, _, _, _, _, _, _, _, _, _, _, _, by omega, rfl, ?_, HB4.out.size, ?_, ?_, ?_, ?_⟩, ?_⟩
                · rw [show (((h + 1 : Nat)) : Int) = (h : Int) + 1 by omega]
                  exact Boxed.new w4 _ _
                · rw [HNX.out]
                  exact HNL4.out.alloc _
                · exact (HA4.out.alloc _).more (by simp)
                · exact HM4.out.keeps (KeepsOthers.alloc _ _)
                · exact below_alloc HB4.out _ (Nat.le_refl _)
                · show 2 ^ (3 - (h + 1)) < 2 * 2 ^ (3 - (h + 1))
                  omega
              exact AllReadyH.nil
            exact AllReadyH.nil
          case stop =>
            rintro D c pre W _ _ h _
            exact h.elim
        · obtain rfl : h = 3 := by omega
          clear hL hX
          go_wp2
          refine leaves_marks (base := w.heap.size) (.tuple #[.slice B 4 b, .int .i64 0]) (fun W => by simp [results, Try.results58, go_sem]) (fun W => AllR W w.heap.size W.heap.size B b (allL seed 3) ∧ Below w.heap.size w W) ?_ (fun W h => ⟨B, b, rfl, h.1, h.2⟩) ds wr2 ⟨hA, hB⟩ hM
          rintro W D ⟨h1, h2⟩ hbD hD
          exact ⟨(h1.own (grownBy_putObj' W D (.deferred none)) (fun r e => by cases e; exact ⟨_, hD, rfl⟩)).more (by simp), h2.trans (belowK_b (w := w) (Nat.le_refl _) W D _ _ hbD hD rfl rfl)⟩
end Go.Proofs.Ytoggpnncmgcgoaa
