/-
  Contracts of package obj: Write.
-/
import Derived.Test.YtgcagenhfddpgaaObjA
import Derived.Test.YtgcagenhfddpgaaPtrRow
import Derived.Deep.RegionLaw
import Derived.Laws.CopyOwn
namespace Go.Proofs.Ytgcagenhfddpgaa
open Go.RowKit
set_option linter.unusedVariables false
set_option linter.unusedSimpArgs false
set_option maxRecDepth 100000

/-- 'append' that finds no room, as a step of a region that draws. -/
theorem step_append_more {P : Program} {t e : TypeId} {sz bys : Nat} {z : Value} {ops : Array Oper} {o : Oper} {a : Act} {w : World} {K : Act → World → Prop} {Q : Exit → Act → World → Prop} {E : Prop} (hgd : o.guard = none) (s x : Operand)
    (ho : o.op = .call { callee := .builtin .append, args := #[s, x], argTypes := #[t, t] }) (ok : ElemOk P t e sz bys z)
    {B B' : Nat} {A A' : Option Addr} {n c m c' : Nat} {xs ys : List Value} (hs : a.eval s = .slice A n c) (hxs : Rd w B sz A n xs) (hx : a.eval x = .slice A' m c') (hrd : Rd w B' sz A' m ys)
    (hg : c < n + m) (nm : Nat) (hnm : n + m = nm) (h63 : nm ≤ maxLen) (hb : nm * bys ≤ 140737488355328) (zs : List Value) (hzs : xs ++ ys = zs)
    (hK : ∀ d w', Hid (Fr w' w.heap.size e sz (some ⟨w.heap.size, 0, none⟩) nm d zs) → Hid (Below w.heap.size w w') → w.heap.size < w'.heap.size → K (a.put o.dst (.slice (some ⟨w.heap.size, 0, none⟩) nm d)) w') :
    if Region.wanted o (yielded ops a.tmps) = true then Oper.wp P o a w K Q else E := by
  subst hnm hzs
  have hw : Region.wanted o (yielded ops a.tmps) = true := by simp [Region.wanted, hgd]
  rw [if_pos hw]
  have hr := run_append_more (w := w) (c' := c') ok o.type hxs hrd hg h63 hb
  unfold Oper.wp
  rw [exec_append ho hs hx hr]
  refine hK _ _ (fr_more ok hxs.1 hrd.1 h63 (Nat.le_refl _)) ?_ (by simp)
  exact ((Below.refl _ w).drew).alloc (Nat.le_refl _) _

/-- An object's block. -/
def blockL (k b : UInt8) (S : Int) (l : List Pt) : List UInt8 := [k, b] ++ le 2 S.toNat ++ (noughts 12 ++ joined l)
theorem blockL_len (k b : UInt8) (S : Int) {l : List Pt} (h : l.length = 15) : (blockL k b S l).length = 256 := by
  simp only [blockL, List.length_append, List.length_cons, List.length_nil, le_len, noughts_len, joined_len, h]

theorem cells_of_rd {w : World} {B n g off : Nat} {xs : List Value} (h : Rd w B 1 (some ⟨g, off, none⟩) n xs) : ∀ j v, xs[j]? = some v → w.cell? ((⟨g, off, none⟩ : Addr).add j) = some v := by
  intro j v hv
  have hj : j < xs.length := (List.getElem?_eq_some_iff.1 hv).1
  obtain ⟨b, o, e, _, hc⟩ := h.2 (by have := h.1; omega)
  cases e
  rw [add_lit]
  exact hc j v hv
theorem Rd.block {w : World} {g n : Nat} {t : TypeId} {fz : Nat × Nat} {cs : List Value} (h : w.heap[g]? = some (.cells cs.toArray t fz)) (hn : cs.length = n) : Rd w w.heap.size 1 (some ⟨g, 0, none⟩) n cs :=
  ⟨by omega, fun _ => ⟨g, 0, rfl, (Array.getElem?_eq_some_iff.1 h).1, fun j u hu => by
    rw [Nat.zero_add, cell_of_row w g j cs.toArray t fz h]
    simpa using hu⟩⟩
theorem splice_head (X : List UInt8) (h : X.length = 4) : splice (bvs (noughts 16)) 0 (bvs X) = bvs (X ++ noughts 12) := by
  unfold splice
  rw [List.take_zero, List.nil_append, bvs_len, h, ← bvs_drop, bvs_app]
  rfl
theorem rowL_take {l : List Pt} (h : l.length = 15) : (bvs (rowL l)).take (240 * 1) = bvs (joined l) := by
  rw [← bvs_take, rowL, joined_app, List.take_left' (by rw [joined_len, h])]
theorem block_join (k b : UInt8) (S : Int) (l : List Pt) : bvs ([k, b] ++ le 2 S.toNat ++ noughts 12) ++ bvs (joined l) = bvs (blockL k b S l) := by
  rw [← bvs_app, blockL]
  congr 1
theorem obj_write_bad (K L S : Int) (A : Option Addr) (n c : Nat) (l : List Pt) (w : World) (hl : l.length = n) (hr : Rd w w.heap.size 5 A n (pcs l)) (hK8 : 0 ≤ K ∧ K ≤ 255) (hm : ¬ ObMay K L S l) :
    Calls Try.prog 38 #[.agg #[.int .u8 K, .int .i64 L, .int .i64 S, .slice A n c]] w fun e w' => e = .returned (.tuple #[.slice none 0 0, .int .i64 8]) ∧ Below w.heap.size w w' := by
  have hc := fun W (h : Below w.heap.size w W) => obj_check K L S A n c l W hl ((hr.below h).more h.size) hK8 8 (if_neg hm)
  have HC := Lib.hid hc
  clear hc hr hm
  obtain ⟨d0, d1, d2, d3⟩ := (ObBox.new w K L S (.slice A n c)).cells
  have hb := below_new w (.cells #[.int .u8 K, .int .i64 L, .int .i64 S, .slice A n c] 50)
  have HB := Lib.hid hb
  clear hb
  go_enter Try.func38, Try.ntmps38
  go_wp2_with fail
  refine (HC.out _ HB.out).mono ?_
  rintro e w1 ⟨rfl, b1⟩
  go_wp2
  go_ret2
  exact ⟨rfl, below_to HB.out b1 HB.out.size⟩

set_option maxHeartbeats 4000000 in
theorem obj_write_ok (k b : UInt8) (S : Int) (A : Option Addr) (c : Nat) (l : List Pt) (w : World) (hl : l.length = 15) (hU : AllU l) (hr : Rd w w.heap.size 5 A 15 (pcs l)) (hm : ObMay (k.toNat : Int) (b.toNat : Int) S l) :
    Calls Try.prog 38 #[.agg #[.int .u8 (k.toNat : Int), .int .i64 (b.toNat : Int), .int .i64 S, .slice A 15 c]] w fun e w' => ∃ g d, e = .returned (.tuple #[.slice (some ⟨g, 0, none⟩) 256 d, .int .i64 0]) ∧ Fr w' w.heap.size 5 1 (some ⟨g, 0, none⟩) 256 d (bvs (blockL k b S l)) ∧ Below w.heap.size w w' := by
  have hk8 := k.toNat_lt
  have hb8 := b.toNat_lt
  have hc := fun W (h : Below w.heap.size w W) => obj_check (k.toNat : Int) (b.toNat : Int) S A 15 c l W hl ((hr.below h).more h.size) (by omega) 0 (if_pos hm)
  have hrow := fun W (h : Below w.heap.size w W) => ptr_row_le A 15 c l W hl (by omega) hU ((hr.below h).more h.size)
  have hput := fun W => put_ok2 S W hm.2.2.1.1 (by have := hm.2.2.1.2; omega)
  have hAM := hm.2.2.2.2
  have HC := Lib.hid hc
  have HROW := Lib.hid hrow
  have HPUT := Lib.hid hput
  have HAM := Lib.hid hAM
  have hS0 := hm.2.2.1
  clear hc hrow hput hAM hm
  have hwr : IntKind.u8.wrap (b.toNat : Int) = (b.toNat : Int) := by rw [IntKind.wrap_u8]; omega
  have hx0 := ObBox.new w (k.toNat : Int) (b.toNat : Int) S (.slice A 15 c)
  obtain ⟨d0, d1, d2, d3⟩ := hx0.cells
  have hb0 := below_new w (.cells #[.int .u8 (k.toNat : Int), .int .i64 (b.toNat : Int), .int .i64 S, .slice A 15 c] 50)
  have HX0 := Lib.hid hx0
  have HB0 := Lib.hid hb0
  clear hb0 hx0
  go_enter Try.func38, Try.ntmps38
  go_wp2_with fail
  refine (HC.out _ HB0.out).mono ?_
  rintro e w1 ⟨rfl, b1⟩
  have hx1 := HX0.out.below b1 HX0.out.lt
  have hb1 := below_to HB0.out b1 HB0.out.size
  have hl1 := hx1.lt
  clear d0 d1 d2 d3 b1
  obtain ⟨d0, d1, d2, d3⟩ := hx1.cells
  have HX1 := Lib.hid hx1
  have HB1 := Lib.hid hb1
  clear hx1 hb1
  go_wp2_with fail
  refine (HPUT.out _).mono ?_
  rintro e w2 ⟨A6, c6, rfl, f6, b6⟩
  have hx2 := (HX1.out.alloc (.cells #[.int .u8 0, .int .u8 0, .int .u8 0, .int .u8 0, .int .u8 0, .int .u8 0, .int .u8 0, .int .u8 0, .int .u8 0, .int .u8 0, .int .u8 0, .int .u8 0, .int .u8 0, .int .u8 0, .int .u8 0, .int .u8 0] 93)).below b6 (by rw [World.size_alloc]; omega)
  have hh2 := (b6.block w1.heap.size (by rw [World.size_alloc]; omega)).trans (heap_alloc_new w1 (.cells #[.int .u8 0, .int .u8 0, .int .u8 0, .int .u8 0, .int .u8 0, .int .u8 0, .int .u8 0, .int .u8 0, .int .u8 0, .int .u8 0, .int .u8 0, .int .u8 0, .int .u8 0, .int .u8 0, .int .u8 0, .int .u8 0] 93))
  have hb2 := below_to (below_alloc HB1.out (.cells #[.int .u8 0, .int .u8 0, .int .u8 0, .int .u8 0, .int .u8 0, .int .u8 0, .int .u8 0, .int .u8 0, .int .u8 0, .int .u8 0, .int .u8 0, .int .u8 0, .int .u8 0, .int .u8 0, .int .u8 0, .int .u8 0] 93) (Nat.le_refl _)) b6 (by have := HB1.out.size; rw [World.size_alloc]; omega)
  have hb12 : Below (w.heap.size + 1) w1 w2 := (((Below.refl (w.heap.size + 1) w1).alloc hl1 (.cells #[.int .u8 0, .int .u8 0, .int .u8 0, .int .u8 0, .int .u8 0, .int .u8 0, .int .u8 0, .int .u8 0, .int .u8 0, .int .u8 0, .int .u8 0, .int .u8 0, .int .u8 0, .int .u8 0, .int .u8 0, .int .u8 0] 93))).trans (b6.mono (by rw [World.size_alloc]; omega))
  have HB12 := Lib.hid hb12
  clear hb12
  have hz2 : w1.heap.size < w2.heap.size := by have := b6.size; rw [World.size_alloc] at this; omega
  have hrd6 := f6.rd
  clear d0 d1 d2 d3 b6 f6
  obtain ⟨d0, d1, d2, d3⟩ := hx2.cells
  have HX2 := Lib.hid hx2
  have HH2 := Lib.hid hh2
  have HB2 := Lib.hid hb2
  have HR6 := Lib.hid hrd6
  clear hx2 hh2 hb2 hrd6
  go_wp2_with fail
  have hhd : ∀ w7, Below (w2.drew.alloc (.cells [bv k, bv b].toArray 5)).heap.size (w2.drew.alloc (.cells [bv k, bv b].toArray 5)) w7 → w7.heap[w1.heap.size]? = some (.cells (bvs (noughts 16)).toArray 93 (0, 0)) := fun w7 h =>
    (h.block _ (by rw [World.size_alloc]; exact Nat.lt_succ_of_lt hz2)).trans ((Below.heap_alloc w2.drew _ _ hz2).trans HH2.out)
  have hbd : ∀ w7, Below (w2.drew.alloc (.cells [bv k, bv b].toArray 5)).heap.size (w2.drew.alloc (.cells [bv k, bv b].toArray 5)) w7 → Below (w.heap.size + 1) w1 w7 := fun w7 h =>
    ((HB12.out.drew).alloc (by have := HB12.out.size; exact Nat.le_trans hl1 this) _).trans (h.mono (by have h1 := HB12.out.size; rw [World.size_alloc]; show w.heap.size + 1 ≤ w2.heap.size + 1; omega))
  have HHD := Lib.hid hhd
  have HBD := Lib.hid hbd
  clear hhd hbd
  have hinfo : (Try.prog.info? 5).map (·.size) = some 1 := by kernel_rfl
  go_region_law (first
    | (refine step_append_more rfl (.tmp 27) (.tmp 28) rfl okB (by simp [Act.eval, Act.put]; rfl) (Rd.made w2.drew 5 1 2 [bv k, bv b] rfl) (by simp [Act.eval, Act.put]; rfl) ((HR6.out.drew).alloc (Nat.le_refl _) (.cells [bv k, bv b].toArray 5)) (by omega) 4 rfl (by unfold maxLen; omega) (by omega) (bvs ([k, b] ++ le 2 S.toNat)) (bvs_app [k, b] _).symm ?_; intro d7 w7 f7 b7 z7; have hh7 := HHD.out w7 b7.out; have hb7 := HBD.out w7 b7.out; have hr7 := f7.out.rd; rw [show (w2.alloc (.cells #[.int .u8 (k.toNat : Int), .int .u8 (b.toNat : Int)] 5)).drew.heap.size = w2.heap.size + 1 from World.size_alloc w2 _] at hr7; have HH7 := Lib.hid hh7; have HB7 := Lib.hid hb7; have HR7 := Lib.hid hr7; clear hh7 hb7 hr7 f7 b7)
    | (go_loud (refine step_copy_splice rfl (.tmp 21) (.tmp 29) 23 23 rfl 5 Try.underlying23 hinfo (some ⟨w1.heap.size, 0, none⟩) (some ⟨w2.heap.size + 1, 0, none⟩) 16 16 4 d7 (by simp [Act.eval, Act.put]) (by simp [Act.eval, Act.put]) w1.heap.size 0 (bvs (noughts 16)) 93 HH7.out (bvs ([k, b] ++ le 2 S.toNat)) (by rw [bvs_len, List.length_append, le_len]; rfl) (fun _ => ⟨rfl, ⟨w2.heap.size + 1, 0, none⟩, rfl, cells_of_rd HR7.out⟩) (by rw [bvs_len, bvs_len, List.length_append, le_len, noughts_len]; simp) (bvs_one _) (w.heap.size + 1) w1 HB7.out hl1 ?_); intro w8 HH8 HB8))
  all_goals
    have hsp := splice_head ([k, b] ++ le 2 S.toNat) (by rw [List.length_append, le_len]; rfl)
    have hh8 := HH8.out
    rw [hsp] at hh8
    have hx8 := HX1.out.below HB8 (Nat.lt_succ_self _)
    have hB8 : Below w.heap.size w w8 := HB1.out.trans (HB8.mono (Nat.le_succ _))
    clear d0 d1 d2 d3 hsp
    obtain ⟨d0, d1, d2, d3⟩ := hx8.cells
    have HH9 := Lib.hid hh8
    have HB9 := Lib.hid hB8
    have hz8 : w1.heap.size < w8.heap.size := (Array.getElem?_eq_some_iff.1 hh8).1
    clear hh8 hx8 hB8
    go_wp2_with fail
    refine (HROW.out w8 HB9.out).mono ?_
    rintro e w9 ⟨⟨hm', rfl, f9⟩ | ⟨hm', rfl⟩, b9⟩
    case inr => exact absurd HAM.out hm'
    have hh9 := (b9.block _ hz8).trans HH9.out
    have hB9 := below_to HB9.out b9 HB9.out.size
    have hrd9 := Rd.block hh9 (n := 16) (by rw [bvs_len, List.length_append, List.length_append, le_len, noughts_len]; rfl)
    have hro9 := f9.rd.take (k := 240) (by omega)
    rw [rowL_take hl] at hro9
    have HRD := Lib.hid hrd9
    have HRO := Lib.hid hro9
    have HBB := Lib.hid hB9
    clear hh9 hB9 hrd9 hro9 f9 b9 hm' d0 d1 d2 d3 HROW HAM
    go_wp2_with fail
    go_region_law (go_loud (refine step_append_more rfl (.tmp 40) (.tmp 42) rfl okB (by simp [Act.eval, Act.put]; rfl) (HRD.out.drew) (by simp [Act.eval, Act.put]; rfl) (HRO.out.drew) (by omega) 256 rfl (by unfold maxLen; omega) (by omega) (bvs (blockL k b S l)) (block_join k b S l) ?_; intro d10 w10 f10 b10 z10))
    all_goals
      go_wp2
      go_ret2
      exact ⟨_, _, rfl, f10.out.mono HBB.out.size, below_to HBB.out.drew b10.out HBB.out.size⟩
/-- What writing an object answers. -/
def byteOf (n : Int) : UInt8 := UInt8.ofNat n.toNat
theorem byteOf_toNat {n : Int} (h0 : 0 ≤ n) (h1 : n ≤ 255) : ((byteOf n).toNat : Int) = n := by
  unfold byteOf
  rw [UInt8.toNat_ofNat']
  omega
def obB (K L S : Int) (l : List Pt) : List UInt8 := if ObMay K L S l then blockL (byteOf K) (byteOf L) S l else []
theorem obE_yes {K L S : Int} {l : List Pt} (h : ObMay K L S l) : obE K L S l = 0 := if_pos h
theorem obE_no {K L S : Int} {l : List Pt} (h : ¬ ObMay K L S l) : obE K L S l = 8 := if_neg h
theorem obB_yes {K L S : Int} {l : List Pt} (h : ObMay K L S l) : obB K L S l = blockL (byteOf K) (byteOf L) S l := if_pos h
theorem obB_no {K L S : Int} {l : List Pt} (h : ¬ ObMay K L S l) : obB K L S l = [] := if_neg h
theorem obB_len {K L S : Int} {l : List Pt} (h : ObMay K L S l) : (obB K L S l).length = 256 := by rw [obB_yes h, blockL_len _ _ _ h.2.2.2.1]
theorem obj_write (K L S : Int) (A : Option Addr) (n c : Nat) (l : List Pt) (w : World) (hl : l.length = n) (hU : AllU l) (hr : Rd w w.heap.size 5 A n (pcs l)) (hK8 : 0 ≤ K ∧ K ≤ 255) (B : List UInt8) (E : Int) (m : Nat) (hB : obB K L S l = B) (hE : obE K L S l = E) (hm : B.length = m) :
    Calls Try.prog 38 #[.agg #[.int .u8 K, .int .i64 L, .int .i64 S, .slice A n c]] w fun e w' => ∃ D d, e = .returned (.tuple #[.slice D m d, .int .i64 E]) ∧ Fr w' w.heap.size 5 1 D m d (bvs B) ∧ Below w.heap.size w w' := by
  subst hB hE hm
  by_cases h : ObMay K L S l
  · rw [obB_len h, obB_yes h, obE_yes h]
    obtain rfl : n = 15 := by rw [← hl]; exact h.2.2.2.1
    have e1 := byteOf_toNat hK8.1 hK8.2
    have e2 := byteOf_toNat h.2.1.1 h.2.1.2
    have hw := obj_write_ok (byteOf K) (byteOf L) S A c l w hl hU hr (by rw [e1, e2]; exact h)
    rw [e1, e2] at hw
    refine hw.mono ?_
    rintro e w' ⟨g, d, rfl, hf, hb⟩
    exact ⟨_, _, rfl, hf, hb⟩
  · rw [obB_no h, obE_no h]
    refine (obj_write_bad K L S A n c l w hl hr hK8 h).mono ?_
    rintro e w' ⟨rfl, hb⟩
    exact ⟨none, 0, rfl, Fr.none_, hb⟩
end Go.Proofs.Ytgcagenhfddpgaa
