/-
  Contracts of package obj: Check.
-/
import Derived.Test.YtgcagenhfddpgaaPtrR
namespace Go.Proofs.Ytgcagenhfddpgaa
open Go.RowKit
set_option linter.unusedVariables false
set_option maxRecDepth 100000

/-- May an object be? -/
def ObMay (K L S : Int) (l : List Pt) : Prop := (1 ≤ K ∧ K ≤ 7) ∧ (0 ≤ L ∧ L ≤ 255) ∧ (0 ≤ S ∧ S ≤ 3840) ∧ l.length = 15 ∧ AllMay l
instance (K L S : Int) (l : List Pt) : Decidable (ObMay K L S l) := by unfold ObMay; infer_instance
def obE (K L S : Int) (l : List Pt) : Int := if ObMay K L S l then 0 else 8

theorem within_yes (n a b : Int) (w : World) (h1 : a ≤ n) (h2 : n ≤ b) : Calls Try.prog 52 #[.int .i64 n, .int .i64 a, .int .i64 b] w fun e w' => e = .returned (.bool true) ∧ w = w' := by
  go_enter Try.func52, Try.ntmps52
  go_wp2
  go_ret
  exact ⟨rfl, rfl⟩
theorem within_no (n a b : Int) (w : World) (h : ¬ (a ≤ n ∧ n ≤ b)) : Calls Try.prog 52 #[.int .i64 n, .int .i64 a, .int .i64 b] w fun e w' => e = .returned (.bool false) ∧ w = w' := by
  by_cases h1 : a ≤ n
  · have h2 : decide (n ≤ b) = false := by simp; omega
    clear h
    go_enter Try.func52, Try.ntmps52
    go_wp2
    go_ret
    exact ⟨rfl, rfl⟩
  · have h2 : decide (a ≤ n) = false := by simp; omega
    clear h h1
    go_enter Try.func52, Try.ntmps52
    go_wp2
    go_ret
    exact ⟨rfl, rfl⟩
theorem wrong_ok (p : Pt) (w : World)
    (h : p.May)
    : Calls Try.prog 53 #[.agg #[.int .i64 p.a, .int .u32 p.b, .int .u32 p.i, .int .u32 p.t, .int .u32 p.s]] w fun e w' => e = .returned (.bool false) ∧ Below w.heap.size w w' := by
  have hc := fun W => ptr_checkX p 0 (Pt.chk_zero h) W
  have HC := Lib.hid hc
  clear h hc
  obtain ⟨d0, d1, d2, d3, d4⟩ := (PtBox.new w p).cells
  have hb := below_new w (.cells #[.int .i64 p.a, .int .u32 p.b, .int .u32 p.i, .int .u32 p.t, .int .u32 p.s] 31)
  have HB := Lib.hid hb
  clear hb
  go_enter Try.func53, Try.ntmps53
  go_wp2_with fail
  refine (HC.out _).mono ?_
  rintro e w1 ⟨rfl, b1⟩
  go_wp2
  go_ret
  exact ⟨rfl, below_to HB.out b1 HB.out.size⟩
theorem wrong_bad (p : Pt) (w : World)
    (h : ¬ p.May)
    : Calls Try.prog 53 #[.agg #[.int .i64 p.a, .int .u32 p.b, .int .u32 p.i, .int .u32 p.t, .int .u32 p.s]] w fun e w' => e = .returned (.bool true) ∧ Below w.heap.size w w' := by
  have hc := fun W => ptr_checkX p 8 (Pt.chk_bad h) W
  have HC := Lib.hid hc
  clear h hc
  obtain ⟨d0, d1, d2, d3, d4⟩ := (PtBox.new w p).cells
  have hb := below_new w (.cells #[.int .i64 p.a, .int .u32 p.b, .int .u32 p.i, .int .u32 p.t, .int .u32 p.s] 31)
  have HB := Lib.hid hb
  clear hb
  go_enter Try.func53, Try.ntmps53
  go_wp2_with fail
  refine (HC.out _).mono ?_
  rintro e w1 ⟨rfl, b1⟩
  go_wp2
  go_ret
  exact ⟨rfl, below_to HB.out b1 HB.out.size⟩

def IxRel (l : List Pt) (w : World) (x : Value) (wr : World) : Prop := ∃ k : Nat, k ≤ l.length ∧ x = .int .i64 (k : Int) ∧ AllMay (l.take k) ∧ Below w.heap.size w wr
theorem allMay_step {l : List Pt} {k : Nat} (hk : k < l.length) (h : AllMay (l.take k)) (hm : (l[k]).May) : AllMay (l.take (k + 1)) := by
  rw [List.take_succ_eq_append_getElem hk]
  intro p hp
  rcases List.mem_append.1 hp with hp | hp
  · exact h p hp
  · rw [List.mem_singleton.1 hp]; exact hm
theorem index_wrong (A : Option Addr) (n c : Nat) (l : List Pt) (w : World) (hl : l.length = n) (hn : (n : Int) ≤ 1000000) (hr : Rd w w.heap.size 5 A n (pcs l)) :
    Calls Try.prog 64 #[.slice A n c, .func (.func 53) #[] #[]] w fun e w' => ((AllMay l ∧ e = .returned (.int .i64 (-1))) ∨ (¬ AllMay l ∧ ∃ k : Nat, (k : Int) ≤ 1000000 ∧ e = .returned (.int .i64 (k : Int)))) ∧ Below w.heap.size w w' := by
  go_enter Try.func64, Try.ntmps64
  go_wp2
  go_loopw [8] (fun x wr => IxRel l w x wr) (fun x _ => n - (intOf x).toNat)
  case atStart => exact ⟨0, Nat.zero_le _, rfl, (by intro p hp; cases hp), Below.refl _ _⟩
  case round =>
    obtain ⟨k, hk, rfl, hm, hb⟩ := hrel
    by_cases hlt : k < n
    · have hkl : k < l.length := by omega
      obtain ⟨b, off, rfl, hbb, c0, c1, c2, c3, c4⟩ := (hr.below hb).at5 hlt hl
      have hst := allMay_step hkl hm
      have hbad : ¬ (l[k]).May → ¬ AllMay l := fun h hh => h (hh _ (List.getElem_mem hkl))
      have h0 : ¬ ((k : Int) < 0) := by omega
      have h1 : (k : Int) < (n : Int) := by omega
      have HS := Lib.hid hst
      have HD := Lib.hid hbad
      have HB := Lib.hid hb
      clear hst hbad hm hb hr hbb
      generalize l[k] = p at *
      by_cases hpm : p.May
      · have hW := fun W => wrong_ok p W hpm
        have HM := Lib.hid (HS.out hpm)
        have HW := Lib.hid hW
        clear hW hpm
        go_wp2_with fail
        refine (HW.out _).mono ?_
        rintro e w3 ⟨rfl, b3⟩
        go_wp2
        go_roundw
        case rel => exact ⟨k + 1, by omega, rfl, HM.out, below_to HB.out b3 HB.out.size⟩
        case measure => simp [intOf]; omega
      · have hW := fun W => wrong_bad p W hpm
        have HM := Lib.hid (HD.out hpm)
        have HW := Lib.hid hW
        clear hW hpm
        go_wp2_with fail
        refine (HW.out _).mono ?_
        rintro e w3 ⟨rfl, b3⟩
        go_wp2
        go_ret
        exact ⟨.inr ⟨HM.out, k, by omega, rfl⟩, below_to HB.out b3 HB.out.size⟩
    · obtain rfl : k = n := by omega
      rw [List.take_of_length_le (by omega)] at hm
      go_wp2
      go_ret
      exact ⟨.inl ⟨hm, rfl⟩, hb⟩
theorem contains_wrong (A : Option Addr) (n c : Nat) (l : List Pt) (w : World) (hl : l.length = n) (hn : (n : Int) ≤ 1000000) (hr : Rd w w.heap.size 5 A n (pcs l)) (v : Bool) (hv : v = decide (¬ AllMay l)) :
    Calls Try.prog 54 #[.slice A n c, .func (.func 53) #[] #[]] w fun e w' => e = .returned (.bool v) ∧ Below w.heap.size w w' := by
  go_enter Try.func54, Try.ntmps54
  go_wp2_with fail
  refine (index_wrong A n c l w hl hn hr).mono ?_
  rintro e w1 ⟨⟨hm, rfl⟩ | ⟨hm, k, hk, rfl⟩, b1⟩
  · obtain rfl : v = false := by rw [hv]; simp [hm]
    clear hv
    go_wp2
    go_ret
    exact ⟨rfl, b1⟩
  · obtain rfl : v = true := by rw [hv]; simp [hm]
    clear hv
    have hk0 : (0 : Int) ≤ (k : Int) := by omega
    go_wp2
    go_ret
    exact ⟨rfl, b1⟩

/-- A box of an object. -/
def ObBox (w : World) (g : Nat) (K L S : Int) (D : Value) : Prop := w.heap[g]? = some (.cells #[.int .u8 K, .int .i64 L, .int .i64 S, D] 50 (0, 0))
section
variable {w w' : World} {g : Nat} {K L S : Int} {D : Value}
theorem ObBox.new (w : World) (K L S : Int) (D : Value) : ObBox (w.alloc (.cells #[.int .u8 K, .int .i64 L, .int .i64 S, D] 50)) w.heap.size K L S D := heap_alloc_new w _
theorem ObBox.lt (h : ObBox w g K L S D) : g < w.heap.size := (Array.getElem?_eq_some_iff.1 h).1
theorem ObBox.alloc (h : ObBox w g K L S D) (o : Obj) : ObBox (w.alloc o) g K L S D := (Below.heap_alloc w o g h.lt).trans h
theorem ObBox.below {H : Nat} (h : ObBox w g K L S D) (hb : Below H w w') (hg : g < H) : ObBox w' g K L S D := (hb.block g hg).trans h
theorem ObBox.cells (h : ObBox w g K L S D) : w.cell? ⟨g, 0, none⟩ = some (.int .u8 K) ∧ w.cell? ⟨g, 1, none⟩ = some (.int .i64 L) ∧ w.cell? ⟨g, 2, none⟩ = some (.int .i64 S) ∧ w.cell? ⟨g, 3, none⟩ = some D := by
  unfold ObBox at h
  simp [World.cell?, h]
theorem ObBox.frozen (h : ObBox w g K L S D) : ∀ i, w.frozen? ⟨g, i, none⟩ = false := by
  intro i
  unfold ObBox at h
  simp [World.frozen?, h]
end

theorem obj_check_k (K L S : Int) (A : Option Addr) (n c : Nat) (l : List Pt) (w : World) (hl : l.length = n) (hr : Rd w w.heap.size 5 A n (pcs l)) (hK8 : 0 ≤ K ∧ K ≤ 255)
    (h1 : ¬ (1 ≤ K ∧ K ≤ 7))
    : Calls Try.prog 30 #[.agg #[.int .u8 K, .int .i64 L, .int .i64 S, .slice A n c]] w fun e w' =>
      e = .returned (.int .i64 8) ∧ Below w.heap.size w w' := by
  obtain ⟨d0, d1, d2, d3⟩ := (ObBox.new w K L S (.slice A n c)).cells
  have hb := below_new w (.cells #[.int .u8 K, .int .i64 L, .int .i64 S, .slice A n c] 50)
  have HB := Lib.hid hb
  clear hb hr hl
  have hw1 := fun W => within_no K 1 7 W h1
  have HW1 := Lib.hid hw1
  clear hw1 h1
  go_enter Try.func30, Try.ntmps30
  go_wp2_with fail
  refine (HW1.out _).mono ?_
  rintro e w1 ⟨rfl, rfl⟩
  go_wp2
  go_ret
  exact ⟨rfl, HB.out⟩
theorem obj_check_l (K L S : Int) (A : Option Addr) (n c : Nat) (l : List Pt) (w : World) (hl : l.length = n) (hr : Rd w w.heap.size 5 A n (pcs l)) (hK8 : 0 ≤ K ∧ K ≤ 255)
    (h1 : 1 ≤ K ∧ K ≤ 7)
    (h2 : ¬ (0 ≤ L ∧ L ≤ 255))
    : Calls Try.prog 30 #[.agg #[.int .u8 K, .int .i64 L, .int .i64 S, .slice A n c]] w fun e w' =>
      e = .returned (.int .i64 8) ∧ Below w.heap.size w w' := by
  obtain ⟨d0, d1, d2, d3⟩ := (ObBox.new w K L S (.slice A n c)).cells
  have hb := below_new w (.cells #[.int .u8 K, .int .i64 L, .int .i64 S, .slice A n c] 50)
  have HB := Lib.hid hb
  clear hb hr hl
  have hw1 := fun W => within_yes K 1 7 W h1.1 h1.2
  have hw2 := fun W => within_no L 0 255 W h2
  have HW1 := Lib.hid hw1
  clear hw1 h1
  have HW2 := Lib.hid hw2
  clear hw2 h2
  go_enter Try.func30, Try.ntmps30
  go_wp2_with fail
  refine (HW1.out _).mono ?_
  rintro e w1 ⟨rfl, rfl⟩
  go_wp2_with fail
  refine (HW2.out _).mono ?_
  rintro e w1 ⟨rfl, rfl⟩
  go_wp2
  go_ret
  exact ⟨rfl, HB.out⟩
theorem obj_check_s (K L S : Int) (A : Option Addr) (n c : Nat) (l : List Pt) (w : World) (hl : l.length = n) (hr : Rd w w.heap.size 5 A n (pcs l)) (hK8 : 0 ≤ K ∧ K ≤ 255)
    (h1 : 1 ≤ K ∧ K ≤ 7)
    (h2 : 0 ≤ L ∧ L ≤ 255)
    (h3 : ¬ (0 ≤ S ∧ S ≤ 3840))
    : Calls Try.prog 30 #[.agg #[.int .u8 K, .int .i64 L, .int .i64 S, .slice A n c]] w fun e w' =>
      e = .returned (.int .i64 8) ∧ Below w.heap.size w w' := by
  obtain ⟨d0, d1, d2, d3⟩ := (ObBox.new w K L S (.slice A n c)).cells
  have hb := below_new w (.cells #[.int .u8 K, .int .i64 L, .int .i64 S, .slice A n c] 50)
  have HB := Lib.hid hb
  clear hb hr hl
  have hw1 := fun W => within_yes K 1 7 W h1.1 h1.2
  have hw2 := fun W => within_yes L 0 255 W h2.1 h2.2
  have hw3 := fun W => within_no S 0 3840 W h3
  have HW1 := Lib.hid hw1
  clear hw1 h1
  have HW2 := Lib.hid hw2
  clear hw2 h2
  have HW3 := Lib.hid hw3
  clear hw3 h3
  go_enter Try.func30, Try.ntmps30
  go_wp2_with fail
  refine (HW1.out _).mono ?_
  rintro e w1 ⟨rfl, rfl⟩
  go_wp2_with fail
  refine (HW2.out _).mono ?_
  rintro e w1 ⟨rfl, rfl⟩
  go_wp2_with fail
  refine (HW3.out _).mono ?_
  rintro e w1 ⟨rfl, rfl⟩
  go_wp2
  go_ret
  exact ⟨rfl, HB.out⟩
theorem obj_check_n (K L S : Int) (A : Option Addr) (n c : Nat) (l : List Pt) (w : World) (hl : l.length = n) (hr : Rd w w.heap.size 5 A n (pcs l)) (hK8 : 0 ≤ K ∧ K ≤ 255)
    (h1 : 1 ≤ K ∧ K ≤ 7)
    (h2 : 0 ≤ L ∧ L ≤ 255)
    (h3 : 0 ≤ S ∧ S ≤ 3840)
    (h4 : ((n : Int) != 15) = true)
    : Calls Try.prog 30 #[.agg #[.int .u8 K, .int .i64 L, .int .i64 S, .slice A n c]] w fun e w' =>
      e = .returned (.int .i64 8) ∧ Below w.heap.size w w' := by
  obtain ⟨d0, d1, d2, d3⟩ := (ObBox.new w K L S (.slice A n c)).cells
  have hb := below_new w (.cells #[.int .u8 K, .int .i64 L, .int .i64 S, .slice A n c] 50)
  have HB := Lib.hid hb
  clear hb hr hl
  have hw1 := fun W => within_yes K 1 7 W h1.1 h1.2
  have hw2 := fun W => within_yes L 0 255 W h2.1 h2.2
  have hw3 := fun W => within_yes S 0 3840 W h3.1 h3.2
  have HW1 := Lib.hid hw1
  clear hw1 h1
  have HW2 := Lib.hid hw2
  clear hw2 h2
  have HW3 := Lib.hid hw3
  clear hw3 h3
  go_enter Try.func30, Try.ntmps30
  go_wp2_with fail
  refine (HW1.out _).mono ?_
  rintro e w1 ⟨rfl, rfl⟩
  go_wp2_with fail
  refine (HW2.out _).mono ?_
  rintro e w1 ⟨rfl, rfl⟩
  go_wp2_with fail
  refine (HW3.out _).mono ?_
  rintro e w1 ⟨rfl, rfl⟩
  go_wp2
  go_ret
  exact ⟨rfl, HB.out⟩
theorem obj_check_p (K L S : Int) (A : Option Addr) (n c : Nat) (l : List Pt) (w : World) (hl : l.length = n) (hr : Rd w w.heap.size 5 A n (pcs l)) (hK8 : 0 ≤ K ∧ K ≤ 255)
    (h1 : 1 ≤ K ∧ K ≤ 7)
    (h2 : 0 ≤ L ∧ L ≤ 255)
    (h3 : 0 ≤ S ∧ S ≤ 3840)
    (h4 : n = 15)
    (h5 : ¬ AllMay l)
    : Calls Try.prog 30 #[.agg #[.int .u8 K, .int .i64 L, .int .i64 S, .slice A n c]] w fun e w' =>
      e = .returned (.int .i64 8) ∧ Below w.heap.size w w' := by
  subst h4
  have hcf := fun W (h : Below w.heap.size w W) => contains_wrong A 15 c l W hl (by omega) ((hr.below h).more h.size) true (by simp [h5])
  have HCF := Lib.hid hcf
  clear hcf h5
  obtain ⟨d0, d1, d2, d3⟩ := (ObBox.new w K L S (.slice A 15 c)).cells
  have hb := below_new w (.cells #[.int .u8 K, .int .i64 L, .int .i64 S, .slice A 15 c] 50)
  have HB := Lib.hid hb
  clear hb hr hl
  have hw1 := fun W => within_yes K 1 7 W h1.1 h1.2
  have hw2 := fun W => within_yes L 0 255 W h2.1 h2.2
  have hw3 := fun W => within_yes S 0 3840 W h3.1 h3.2
  have HW1 := Lib.hid hw1
  clear hw1 h1
  have HW2 := Lib.hid hw2
  clear hw2 h2
  have HW3 := Lib.hid hw3
  clear hw3 h3
  go_enter Try.func30, Try.ntmps30
  go_wp2_with fail
  refine (HW1.out _).mono ?_
  rintro e w1 ⟨rfl, rfl⟩
  go_wp2_with fail
  refine (HW2.out _).mono ?_
  rintro e w1 ⟨rfl, rfl⟩
  go_wp2_with fail
  refine (HW3.out _).mono ?_
  rintro e w1 ⟨rfl, rfl⟩
  go_wp2_with fail
  refine (HCF.out _ HB.out).mono ?_
  rintro e w1 ⟨rfl, b1⟩
  go_wp2
  go_ret
  exact ⟨rfl, below_to HB.out b1 HB.out.size⟩
theorem obj_check_ok (K L S : Int) (A : Option Addr) (n c : Nat) (l : List Pt) (w : World) (hl : l.length = n) (hr : Rd w w.heap.size 5 A n (pcs l)) (hK8 : 0 ≤ K ∧ K ≤ 255)
    (h1 : 1 ≤ K ∧ K ≤ 7)
    (h2 : 0 ≤ L ∧ L ≤ 255)
    (h3 : 0 ≤ S ∧ S ≤ 3840)
    (h4 : n = 15)
    (h5 : AllMay l)
    : Calls Try.prog 30 #[.agg #[.int .u8 K, .int .i64 L, .int .i64 S, .slice A n c]] w fun e w' =>
      e = .returned (.int .i64 0) ∧ Below w.heap.size w w' := by
  subst h4
  have hcf := fun W (h : Below w.heap.size w W) => contains_wrong A 15 c l W hl (by omega) ((hr.below h).more h.size) false (by simp [h5])
  have HCF := Lib.hid hcf
  clear hcf h5
  obtain ⟨d0, d1, d2, d3⟩ := (ObBox.new w K L S (.slice A 15 c)).cells
  have hb := below_new w (.cells #[.int .u8 K, .int .i64 L, .int .i64 S, .slice A 15 c] 50)
  have HB := Lib.hid hb
  clear hb hr hl
  have hw1 := fun W => within_yes K 1 7 W h1.1 h1.2
  have hw2 := fun W => within_yes L 0 255 W h2.1 h2.2
  have hw3 := fun W => within_yes S 0 3840 W h3.1 h3.2
  have HW1 := Lib.hid hw1
  clear hw1 h1
  have HW2 := Lib.hid hw2
  clear hw2 h2
  have HW3 := Lib.hid hw3
  clear hw3 h3
  go_enter Try.func30, Try.ntmps30
  go_wp2_with fail
  refine (HW1.out _).mono ?_
  rintro e w1 ⟨rfl, rfl⟩
  go_wp2_with fail
  refine (HW2.out _).mono ?_
  rintro e w1 ⟨rfl, rfl⟩
  go_wp2_with fail
  refine (HW3.out _).mono ?_
  rintro e w1 ⟨rfl, rfl⟩
  go_wp2_with fail
  refine (HCF.out _ HB.out).mono ?_
  rintro e w1 ⟨rfl, b1⟩
  go_wp2
  go_ret
  exact ⟨rfl, below_to HB.out b1 HB.out.size⟩
theorem obj_check (K L S : Int) (A : Option Addr) (n c : Nat) (l : List Pt) (w : World) (hl : l.length = n) (hr : Rd w w.heap.size 5 A n (pcs l)) (hK8 : 0 ≤ K ∧ K ≤ 255) (E : Int) (hE : obE K L S l = E) :
    Calls Try.prog 30 #[.agg #[.int .u8 K, .int .i64 L, .int .i64 S, .slice A n c]] w fun e w' => e = .returned (.int .i64 E) ∧ Below w.heap.size w w' := by
  subst hE
  by_cases h1 : 1 ≤ K ∧ K ≤ 7
  · by_cases h2 : 0 ≤ L ∧ L ≤ 255
    · by_cases h3 : 0 ≤ S ∧ S ≤ 3840
      · by_cases h4 : n = 15
        · by_cases h5 : AllMay l
          · rw [show obE K L S l = 0 from if_pos ⟨h1, h2, h3, by omega, h5⟩]
            exact obj_check_ok K L S A n c l w hl hr hK8 h1 h2 h3 h4 h5
          · rw [show obE K L S l = 8 from if_neg (fun h => h5 h.2.2.2.2)]
            exact obj_check_p K L S A n c l w hl hr hK8 h1 h2 h3 h4 h5
        · rw [show obE K L S l = 8 from if_neg (fun h => h4 (by have := h.2.2.2.1; omega))]
          exact obj_check_n K L S A n c l w hl hr hK8 h1 h2 h3 (by simp; omega)
      · rw [show obE K L S l = 8 from if_neg (fun h => h3 h.2.2.1)]
        exact obj_check_s K L S A n c l w hl hr hK8 h1 h2 h3
    · rw [show obE K L S l = 8 from if_neg (fun h => h2 h.2.1)]
      exact obj_check_l K L S A n c l w hl hr hK8 h1 h2
  · rw [show obE K L S l = 8 from if_neg (fun h => h1 h.1)]
    exact obj_check_k K L S A n c l w hl hr hK8 h1
end Go.Proofs.Ytgcagenhfddpgaa
