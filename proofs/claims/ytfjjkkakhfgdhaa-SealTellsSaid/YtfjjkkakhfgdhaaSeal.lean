/-
  Contracts of package seal.
-/
import Derived.Test.YtfjjkkakhfgdhaaTurnC
namespace Go.Proofs.Ytfjjkkakhfgdhaa
open Go.RowKit
set_option linter.unusedVariables false
set_option linter.unusedSimpArgs false
set_option maxRecDepth 100000

theorem two_cat (w : World) (a b : Sl) (ha : a.ok w) (hb : b.ok w) :
    Calls Try.prog 53 #[.slice (some ⟨w.heap.size, 0, none⟩) 2 2] (w.alloc (.cells #[a.v, b.v] 28)) fun e w' => ∃ D d, e = .returned (.slice D (joinS [a, b]).length d) ∧ Fr w' (w.heap.size + 1) 5 1 D (joinS [a, b]).length d (bvs (joinS [a, b])) ∧ Below (w.heap.size + 1) (w.alloc (.cells #[a.v, b.v] 28)) w' := by
  have hr : Rd (w.alloc (.cells #[a.v, b.v] 28)) (w.alloc (.cells #[a.v, b.v] 28)).heap.size 1 (some ⟨w.heap.size, 0, none⟩) 2 [a.v, b.v] := Rd.ofRow (cs := [a.v, b.v]) (heap_alloc_new w _) rfl
  have h := m_concat (some ⟨w.heap.size, 0, none⟩) 2 2 [a, b] _ rfl (by decide) hr (by
    intro s hs
    have hn := below_new w (.cells #[a.v, b.v] 28)
    simp only [List.mem_cons, List.not_mem_nil, or_false] at hs
    rcases hs with rfl | rfl
    · exact ha.below hn
    · exact hb.below hn)
  rw [World.size_alloc] at h
  exact h

def tagS (k : List UInt8) (iv : Nat) (b : List UInt8) : Wd := tagOf k (le 4 iv ++ b)

theorem s_turned_k (A : Option Addr) (m c : Nat) (iv : Nat) (B : Option Addr) (n d : Nat) (w : World) (h1 : ((m : Int) == 16) = false) (h1' : ((m : Int) != 16) = true) :
    Calls Try.prog 60 #[.slice A m c, .int .u32 (iv : Int), .slice B n d] w fun e w' => e = .returned (.tuple #[.slice none 0 0, .int .i64 2]) ∧ w = w' := by
  go_enter Try.func60, Try.ntmps60
  go_wp2_with fail
  refine (c_turn_k A m c iv B n d w h1').mono ?_
  rintro e w1 ⟨rfl, rfl⟩
  go_wp2
  go_ret2
  exact ⟨rfl, rfl⟩
theorem s_turned_h (A : Option Addr) (c : Nat) (iv : Nat) (B : Option Addr) (n d : Nat) (w : World) (h2 : 256 < (n : Int)) :
    Calls Try.prog 60 #[.slice A 16 c, .int .u32 (iv : Int), .slice B n d] w fun e w' => e = .returned (.tuple #[.slice none 0 0, .int .i64 3]) ∧ w = w' := by
  go_enter Try.func60, Try.ntmps60
  go_wp2
  go_ret2
  exact ⟨rfl, rfl⟩
theorem s_turned (A : Option Addr) (c : Nat) (k : List UInt8) (iv : Nat) (hiv : (iv : Int) < 4294967296) (B : Option Addr) (n d : Nat) (b : List UInt8) (w : World) (hk : k.length = 16) (hrk : Rd w w.heap.size 1 A 16 (bvs k))
    (hb : b.length = n) (hn : (n : Int) ≤ 256) (hrb : Rd w w.heap.size 1 B n (bvs b)) :
    Calls Try.prog 60 #[.slice A 16 c, .int .u32 (iv : Int), .slice B n d] w fun e w' => ∃ D d', e = .returned (.tuple #[.slice D n d', .int .i64 0]) ∧ Fr w' w.heap.size 5 1 D n d' (bvs (turnL k iv b)) ∧ Below w.heap.size w w' := by
  have hc := c_turn A c k iv hiv B n d b w hk hrk hb (by omega) hrb
  have HC := Lib.hid hc
  have h1 : decide (256 < (n : Int)) = false := by simp; omega
  clear hc hrk hrb hn hiv
  go_enter Try.func60, Try.ntmps60
  go_wp2_with fail
  refine HC.out.mono ?_
  rintro e w1 ⟨D, d1, rfl, f1, b1⟩
  go_wp2
  go_ret2
  exact ⟨_, _, rfl, f1, b1⟩

theorem s_tagged (A : Option Addr) (c : Nat) (k : List UInt8) (iv : Nat) (hiv : (iv : Int) < 4294967296) (B : Option Addr) (n d : Nat) (b : List UInt8) (w : World) (hk : k.length = 16) (hrk : Rd w w.heap.size 1 A 16 (bvs k))
    (hb : b.length = n) (hn : (n : Int) ≤ 100000) (hrb : Rd w w.heap.size 1 B n (bvs b)) :
    Calls Try.prog 61 #[.slice A 16 c, .int .u32 (iv : Int), .slice B n d] w fun e w' => e = .returned (.tuple #[.int .u32 (wi (tagS k iv b)), .int .i64 0]) ∧ Below w.heap.size w w' := by
  have HRK := Lib.hid hrk
  have HRB := Lib.hid hrb
  have HN := Lib.hid hn
  clear hrk hrb hn
  go_enter Try.func61, Try.ntmps61
  go_wp2_with fail
  refine (put_ok4 (iv : Int) w (by omega) hiv).mono ?_
  rintro e w1 ⟨A1, c1, rfl, f1, b1⟩
  rw [Int.toNat_natCast] at f1
  go_wp2_with fail
  have okA : Sl.ok ⟨A1, 4, c1, le 4 iv⟩ w1 := ⟨le_len 4 iv, (by decide : 4 ≤ 1000000), f1.rd⟩
  have okB : Sl.ok ⟨B, n, d, b⟩ w1 := ⟨hb, by show n ≤ 1000000; have := HN.out; omega, (HRB.out.below b1).more b1.size⟩
  refine (two_cat w1 ⟨A1, 4, c1, le 4 iv⟩ ⟨B, n, d, b⟩ okA okB).mono ?_
  rintro e w2 ⟨D, d2, rfl, f2, b2⟩
  have hj : joinS [⟨A1, 4, c1, le 4 iv⟩, ⟨B, n, d, b⟩] = le 4 iv ++ b := by simp [joinS]
  rw [hj] at f2 ⊢
  have B2 : Below w.heap.size w w2 := (b1.alloc b1.size _).trans (b2.mono (by have := b1.size; omega))
  have hl : (le 4 iv ++ b).length = 4 + n := by rw [List.length_append, le_len, hb]
  have r2 := f2.rd
  have HT := m_tag A c k D _ d2 (le 4 iv ++ b) w2 hk ((HRK.out.below B2).more B2.size) rfl (by rw [hl]; have := HN.out; omega) r2
  have HTT := Lib.hid HT
  clear HT f2 b2 b1 f1 okA okB hj r2
  rw [hl] at HTT ⊢
  go_wp2_with fail
  refine HTT.out.mono ?_
  rintro e w3 ⟨rfl, b3⟩
  go_wp2
  go_ret2
  exact ⟨rfl, below_to B2 b3 B2.size⟩

theorem s_seal_k (A : Option Addr) (m c : Nat) (iv : Nat) (B : Option Addr) (n d : Nat) (w : World)
    (h1 : ((m : Int) == 16) = false) (h1' : ((m : Int) != 16) = true)
    : Calls Try.prog 40 #[.slice A m c, .int .u32 (iv : Int), .slice B n d] w fun e w' => e = .returned (.tuple #[.slice none 0 0, .int .u32 0, .int .i64 2]) ∧ w = w' := by
  go_enter Try.func40, Try.ntmps40
  go_wp2_with fail
  refine (s_turned_k A m c iv B n d w h1 h1').mono ?_
  rintro e w1 ⟨rfl, rfl⟩
  go_wp2
  exact bodyPost_ret (v := .tuple #[.slice none 0 0, .int .u32 0, .int .i64 2]) (by simp [results, Try.results40, go_sem]) rfl ⟨rfl, rfl⟩
theorem s_open_k (A : Option Addr) (m c : Nat) (iv : Nat) (B : Option Addr) (n d : Nat) (t : Int) (w : World)
    (h1 : ((m : Int) == 16) = false) (h1' : ((m : Int) != 16) = true)
    : Calls Try.prog 41 #[.slice A m c, .int .u32 (iv : Int), .slice B n d, .int .u32 t] w fun e w' => e = .returned (.tuple #[.slice none 0 0, .int .i64 2]) ∧ w = w' := by
  go_enter Try.func41, Try.ntmps41
  go_wp2_with fail
  refine (s_turned_k A m c iv B n d w h1 h1').mono ?_
  rintro e w1 ⟨rfl, rfl⟩
  go_wp2
  go_ret2
  exact ⟨rfl, rfl⟩
theorem s_seal_h (A : Option Addr) (m c : Nat) (iv : Nat) (B : Option Addr) (n d : Nat) (w : World)
    (h1 : m = 16) (h2 : 256 < (n : Int))
    : Calls Try.prog 40 #[.slice A m c, .int .u32 (iv : Int), .slice B n d] w fun e w' => e = .returned (.tuple #[.slice none 0 0, .int .u32 0, .int .i64 3]) ∧ w = w' := by
  subst h1
  go_enter Try.func40, Try.ntmps40
  go_wp2_with fail
  refine (s_turned_h A c iv B n d w h2).mono ?_
  rintro e w1 ⟨rfl, rfl⟩
  go_wp2
  exact bodyPost_ret (v := .tuple #[.slice none 0 0, .int .u32 0, .int .i64 3]) (by simp [results, Try.results40, go_sem]) rfl ⟨rfl, rfl⟩
theorem s_open_h (A : Option Addr) (m c : Nat) (iv : Nat) (B : Option Addr) (n d : Nat) (t : Int) (w : World)
    (h1 : m = 16) (h2 : 256 < (n : Int))
    : Calls Try.prog 41 #[.slice A m c, .int .u32 (iv : Int), .slice B n d, .int .u32 t] w fun e w' => e = .returned (.tuple #[.slice none 0 0, .int .i64 3]) ∧ w = w' := by
  subst h1
  go_enter Try.func41, Try.ntmps41
  go_wp2_with fail
  refine (s_turned_h A c iv B n d w h2).mono ?_
  rintro e w1 ⟨rfl, rfl⟩
  go_wp2
  go_ret2
  exact ⟨rfl, rfl⟩

theorem s_seal (A : Option Addr) (c : Nat) (k : List UInt8) (iv : Nat) (hiv : (iv : Int) < 4294967296) (B : Option Addr) (n d : Nat) (b : List UInt8) (w : World) (hk : k.length = 16) (hrk : Rd w w.heap.size 1 A 16 (bvs k))
    (hb : b.length = n) (hn : (n : Int) ≤ 256) (hrb : Rd w w.heap.size 1 B n (bvs b)) :
    Calls Try.prog 40 #[.slice A 16 c, .int .u32 (iv : Int), .slice B n d] w fun e w' => ∃ D d', e = .returned (.tuple #[.slice D n d', .int .u32 (wi (tagS k iv (turnL k iv b))), .int .i64 0]) ∧ Fr w' w.heap.size 5 1 D n d' (bvs (turnL k iv b)) ∧ Below w.heap.size w w' := by
  have hc := s_turned A c k iv hiv B n d b w hk hrk hb hn hrb
  have htl : (turnL k iv b).length = n := by rw [turnL_len, hb]
  have hT := fun (D : Option Addr) (e : Nat) W (h : Below w.heap.size w W) hr => s_tagged A c k iv hiv D n e (turnL k iv b) W hk ((hrk.below h).more h.size) htl (by omega) hr
  have HC := Lib.hid hc
  have HT := Lib.hid hT
  clear hc hT hrk hrb hn hiv htl
  generalize turnL k iv b = x at *
  go_enter Try.func40, Try.ntmps40
  go_wp2_with fail
  refine HC.out.mono ?_
  rintro e w1 ⟨D, d1, rfl, f1, b1⟩
  go_wp2_with fail
  refine (HT.out D d1 w1 b1 f1.rd).mono ?_
  rintro e w2 ⟨rfl, b2⟩
  have f2 := f1.below b2 (Nat.le_refl _)
  go_wp2
  exact bodyPost_ret (v := .tuple #[.slice D n d1, .int .u32 (wi (tagS k iv x)), .int .i64 0]) (by simp [results, Try.results40, go_sem]) rfl ⟨_, _, rfl, f2, below_to b1 b2 b1.size⟩

theorem s_open_ok (A : Option Addr) (c : Nat) (k : List UInt8) (iv : Nat) (hiv : (iv : Int) < 4294967296) (B : Option Addr) (n d : Nat) (b : List UInt8) (t : Int) (w : World) (hk : k.length = 16) (hrk : Rd w w.heap.size 1 A 16 (bvs k))
    (hb : b.length = n) (hn : (n : Int) ≤ 256) (hrb : Rd w w.heap.size 1 B n (bvs b))
    (ht : wi (tagS k iv b) = t)
    : Calls Try.prog 41 #[.slice A 16 c, .int .u32 (iv : Int), .slice B n d, .int .u32 t] w fun e w' =>
      ∃ D d', e = .returned (.tuple #[.slice D n d', .int .i64 0]) ∧ Fr w' w.heap.size 5 1 D n d' (bvs (turnL k iv b)) ∧ Below w.heap.size w w' := by
  have hc := s_turned A c k iv hiv B n d b w hk hrk hb hn hrb
  have hT := fun W (h : Below w.heap.size w W) => s_tagged A c k iv hiv B n d b W hk ((hrk.below h).more h.size) hb (by omega) ((hrb.below h).more h.size)
  rw [ht] at hT
  have HC := Lib.hid hc
  have HT := Lib.hid hT
  clear hc hT hrk hrb hn hiv
  clear ht
  go_enter Try.func41, Try.ntmps41
  go_wp2_with fail
  refine HC.out.mono ?_
  rintro e w1 ⟨D, d1, rfl, f1, b1⟩
  go_wp2_with fail
  refine (HT.out w1 b1).mono ?_
  rintro e w2 ⟨rfl, b2⟩
  have f2 := f1.below b2 (Nat.le_refl _)
  have B2 := below_to b1 b2 b1.size
  clear f1 b1 b2
  go_wp2
  go_ret2
  exact ⟨_, _, rfl, f2, B2⟩
theorem s_open_no (A : Option Addr) (c : Nat) (k : List UInt8) (iv : Nat) (hiv : (iv : Int) < 4294967296) (B : Option Addr) (n d : Nat) (b : List UInt8) (t : Int) (w : World) (hk : k.length = 16) (hrk : Rd w w.heap.size 1 A 16 (bvs k))
    (hb : b.length = n) (hn : (n : Int) ≤ 256) (hrb : Rd w w.heap.size 1 B n (bvs b))
    (ht : (wi (tagS k iv b) != t) = true)
    : Calls Try.prog 41 #[.slice A 16 c, .int .u32 (iv : Int), .slice B n d, .int .u32 t] w fun e w' =>
      e = .returned (.tuple #[.slice none 0 0, .int .i64 131]) ∧ Below w.heap.size w w' := by
  have hc := s_turned A c k iv hiv B n d b w hk hrk hb hn hrb
  have hT := fun W (h : Below w.heap.size w W) => s_tagged A c k iv hiv B n d b W hk ((hrk.below h).more h.size) hb (by omega) ((hrb.below h).more h.size)
  have HC := Lib.hid hc
  have HT := Lib.hid hT
  clear hc hT hrk hrb hn hiv
  generalize wi (tagS k iv b) = t' at *
  go_enter Try.func41, Try.ntmps41
  go_wp2_with fail
  refine HC.out.mono ?_
  rintro e w1 ⟨D, d1, rfl, f1, b1⟩
  go_wp2_with fail
  refine (HT.out w1 b1).mono ?_
  rintro e w2 ⟨rfl, b2⟩
  have f2 := f1.below b2 (Nat.le_refl _)
  have B2 := below_to b1 b2 b1.size
  clear f1 b1 b2
  go_wp2
  go_ret2
  exact ⟨rfl, B2⟩
end Go.Proofs.Ytfjjkkakhfgdhaa
