/-
  charterhouseref06: contracts of Tag, asked, Seal, Open.
-/
import Derived.Test.YtfjjkkakhfgdhaaRef05
import Derived.Test.YtfjjkkakhfgdhaaRef03
import Derived.Test.YtfjjkkakhfgdhaaSeal
namespace Go.Proofs.Ytfjjkkakhfgdhaa
open Go.RowKit
set_option linter.unusedVariables false
set_option linter.unusedSimpArgs false
set_option maxRecDepth 100000

theorem r_tag (A : Option Addr) (c : Nat) (k : List UInt8) (iv : Nat) (hiv : (iv : Int) < 4294967296) (B : Option Addr) (n d : Nat) (b : List UInt8) (w : World) (hk : k.length = 16) (hrk : Rd w w.heap.size 1 A 16 (bvs k))
    (hb : b.length = n) (hn : (n : Int) ≤ 256) (hrb : Rd w w.heap.size 1 B n (bvs b)) :
    Calls Try.prog 63 #[.slice A 16 c, .int .u32 (iv : Int), .slice B n d] w fun e w' => e = .returned (.int .u32 (wi (tagS k iv b))) ∧ Below w.heap.size w w' := by
  have hby := ref_bytes (iv : Int) 4 w (by omega) (by omega) (by omega)
  rw [Int.toNat_natCast] at hby
  have hl : (le 4 iv ++ b).length = 4 + n := by rw [List.length_append, le_len, hb]
  have HBY := Lib.hid hby
  have HK := Lib.hid hrk
  have HR := Lib.hid hrb
  have HL := Lib.hid hl
  have HKL := Lib.hid hk
  clear hby hrk hrb hl hk hb
  rw [tagS]
  generalize hle : le 4 iv ++ b = x at *
  have HLE := Lib.hid hle
  clear hle
  go_enter Try.func63, Try.ntmps63
  go_wp2_with fail
  refine HBY.out.mono ?_
  rintro e w1 ⟨A1, rfl, f1, b1⟩
  have HF1 := Lib.hid f1
  have HB1 := Lib.hid b1
  clear f1 b1
  go_wp2_with (at_builtin; refine wpList_append_to rfl (.tmp 12) (.tmp 13) rfl okB rfl HF1.out rfl (HR.out.below HB1.out) (bvs_one _) (4 + n) rfl (bvs x) (by rw [← HLE.out, bvs_app]) (by unfold maxLen; omega) (by omega) HB1.out.size ?_; intro D2 d2 w2 f2 g2 _)
  have b2 := HB1.out.grown g2 HB1.out.size (fun g hg => (HF1.out.row g hg).1)
  have hT := r_ofT A c k D2 (4 + n) d2 x w2 HKL.out ((HK.out.below b2).more b2.size) HL.out (by omega) f2.rd
  have HB2 := Lib.hid b2
  have HT := Lib.hid hT
  clear f2 g2 b2 hT
  go_wp2_with fail
  refine HT.out.mono ?_
  rintro e w3 ⟨rfl, b3⟩
  have b3 := below_to HB2.out b3 HB2.out.size
  go_wp2
  go_ret
  exact ⟨rfl, b3⟩
theorem r_asked_k (A : Option Addr) (m c : Nat) (B : Option Addr) (n d : Nat) (w : World) (h : ((m : Int) != 16) = true) :
    Calls Try.prog 62 #[.slice A m c, .slice B n d] w fun e w' => e = .returned (.int .i64 2) ∧ w = w' := by
  go_enter Try.func62, Try.ntmps62
  go_wp2
  go_ret
  exact ⟨rfl, rfl⟩
theorem r_asked_h (A : Option Addr) (m c : Nat) (B : Option Addr) (n d : Nat) (w : World) (h : m = 16) (h2 : 256 < (n : Int)) :
    Calls Try.prog 62 #[.slice A m c, .slice B n d] w fun e w' => e = .returned (.int .i64 3) ∧ w = w' := by
  subst h
  go_enter Try.func62, Try.ntmps62
  go_wp2
  go_ret
  exact ⟨rfl, rfl⟩
theorem r_asked (A : Option Addr) (c : Nat) (B : Option Addr) (n d : Nat) (w : World) (h2 : (n : Int) ≤ 256) :
    Calls Try.prog 62 #[.slice A 16 c, .slice B n d] w fun e w' => e = .returned (.int .i64 0) ∧ w = w' := by
  have h3 : decide (256 < (n : Int)) = false := by simp; omega
  go_enter Try.func62, Try.ntmps62
  go_wp2
  go_ret
  exact ⟨rfl, rfl⟩

theorem r_seal_k (A : Option Addr) (m c : Nat) (iv : Nat) (B : Option Addr) (n d : Nat) (w : World) (h1 : ((m : Int) != 16) = true) :
    Calls Try.prog 43 #[.slice A m c, .int .u32 (iv : Int), .slice B n d] w fun e w' => e = .returned (.tuple #[.slice none 0 0, .int .u32 0, .int .i64 2]) ∧ w = w' := by
  go_enter Try.func43, Try.ntmps43
  go_wp2_with fail
  refine (r_asked_k A m c B n d w h1).mono ?_
  rintro e w1 ⟨rfl, rfl⟩
  go_wp2
  exact bodyPost_ret (v := .tuple #[.slice none 0 0, .int .u32 0, .int .i64 2]) (by simp [results, Try.results43, go_sem]) rfl ⟨rfl, rfl⟩
theorem r_seal_h (A : Option Addr) (m c : Nat) (iv : Nat) (B : Option Addr) (n d : Nat) (w : World) (h1 : m = 16) (h2 : 256 < (n : Int)) :
    Calls Try.prog 43 #[.slice A m c, .int .u32 (iv : Int), .slice B n d] w fun e w' => e = .returned (.tuple #[.slice none 0 0, .int .u32 0, .int .i64 3]) ∧ w = w' := by
  have H0 := Lib.hid (r_asked_h A m c B n d w h1 h2)
  clear h1 h2
  go_enter Try.func43, Try.ntmps43
  go_wp2_with fail
  refine (H0.out).mono ?_
  rintro e w1 ⟨rfl, rfl⟩
  go_wp2
  exact bodyPost_ret (v := .tuple #[.slice none 0 0, .int .u32 0, .int .i64 3]) (by simp [results, Try.results43, go_sem]) rfl ⟨rfl, rfl⟩
theorem r_seal (A : Option Addr) (c : Nat) (k : List UInt8) (iv : Nat) (hiv : (iv : Int) < 4294967296) (B : Option Addr) (n d : Nat) (b : List UInt8) (w : World) (hk : k.length = 16) (hrk : Rd w w.heap.size 1 A 16 (bvs k))
    (hb : b.length = n) (hn : (n : Int) ≤ 256) (hrb : Rd w w.heap.size 1 B n (bvs b)) :
    Calls Try.prog 43 #[.slice A 16 c, .int .u32 (iv : Int), .slice B n d] w fun e w' => ∃ D d', e = .returned (.tuple #[.slice D n d', .int .u32 (wi (tagS k iv (turnL k iv b))), .int .i64 0]) ∧ Fr w' w.heap.size 5 1 D n d' (bvs (turnL k iv b)) ∧ Below w.heap.size w w' := by
  have hc := r_turned A c k iv hiv B n d b w hk hrk hb (by omega) hrb
  have htl : (turnL k iv b).length = n := by rw [turnL_len, hb]
  have hT := fun (D : Option Addr) (e : Nat) W (h : Below w.heap.size w W) hr => r_tag A c k iv hiv D n e (turnL k iv b) W hk ((hrk.below h).more h.size) htl (by omega) hr
  have HC := Lib.hid hc
  have HT := Lib.hid hT
  have HA := Lib.hid (r_asked A c B n d w hn)
  clear hc hT hrk hrb hn hiv htl
  generalize turnL k iv b = x at *
  go_enter Try.func43, Try.ntmps43
  go_wp2_with fail
  refine HA.out.mono ?_
  rintro e w0 ⟨rfl, rfl⟩
  go_wp2_with fail
  refine HC.out.mono ?_
  rintro e w1 ⟨D, d1, rfl, f1, b1⟩
  go_wp2_with fail
  refine (HT.out D d1 w1 b1 f1.rd).mono ?_
  rintro e w2 ⟨rfl, b2⟩
  have f2 := f1.below b2 (Nat.le_refl _)
  go_wp2
  exact bodyPost_ret (v := .tuple #[.slice D n d1, .int .u32 (wi (tagS k iv x)), .int .i64 0]) (by simp [results, Try.results43, go_sem]) rfl ⟨_, _, rfl, f2, below_to b1 b2 b1.size⟩
theorem r_open_k (A : Option Addr) (m c : Nat) (iv : Nat) (B : Option Addr) (n d : Nat) (t : Int) (w : World) (h1 : ((m : Int) != 16) = true) :
    Calls Try.prog 44 #[.slice A m c, .int .u32 (iv : Int), .slice B n d, .int .u32 t] w fun e w' => e = .returned (.tuple #[.slice none 0 0, .int .i64 2]) ∧ w = w' := by
  go_enter Try.func44, Try.ntmps44
  go_wp2_with fail
  refine (r_asked_k A m c B n d w h1).mono ?_
  rintro e w1 ⟨rfl, rfl⟩
  go_wp2
  go_ret2
  exact ⟨rfl, rfl⟩
theorem r_open_h (A : Option Addr) (m c : Nat) (iv : Nat) (B : Option Addr) (n d : Nat) (t : Int) (w : World) (h1 : m = 16) (h2 : 256 < (n : Int)) :
    Calls Try.prog 44 #[.slice A m c, .int .u32 (iv : Int), .slice B n d, .int .u32 t] w fun e w' => e = .returned (.tuple #[.slice none 0 0, .int .i64 3]) ∧ w = w' := by
  have H0 := Lib.hid (r_asked_h A m c B n d w h1 h2)
  clear h1 h2
  go_enter Try.func44, Try.ntmps44
  go_wp2_with fail
  refine (H0.out).mono ?_
  rintro e w1 ⟨rfl, rfl⟩
  go_wp2
  go_ret2
  exact ⟨rfl, rfl⟩
theorem r_open_no (A : Option Addr) (c : Nat) (k : List UInt8) (iv : Nat) (hiv : (iv : Int) < 4294967296) (B : Option Addr) (n d : Nat) (b : List UInt8) (t : Int) (w : World) (hk : k.length = 16) (hrk : Rd w w.heap.size 1 A 16 (bvs k))
    (hb : b.length = n) (hn : (n : Int) ≤ 256) (hrb : Rd w w.heap.size 1 B n (bvs b)) (ht : (wi (tagS k iv b) != t) = true) :
    Calls Try.prog 44 #[.slice A 16 c, .int .u32 (iv : Int), .slice B n d, .int .u32 t] w fun e w' => e = .returned (.tuple #[.slice none 0 0, .int .i64 131]) ∧ Below w.heap.size w w' := by
  have hT := r_tag A c k iv hiv B n d b w hk hrk hb hn hrb
  have HT := Lib.hid hT
  have HA := Lib.hid (r_asked A c B n d w hn)
  clear hT hrk hrb hn hiv
  generalize wi (tagS k iv b) = t' at *
  go_enter Try.func44, Try.ntmps44
  go_wp2_with fail
  refine HA.out.mono ?_
  rintro e w0 ⟨rfl, rfl⟩
  go_wp2_with fail
  refine HT.out.mono ?_
  rintro e w1 ⟨rfl, b1⟩
  go_wp2
  go_ret2
  exact ⟨rfl, b1⟩
theorem r_open_ok (A : Option Addr) (c : Nat) (k : List UInt8) (iv : Nat) (hiv : (iv : Int) < 4294967296) (B : Option Addr) (n d : Nat) (b : List UInt8) (t : Int) (w : World) (hk : k.length = 16) (hrk : Rd w w.heap.size 1 A 16 (bvs k))
    (hb : b.length = n) (hn : (n : Int) ≤ 256) (hrb : Rd w w.heap.size 1 B n (bvs b)) (ht : wi (tagS k iv b) = t) :
    Calls Try.prog 44 #[.slice A 16 c, .int .u32 (iv : Int), .slice B n d, .int .u32 t] w fun e w' => ∃ D d', e = .returned (.tuple #[.slice D n d', .int .i64 0]) ∧ Fr w' w.heap.size 5 1 D n d' (bvs (turnL k iv b)) ∧ Below w.heap.size w w' := by
  have hT := r_tag A c k iv hiv B n d b w hk hrk hb hn hrb
  have hc := fun W (h : Below w.heap.size w W) => r_turned A c k iv hiv B n d b W hk ((hrk.below h).more h.size) hb (by omega) ((hrb.below h).more h.size)
  rw [ht] at hT
  have HT := Lib.hid hT
  have HC := Lib.hid hc
  have HA := Lib.hid (r_asked A c B n d w hn)
  clear hT hc hrk hrb hn hiv ht
  generalize turnL k iv b = x at *
  go_enter Try.func44, Try.ntmps44
  go_wp2_with fail
  refine HA.out.mono ?_
  rintro e w0 ⟨rfl, rfl⟩
  go_wp2_with fail
  refine HT.out.mono ?_
  rintro e w1 ⟨rfl, b1⟩
  go_wp2_with fail
  refine (HC.out w1 b1).mono ?_
  rintro e w2 ⟨D, d2, rfl, f2, b2⟩
  have f2 := f2.mono (base' := w.heap.size) b1.size
  have b2 := below_to b1 b2 b1.size
  go_wp2
  go_ret2
  exact ⟨_, _, rfl, f2, b2⟩
end Go.Proofs.Ytfjjkkakhfgdhaa
