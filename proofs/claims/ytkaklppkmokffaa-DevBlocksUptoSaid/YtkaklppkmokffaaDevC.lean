/-
  Contracts of package dev: place, Check, cut.
-/
import Derived.Test.YtkaklppkmokffaaDevM
import Derived.Below
namespace Go.Proofs.Ytkaklppkmokffaa
open Go.RowKit
set_option linter.unusedVariables false
set_option linter.unusedSimpArgs false
set_option maxRecDepth 100000

theorem d_place (n : Int) (hn : I64 n) (w : World) (v : Bool) (hv : v = decide (0 ≤ n ∧ n < 256)) : Calls Try.prog 42 #[.int .i64 n] w fun e w' => e = .returned (.bool v) ∧ w = w' := by
  obtain ⟨h1, h2⟩ := hn
  have hw : IntKind.u64.wrap n = if n < 0 then n + 18446744073709551616 else n := by
    rw [IntKind.wrap_u64]
    split <;> omega
  have hd : decide ((if n < 0 then n + 18446744073709551616 else n) < 256) = v := by
    rw [hv, decide_eq_decide]
    split <;> constructor <;> intro h <;> omega
  have HD := Lib.hid hd
  clear hd hv
  generalize hm : (if n < 0 then n + 18446744073709551616 else n) = m at *
  clear hm
  go_enter Try.func42, Try.ntmps42
  go_wp2
  rw [HD.out]
  go_ret
  exact ⟨rfl, rfl⟩

/-! ### Check -/
def all1 (l : List Sl) : Bool := l.all fun s => decide (s.n = 256)
def all2 (l : List Wt) : Bool := l.all fun x => decide (0 ≤ x.a ∧ x.a < 256) && decide (x.s.n = 256)
def ok1 (nB nW : Nat) : Bool := decide (nB = 256) && decide (nW ≤ 4096)
def ChR1 (nB nW : Nat) (bs : List Sl) (w : World) (o x : Value) (wr : World) : Prop := ∃ k : Nat, k ≤ nB ∧ x = .int .i64 (k : Int) ∧ o = .bool (ok1 nB nW && all1 (bs.take k)) ∧ w = wr
def ChR2 (nW : Nat) (ws : List Wt) (q : Bool) (b : Nat) (w : World) (o x : Value) (wr : World) : Prop := ∃ k : Nat, k ≤ nW ∧ x = .int .i64 (k : Int) ∧ o = .bool (q && all2 (ws.take k)) ∧ Below b w wr
theorem all_take {α : Type} {l : List α} {k : Nat} (h : k < l.length) (p : α → Bool) : (l.take (k + 1)).all p = ((l.take k).all p && p l[k]) := by
  rw [List.take_succ_eq_append_getElem h, List.all_append]
  simp
theorem Dk.may_iff {d : Dk} {w : World} (h : d.ok w) : d.c.May ↔ (ok1 d.nB d.nW && all1 d.bs && all2 d.ws) = true := by
  unfold Ct.May ok1 all1 all2
  simp only [Dk.c, List.length_map, h.lb, h.lw, List.mem_map, forall_exists_index, and_imp, forall_apply_eq_imp_iff₂, Wt.c, Bool.and_eq_true, List.all_eq_true, decide_eq_true_eq]
  constructor
  · rintro ⟨h1, h2, h3, h4⟩
    exact ⟨⟨⟨h1, h3⟩, fun s hs => by have := h2 s hs; rw [← (h.sb s hs).1]; exact this⟩, fun x hx => ⟨(h4 x hx).1, by rw [← (h.sw x hx).1.1]; exact (h4 x hx).2⟩⟩
  · rintro ⟨⟨⟨h1, h3⟩, h2⟩, h4⟩
    exact ⟨h1, fun s hs => by rw [(h.sb s hs).1]; exact h2 s hs, h3, fun x hx => ⟨(h4 x hx).1, by rw [(h.sw x hx).1.1]; exact (h4 x hx).2⟩⟩

set_option maxHeartbeats 1000000 in
theorem d_check (d : Dk) (w : World) (hd : d.ok w) (E : Int) (hE : E = if d.c.May then 0 else 8) (hB6 : (d.nB : Int) ≤ 1000000) (hW6 : (d.nW : Int) ≤ 1000000) :
    Calls Try.prog 26 #[d.v] w fun e w' => e = .returned (.int .i64 E) ∧ Below w.heap.size w w' := by
  have hmay := Dk.may_iff hd
  have hE2 : E = if (ok1 d.nB d.nW && all1 d.bs && all2 d.ws) = true then 0 else 8 := by rw [hE]; simp only [hmay]
  have HE := Lib.hid hE2
  have HD := Lib.hid hd
  have hlb := hd.lb
  have hlw := hd.lw
  clear hmay hE hE2 hd
  obtain ⟨A, nB, cB, bs, W, nW, cW, ws⟩ := d
  simp only [Dk.v] at *
  have hx0 := DkBox.new w (.slice A nB cB) (.slice W nW cW)
  have hb0 := below_new' w (.cells #[.slice A nB cB, .slice W nW cW] 25)
  have hd1 := HD.out.below hb0
  have HD1 := Lib.hid hd1
  obtain ⟨c0, c1⟩ := hx0.cells
  have HB0 := Lib.hid hb0
  have HX0 := Lib.hid hx0
  clear hb0 hx0 hd1
  have hok : ok1 nB nW = (((nB : Int) == 256) && decide ((nW : Int) ≤ 4096)) := by
    unfold ok1
    rw [Bool.eq_iff_iff]
    simp
    omega
  generalize hqb : ((nB : Int) == 256) = qb at hok
  have HOK := Lib.hid hok
  clear hok
  cases qb
  all_goals
    go_enter Try.func26, Try.ntmps26
    go_wp2
    clear hqb
    go_loopw [3, 21] (fun o x wr => ChR1 nB nW bs (w.alloc (.cells #[.slice A nB cB, .slice W nW cW] 25)) o x wr) (fun _ x _ => nB - (intOf x).toNat)
    case atStart =>
      refine ⟨0, Nat.zero_le _, rfl, ?_, rfl⟩
      congr 1
      rw [HOK.out]
      simp [all1]
    case round =>
      obtain ⟨k, hk, rfl, ho, rfl⟩ := hrel
      by_cases hlt : k < nB
      · obtain ⟨b, off, rfl, hbb, hc⟩ := HD.out.rb.atS hlt hlb
        have hi : decide (((bs[k]).n : Int) = 256) = decide ((bs[k]).n = 256) := by rw [decide_eq_decide]; omega
        have hnx : (ok1 nB nW && all1 (bs.take (k + 1))) = ((ok1 nB nW && all1 (bs.take k)) && decide (((bs[k]).n : Int) = 256)) := by
          rw [hi, all1, all_take (by omega), Bool.and_assoc]
          rfl
        have HN := Lib.hid hnx
        clear hnx hi
        have h0 : ¬ ((k : Int) < 0) := by omega
        have h1 : (k : Int) < (nB : Int) := by omega
        generalize bs[k] = p at *
        generalize (ok1 nB nW && all1 (bs.take k)) = q at *
        subst ho
        cases q with
        | true =>
          go_wp2
          go_roundw
          case rel => exact ⟨k + 1, by omega, rfl, by rw [HN.out]; rfl, rfl⟩
          case measure => simp [intOf]; omega
        | false =>
          go_wp2
          go_roundw
          case rel => exact ⟨k + 1, by omega, rfl, by rw [HN.out]; rfl, rfl⟩
          case measure => simp [intOf]; omega
      · obtain rfl : nB = k := by omega
        rw [List.take_of_length_le (by omega)] at ho
        generalize (ok1 nB nW && all1 bs) = q at *
        subst ho
        go_wp2
        go_loopw [3, 35] (fun o x wr => ChR2 nW ws q (w.alloc (.cells #[.slice A nB cB, .slice W nW cW] 25)).heap.size (w.alloc (.cells #[.slice A nB cB, .slice W nW cW] 25)) o x wr) (fun _ x _ => nW - (intOf x).toNat)
        case atStart => exact ⟨0, Nat.zero_le _, rfl, by simp [all2], Below.refl _ _⟩
        case round =>
          obtain ⟨k', hk', rfl, ho', hb⟩ := hrel
          by_cases hlt' : k' < nW
          · obtain ⟨b', off', rfl, hbb', c2, c3⟩ := (HD1.out.rw_.below hb).at2 hlt' hlw
            have hi64 := (HD.out.sw _ (List.getElem_mem (show k' < ws.length by omega))).2
            have hi : decide (((ws[k']).s.n : Int) = 256) = decide ((ws[k']).s.n = 256) := by rw [decide_eq_decide]; omega
            have hnx : (q && all2 (ws.take (k' + 1))) = ((q && all2 (ws.take k')) && (decide (0 ≤ (ws[k']).a ∧ (ws[k']).a < 256) && decide (((ws[k']).s.n : Int) = 256))) := by
              rw [hi, all2, all_take (by omega), Bool.and_assoc]
              rfl
            have HN := Lib.hid hnx
            have hp := fun W => d_place (ws[k']).a hi64 W _ rfl
            have HP := Lib.hid hp
            have HBB := Lib.hid hb
            clear hnx hi hp hi64 hb
            have h0 : ¬ ((k' : Int) < 0) := by omega
            have h1 : (k' : Int) < (nW : Int) := by omega
            generalize ws[k'] = p at *
            generalize (q && all2 (ws.take k')) = qq at *
            generalize decide (0 ≤ p.a ∧ p.a < 256) = v at *
            subst ho'
            have hwx := WtBox.new wr (.int .i64 p.a) (.slice p.s.A p.s.n p.s.c)
            obtain ⟨x0, x1⟩ := hwx.cells
            have hbn := below_alloc HBB.out (.cells #[.int .i64 p.a, .slice p.s.A p.s.n p.s.c] 54) HBB.out.size
            have HBN := Lib.hid hbn
            clear hwx hbn
            cases qq with
            | true =>
              go_wp2_with fail
              refine (HP.out _).mono ?_
              rintro e w3 ⟨rfl, rfl⟩
              cases v with
              | true =>
                go_wp2
                go_roundw
                case rel => exact ⟨k' + 1, by omega, rfl, by rw [HN.out]; rfl, HBN.out⟩
                case measure => simp [intOf]; omega
              | false =>
                go_wp2
                go_roundw
                case rel => exact ⟨k' + 1, by omega, rfl, by rw [HN.out]; rfl, HBN.out⟩
                case measure => simp [intOf]; omega
            | false =>
              go_wp2
              go_roundw
              case rel => exact ⟨k' + 1, by omega, rfl, by rw [HN.out]; rfl, HBN.out⟩
              case measure => simp [intOf]; omega
          · obtain rfl : nW = k' := by omega
            rw [List.take_of_length_le (by omega)] at ho'
            generalize (q && all2 ws) = r at *
            subst ho'
            cases r with
            | true =>
              obtain rfl : E = 0 := HE.out
              go_wp2
              go_ret
              exact ⟨rfl, below_to HB0.out hb HB0.out.size⟩
            | false =>
              obtain rfl : E = 8 := HE.out
              go_wp2
              go_ret
              exact ⟨rfl, below_to HB0.out hb HB0.out.size⟩
end Go.Proofs.Ytkaklppkmokffaa
