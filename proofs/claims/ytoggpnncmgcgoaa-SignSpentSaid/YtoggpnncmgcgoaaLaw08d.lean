/-
  The walk of layer 8's statement SignSpent.
-/
import Derived.Test.YtoggpnncmgcgoaaLaw08c
import Derived.Test.YtoggpnncmgcgoaaOpenS
namespace Go.Proofs.Ytoggpnncmgcgoaa
open Go.RowKit
set_option linter.unusedVariables false
set_option linter.unusedSimpArgs false
set_option maxRecDepth 100000
attribute [local go_sem] str_toList toList_mk

theorem sspent_len (S : Option Addr) (n c : Nat) (spent : Int) (Q : Option Addr) (q r : Nat) (w : World)
    (h : ((n : Int) != 16) = true) : Calls Try.prog 12 #[.agg #[.slice S n c, .int .i64 spent], .slice Q q r] w fun e w' => e = .returned (.bool true) ∧ Below w.heap.size w w' := by
  have P2 := Pair.new w (.slice S n c) (.int .i64 spent)
  have B0 := below_new w (.cells #[.slice S n c, .int .i64 spent] 47)
  have HP2 := Lib.hid P2
  have HB0 := Lib.hid B0
  clear P2 B0
  go_enter Try.func12, Try.ntmps12
  go_wp2_with fail
  refine (alive08 _).mono ?_
  rintro e w1 ⟨rfl, b1⟩
  have q0 := (HP2.out.low b1 HP2.out.lt).c0
  have q1 := (HP2.out.low b1 HP2.out.lt).c1
  have B1 := Lib.hid (below_to HB0.out b1 HB0.out.size)
  clear b1
  go_wp2
  go_ret
  exact ⟨rfl, B1.out⟩
theorem sspent_low (S : Option Addr) (n c : Nat) (spent : Int) (Q : Option Addr) (q r : Nat) (w : World)
    (h1 : n = 16)
    (h : spent < 0) : Calls Try.prog 12 #[.agg #[.slice S n c, .int .i64 spent], .slice Q q r] w fun e w' => e = .returned (.bool true) ∧ Below w.heap.size w w' := by
  subst h1
  have P2 := Pair.new w (.slice S 16 c) (.int .i64 spent)
  have B0 := below_new w (.cells #[.slice S 16 c, .int .i64 spent] 47)
  have HP2 := Lib.hid P2
  have HB0 := Lib.hid B0
  clear P2 B0
  go_enter Try.func12, Try.ntmps12
  go_wp2_with fail
  refine (alive08 _).mono ?_
  rintro e w1 ⟨rfl, b1⟩
  have q0 := (HP2.out.low b1 HP2.out.lt).c0
  have q1 := (HP2.out.low b1 HP2.out.lt).c1
  have B1 := Lib.hid (below_to HB0.out b1 HB0.out.size)
  clear b1
  go_wp2
  go_ret
  exact ⟨rfl, B1.out⟩
theorem sspent_high (S : Option Addr) (n c : Nat) (spent : Int) (Q : Option Addr) (q r : Nat) (w : World)
    (h1 : n = 16)
    (h2 : ¬ spent < 0)
    (h : 8 < spent) : Calls Try.prog 12 #[.agg #[.slice S n c, .int .i64 spent], .slice Q q r] w fun e w' => e = .returned (.bool true) ∧ Below w.heap.size w w' := by
  subst h1
  have P2 := Pair.new w (.slice S 16 c) (.int .i64 spent)
  have B0 := below_new w (.cells #[.slice S 16 c, .int .i64 spent] 47)
  have HP2 := Lib.hid P2
  have HB0 := Lib.hid B0
  clear P2 B0
  go_enter Try.func12, Try.ntmps12
  go_wp2_with fail
  refine (alive08 _).mono ?_
  rintro e w1 ⟨rfl, b1⟩
  have q0 := (HP2.out.low b1 HP2.out.lt).c0
  have q1 := (HP2.out.low b1 HP2.out.lt).c1
  have B1 := Lib.hid (below_to HB0.out b1 HB0.out.size)
  clear b1
  go_wp2
  go_ret
  exact ⟨rfl, B1.out⟩
theorem sspent_many (S : Option Addr) (n c : Nat) (spent : Int) (Q : Option Addr) (q r : Nat) (w : World)
    (h1 : n = 16)
    (h2 : ¬ spent < 0)
    (h3 : ¬ 8 < spent)
    (h : 12 < (q : Int)) : Calls Try.prog 12 #[.agg #[.slice S n c, .int .i64 spent], .slice Q q r] w fun e w' => e = .returned (.bool true) ∧ Below w.heap.size w w' := by
  subst h1
  have P2 := Pair.new w (.slice S 16 c) (.int .i64 spent)
  have B0 := below_new w (.cells #[.slice S 16 c, .int .i64 spent] 47)
  have HP2 := Lib.hid P2
  have HB0 := Lib.hid B0
  clear P2 B0
  go_enter Try.func12, Try.ntmps12
  go_wp2_with fail
  refine (alive08 _).mono ?_
  rintro e w1 ⟨rfl, b1⟩
  have q0 := (HP2.out.low b1 HP2.out.lt).c0
  have q1 := (HP2.out.low b1 HP2.out.lt).c1
  have B1 := Lib.hid (below_to HB0.out b1 HB0.out.size)
  clear b1
  go_wp2
  go_ret
  exact ⟨rfl, B1.out⟩
def SpRel (seed : List UInt8) (k0 n b2 : Nat) (w : World) (s7 : Value) (wr : World) : Prop :=
  ∃ (j k : Nat) (A : Option Addr) (c : Nat), j ≤ n ∧ s7 = .int .i64 (j : Int) ∧ (k = k0 + j ∧ k ≤ 8 ∨ k = 8 ∧ 8 ≤ k0 + j) ∧ Pair wr b2 (.slice A 16 c) (.int .i64 (k : Int)) ∧ Rd wr wr.heap.size 1 A 16 (bvs seed) ∧ (∀ a, A = some a → a.block ≠ b2) ∧ Below w.heap.size w wr
def SpOk (seed sg : List UInt8) (k : Nat) (b2 : Nat) (A : Option Addr) (c : Nat) (w wr : World) (s8 s9 s10 : Value) (wc : World) : Prop :=
  ∃ (b9 : Nat) (D : Option Addr) (d : Nat) (gE ec : Nat), s8 = .pointer (some ⟨b9, 0, none⟩) ∧ s9 = .slice (some ⟨gE, 0, none⟩) 209 ec ∧ s10 = .int .i64 0 ∧ Pair wc b9 (.slice D 16 d) (.int .i64 ((k : Int) + 1)) ∧ Fr wc w.heap.size 5 1 D 16 d (bvs seed) ∧ Fr wc w.heap.size 5 1 (some ⟨gE, 0, none⟩) 209 ec (bvs sg) ∧
    Pair wc b2 (.slice A 16 c) (.int .i64 (k : Int)) ∧ Below wr.heap.size wr wc
def SpNo (b2 : Nat) (A : Option Addr) (c : Nat) (wr : World) (s8 s9 s10 : Value) (wc : World) : Prop :=
  ∃ b9 : Nat, s8 = .pointer (some ⟨b9, 0, none⟩) ∧ s9 = .slice none 0 0 ∧ s10 = .int .i64 80 ∧ Pair wc b2 (.slice A 16 c) (.int .i64 8) ∧ Below wr.heap.size wr wc
set_option maxHeartbeats 8000000 in
theorem sspent_ok (S : Option Addr) (c : Nat) (seed : List UInt8) (k0 : Nat) (Q : Option Addr) (q r : Nat) (L : List Sl) (w : World) (hs : seed.length = 16) (hr : Rd w w.heap.size 1 S 16 (bvs seed)) (hsp : k0 ≤ 8)
    (hq : q ≤ 12) (hL : L.length = q) (hrq : Rd w w.heap.size 1 Q q (L.map Sl.v)) (hLs : ∀ s ∈ L, s.came w) :
    Calls Try.prog 12 #[.agg #[.slice S 16 c, .int .i64 (k0 : Int)], .slice Q q r] w fun e w' => e = .returned (.bool true) ∧ Below w.heap.size w w' := by
  have P2 := Pair.new w (.slice S 16 c) (.int .i64 (k0 : Int))
  have hsg := fun (A : Option Addr) (c : Nat) (k : Nat) (hk : k < 8) (s : Sl) (hs1 : s ∈ L) (hs2 : (s.n : Int) ≤ 1000) (W : World) (h' : Below w.heap.size w W) (hA : Rd W W.heap.size 1 A 16 (bvs seed)) =>
    x_sign A c seed k s.A s.n s.c s.l W hs hA hk (hLs s hs1).1 (by omega) (hLs s hs1).2.2.1 (((hLs s hs1).2.1.below h').more h'.size)
  have hSb : ∀ a, S = some a → a.block < w.heap.size := fun a e => by
    obtain ⟨b, o, e2, hb, -⟩ := hr.2 (by omega)
    rw [e] at e2
    cases e2
    exact hb
  have B0 := below_new w (.cells #[.slice S 16 c, .int .i64 (k0 : Int)] 47)
  have h1 : ¬ ((k0 : Int) < 0) := by omega
  have h2 : ¬ (8 < (k0 : Int)) := by omega
  have h3 : ¬ (12 < (q : Int)) := by omega
  have HP2 := Lib.hid P2
  have HB0 := Lib.hid B0
  have HSG := Lib.hid hsg
  have HSB := Lib.hid hSb
  have HSP := Lib.hid hsp
  have HR := Lib.hid hr
  have HRQ := Lib.hid hrq
  have HL := Lib.hid hL
  clear P2 B0 hsg hr hrq hSb hsp hs hL hLs
  go_enter Try.func12, Try.ntmps12
  go_wp2_with fail
  obtain ⟨b2, hb2⟩ : ∃ b, b = w.heap.size := ⟨_, rfl⟩
  obtain ⟨w0, hw0⟩ : ∃ W, W = w.alloc (.cells #[.slice S 16 c, .int .i64 (k0 : Int)] 47) := ⟨_, rfl⟩
  have P2 := HP2.out
  have B0 := HB0.out
  rw [← hw0] at P2 B0
  rw [← hb2] at P2
  simp only [← hb2, ← hw0]
  have HW2 := Lib.hid hb2
  clear HP2 HB0 hb2 hw0
  refine (alive08 w0).mono ?_
  rintro e w1 ⟨rfl, b1⟩
  have P2' := P2.low b1 P2.lt
  have q0 := P2'.c0
  have q1 := P2'.c1
  have HP2 := Lib.hid P2'
  have B1 := Lib.hid (below_to B0 b1 B0.size)
  clear b1 P2 P2' B0
  go_wp2_with fail
  go_loopw [7] (fun s7 wr => SpRel seed k0 q b2 w s7 wr) (fun s7 _ => q - (intOf s7).toNat)
  case atStart => exact ⟨0, k0, S, c, by omega, rfl, .inl ⟨rfl, HSP.out⟩, HP2.out, (HR.out.below B1.out).more B1.out.size, fun a e => by have := HSB.out a e; have := HW2.out; omega, B1.out⟩
  case round =>
    clear q0 q1
    obtain ⟨j, k, A, c', hj, rfl, hk, hP, hA, hAb, hB⟩ := hrel
    by_cases hjq : j < q
    · have hLl : j < L.length := by rw [HL.out]; exact hjq
      obtain ⟨gT, oT, u, rfl, hgT, hu, hcT⟩ := (HRQ.out.below hB).at_ hjq
      rw [List.getElem?_map, List.getElem?_eq_getElem hLl] at hu
      injection hu with hu
      rw [← hu] at hcT
      have hmem : L[j] ∈ L := List.getElem_mem hLl
      generalize L[j] = s at *
      have hcT' : wr.cell? ⟨gT, oT + j, none⟩ = some (.slice s.A s.n s.c) := hcT
      have h0 : ¬ ((j : Int) < 0) := by omega
      have hj1 : (j : Int) < (q : Int) := by omega
      have HP := Lib.hid hP
      have HA := Lib.hid hA
      have HAB := Lib.hid hAb
      have HB := Lib.hid hB
      have HK := Lib.hid hk
      have HMEM := Lib.hid hmem
      have HCT := Lib.hid hcT'
      have HGT := Lib.hid (Nat.lt_of_lt_of_le hgT hB.size)
      clear hcT hu hP hA hAb hB hk hmem hLl hgT
      by_cases hlong : 1000 < (s.n : Int)
      · go_wp2
        go_ret
        exact ⟨rfl, HB.out⟩
      · by_cases hk8 : k0 + j < 8
        · have hkk := HK.out
          obtain ⟨hke, hk9⟩ : k = k0 + j ∧ k < 8 := by omega
          have hsg := fun W (h' : Below wr.heap.size wr W) => HSG.out A c' k hk9 s HMEM.out (by omega) W (below_to HB.out h' HB.out.size) ((HA.out.below h').more h'.size)
          have hat := atL_sg seed hk9 s.l
          have hsl := sgL_len seed k s.l
          have HAT := Lib.hid hat
          have HSL := Lib.hid hsl
          clear hat hsl
          generalize sgL seed k s.l = sg at *
          have hsum : IntKind.i64.wrap ((k0 : Int) + (j : Int)) = (k0 : Int) + (j : Int) := IntWalk.i64_in _ (by omega)
          have hnl : ¬ (8 ≤ (k0 : Int) + (j : Int)) := by omega
          have HS2 := Lib.hid hsg
          have HPL := Lib.hid HP.out.lt
          have HKE := Lib.hid hke
          have HK9 := Lib.hid hk9
          clear hsg hkk HK hke hk9
          go_wp2_with fail
          go_cut [8, 9, 10] from 51 (fun s8 s9 s10 wc => SpOk seed sg k b2 A c' w wr s8 s9 s10 wc)
          case first =>
            refine wp_region_held_drew (S := fun V => Below wr.heap.size wr V) (by kernel_rfl) (Below.refl wr.heap.size wr).drew (fun hS => ?_)
            refine wpAnyH_take (i := 0) (v := ?_) rfl (by kernel_rfl) (by kernel_rfl) (by kernel_rfl) (fun _ _ _ h => h) (Or.inl ⟨by rfl, ?hyq⟩) hS ?_
            case hyq =>
              intro w hw
              have kx0 := (HP.out.low hw HPL.out).c0
              have kx1 := (HP.out.low hw HPL.out).c1
              go_simp
              try (with_reducible rfl)
            refine wpAnyH_take (i := 1) (v := ?_) rfl (by kernel_rfl) (by kernel_rfl) (by kernel_rfl) (fun _ _ _ h => h) (Or.inl ⟨by rfl, ?hyq⟩) hS ?_
            case hyq =>
              intro w hw
              go_simp
              try (with_reducible rfl)
            refine wpAnyH_take (i := 2) (v := ?_) rfl (by kernel_rfl) (by kernel_rfl) (by kernel_rfl) (fun _ _ _ h => h) (Or.inl ⟨by rfl, ?hyq⟩) hS ?_
            case hyq =>
              intro w hw
              go_simp
              try (with_reducible rfl)
            refine wpAnyH_take (i := 3) (v := ?_) rfl (by kernel_rfl) (by kernel_rfl) (by kernel_rfl) (fun _ _ _ h => h) (Or.inl ⟨by rfl, ?hyq⟩) hS ?_
            case hyq =>
              intro w hw
              go_simp
              try (with_reducible rfl)
            refine wpAnyH_take (i := 4) (v := ?_) rfl (by kernel_rfl) (by kernel_rfl) (by kernel_rfl) (fun _ _ _ h => h) (Or.inl ⟨by rfl, ?hyq⟩) hS ?_
            case hyq =>
              intro w hw
              have ky := (hw.cell (p := ⟨gT, oT + j, none⟩) HGT.out).trans HCT.out
              go_simp
              try (with_reducible rfl)
            refine wpAnyH_ready (rs := [5, 10]) (by kernel_rfl) (by simp) ?_
            refine all_consH rfl (fun K hK => ?_) ?_
            · skip
              refine Stp.mk ?_
              go_simp
              go_wp2_with fail
              refine (HS2.out _ hS).mono ?_
              rintro e' w3 ⟨D, d, E, ec, rfl, f3, g3, b3⟩
              have hSn := below_to hS b3 hS.size
              have HF := Lib.hid (f3.mono (base' := w.heap.size) (Nat.le_trans HB.out.size hS.size))
              have HG := Lib.hid (g3.mono (base' := w.heap.size) (Nat.le_trans HB.out.size hS.size))
              clear f3 g3
              clear b3
              go_wp2
              refine hK.out _ _ hSn (fun hS => ?_)
              clear hK K hSn
              refine wpAnyH_take (i := 6) (v := ?_) rfl (by kernel_rfl) (by kernel_rfl) (by kernel_rfl) (fun _ _ _ h => h) (Or.inl ⟨by rfl, ?hyq⟩) hS ?_
              case hyq =>
                intro w hw
                go_simp
                try (with_reducible rfl)
              refine wpAnyH_take (i := 7) (v := ?_) rfl (by kernel_rfl) (by kernel_rfl) (by kernel_rfl) (fun _ _ _ h => h) (Or.inl ⟨by rfl, ?hyq⟩) hS ?_
              case hyq =>
                intro w hw
                go_simp
                try (with_reducible rfl)
              refine wpAnyH_take (i := 8) (v := ?_) rfl (by kernel_rfl) (by kernel_rfl) (by kernel_rfl) (fun _ _ _ h => h) (Or.inl ⟨by rfl, ?hyq⟩) hS ?_
              case hyq =>
                intro w hw
                go_simp
                try (with_reducible rfl)
              refine wpAnyH_take (i := 9) (v := ?_) rfl (by kernel_rfl) (by kernel_rfl) (by kernel_rfl) (fun _ _ _ h => h) (Or.inl ⟨by rfl, ?hyq⟩) hS ?_
              case hyq =>
                intro w hw
                go_simp
                try (with_reducible rfl)
              refine wpAnyH_ready (rs := [10]) (by kernel_rfl) (by simp) ?_
              refine all_consH rfl (fun K hK => ?_) ?_
              · skip
                obtain ⟨b9, hb9⟩ : ∃ b, b = w3.heap.size := ⟨_, rfl⟩
                obtain ⟨w4, hw4⟩ : ∃ W, W = w3.alloc (.cells #[.slice none 0 0, .int .i64 0] 47) := ⟨_, rfl⟩
                refine stp_run (v := .pointer (some ⟨b9, 0, none⟩)) (w' := w4) rfl (by rw [hb9, hw4]; go_simp) ?_
                have hN := Pair.new w3 (.slice none 0 0) (.int .i64 0)
                rw [← hb9, ← hw4] at hN
                have hge := hS.size
                rw [← hb9] at hge
                have hSn := below_alloc hS (.cells #[.slice none 0 0, .int .i64 0] 47) (Nat.le_refl _)
                rw [← hw4] at hSn
                replace HF := Lib.hid (HF.out.alloc (.cells #[.slice none 0 0, .int .i64 0] 47))
                replace HG := Lib.hid (HG.out.alloc (.cells #[.slice none 0 0, .int .i64 0] 47))
                rw [← hw4] at HF HG
                clear hw4 hb9
                refine hK.out _ _ hSn (fun hS => ?_)
                clear hK K hSn
                refine wpAnyH_ready (rs := [11]) (by kernel_rfl) (by simp) ?_
                refine all_consH rfl (fun K hK => ?_) ?_
                · skip
                  refine Stp.mk ?_
                  have c0 := hN.c0
                  have c1 := hN.c1
                  have f0 := hN.f (i := 0)
                  have f1 := hN.f (i := 1)
                  have hN2 := hN.put (.slice D 16 d) (.int .i64 ((k : Int) + 1))
                  replace HF := Lib.hid (fr_pair HF.out hN (.slice D 16 d) (.int .i64 ((k : Int) + 1)))
                  replace HG := Lib.hid (fr_pair HG.out hN (.slice D 16 d) (.int .i64 ((k : Int) + 1)))
                  have hSn := (hS.setCell (p := ⟨b9, 0, none⟩) hge (.slice D 16 d)).setCell (p := ⟨b9, 1, none⟩) hge (.int .i64 ((k : Int) + 1))
                  go_simp
                  clear c0 c1 f0 f1 hN
                  refine hK.out _ _ hSn (fun hS => ?_)
                  clear hK K hSn
                  refine wpAnyH_ready (rs := [12]) (by kernel_rfl) (by simp) ?_
                  refine all_consH rfl (fun K hK => ?_) ?_
                  · skip
                    refine Stp.mk ?_
                    go_simp
                    have hSn := hS
                    refine hK.out _ _ hSn (fun hS => ?_)
                    clear hK K hSn
                    refine wpAnyH_ready (rs := [13]) (by kernel_rfl) (by simp) ?_
                    refine all_consH rfl (fun K hK => ?_) ?_
                    · skip
                      refine Stp.mk ?_
                      go_simp
                      have hSn := hS
                      refine hK.out _ _ hSn (fun hS => ?_)
                      clear hK K hSn
                      refine wpAnyH_done (by kernel_rfl) ?_ _
                      have hp2 := HP.out.low hS HPL.out
                      obtain ⟨gE, rfl, -, -⟩ := HG.out.form (by have := HG.out.nc; omega)
                      go_wp2
                      go_meet
                      case rel => exact ⟨_, D, d, gE, ec, rfl, rfl, rfl, hN2, HF.out, HG.out, hp2, hS⟩
                    exact AllReadyH.nil
                  exact AllReadyH.nil
                exact AllReadyH.nil
              exact AllReadyH.nil
            refine all_consH rfl (fun K hK => ?_) ?_
            · skip
              obtain ⟨b9, hb9⟩ : ∃ b, b = wr.drew.heap.size := ⟨_, rfl⟩
              obtain ⟨w4, hw4⟩ : ∃ W, W = wr.drew.alloc (.cells #[.slice none 0 0, .int .i64 0] 47) := ⟨_, rfl⟩
              refine stp_run (v := .pointer (some ⟨b9, 0, none⟩)) (w' := w4) rfl (by rw [hb9, hw4]; go_simp) ?_
              have hN := Pair.new wr.drew (.slice none 0 0) (.int .i64 0)
              rw [← hb9, ← hw4] at hN
              have hge := hS.size
              rw [← hb9] at hge
              have hSn := below_alloc hS (.cells #[.slice none 0 0, .int .i64 0] 47) (Nat.le_refl _)
              rw [← hw4] at hSn
              clear hw4 hb9
              refine hK.out _ _ hSn (fun hS => ?_)
              clear hK K hSn
              refine wpAnyH_ready (rs := [5]) (by kernel_rfl) (by simp) ?_
              refine all_consH rfl (fun K hK => ?_) ?_
              · skip
                refine Stp.mk ?_
                go_simp
                go_wp2_with fail
                have hz := hN.lt
                refine (HS2.out _ hS).mono ?_
                rintro e' w3 ⟨D, d, E, ec, rfl, f3, g3, b3⟩
                have hSn := below_to hS b3 hS.size
                replace hN := hN.low b3 hz
                clear hz
                have HF := Lib.hid (f3.mono (base' := w.heap.size) (Nat.le_trans HB.out.size hS.size))
                have HG := Lib.hid (g3.mono (base' := w.heap.size) (Nat.le_trans HB.out.size hS.size))
                clear f3 g3
                clear b3
                go_wp2
                refine hK.out _ _ hSn (fun hS => ?_)
                clear hK K hSn
                refine wpAnyH_take (i := 6) (v := ?_) rfl (by kernel_rfl) (by kernel_rfl) (by kernel_rfl) (fun _ _ _ h => h) (Or.inl ⟨by rfl, ?hyq⟩) hS ?_
                case hyq =>
                  intro w hw
                  go_simp
                  try (with_reducible rfl)
                refine wpAnyH_take (i := 7) (v := ?_) rfl (by kernel_rfl) (by kernel_rfl) (by kernel_rfl) (fun _ _ _ h => h) (Or.inl ⟨by rfl, ?hyq⟩) hS ?_
                case hyq =>
                  intro w hw
                  go_simp
                  try (with_reducible rfl)
                refine wpAnyH_take (i := 8) (v := ?_) rfl (by kernel_rfl) (by kernel_rfl) (by kernel_rfl) (fun _ _ _ h => h) (Or.inl ⟨by rfl, ?hyq⟩) hS ?_
                case hyq =>
                  intro w hw
                  go_simp
                  try (with_reducible rfl)
                refine wpAnyH_take (i := 9) (v := ?_) rfl (by kernel_rfl) (by kernel_rfl) (by kernel_rfl) (fun _ _ _ h => h) (Or.inl ⟨by rfl, ?hyq⟩) hS ?_
                case hyq =>
                  intro w hw
                  go_simp
                  try (with_reducible rfl)
                refine wpAnyH_ready (rs := [11]) (by kernel_rfl) (by simp) ?_
                refine all_consH rfl (fun K hK => ?_) ?_
                · skip
                  refine Stp.mk ?_
                  have c0 := hN.c0
                  have c1 := hN.c1
                  have f0 := hN.f (i := 0)
                  have f1 := hN.f (i := 1)
                  have hN2 := hN.put (.slice D 16 d) (.int .i64 ((k : Int) + 1))
                  replace HF := Lib.hid (fr_pair HF.out hN (.slice D 16 d) (.int .i64 ((k : Int) + 1)))
                  replace HG := Lib.hid (fr_pair HG.out hN (.slice D 16 d) (.int .i64 ((k : Int) + 1)))
                  have hSn := (hS.setCell (p := ⟨b9, 0, none⟩) hge (.slice D 16 d)).setCell (p := ⟨b9, 1, none⟩) hge (.int .i64 ((k : Int) + 1))
                  go_simp
                  clear c0 c1 f0 f1 hN
                  refine hK.out _ _ hSn (fun hS => ?_)
                  clear hK K hSn
                  refine wpAnyH_ready (rs := [12]) (by kernel_rfl) (by simp) ?_
                  refine all_consH rfl (fun K hK => ?_) ?_
                  · skip
                    refine Stp.mk ?_
                    go_simp
                    have hSn := hS
                    refine hK.out _ _ hSn (fun hS => ?_)
                    clear hK K hSn
                    refine wpAnyH_ready (rs := [13]) (by kernel_rfl) (by simp) ?_
                    refine all_consH rfl (fun K hK => ?_) ?_
                    · skip
                      refine Stp.mk ?_
                      go_simp
                      have hSn := hS
                      refine hK.out _ _ hSn (fun hS => ?_)
                      clear hK K hSn
                      refine wpAnyH_done (by kernel_rfl) ?_ _
                      have hp2 := HP.out.low hS HPL.out
                      obtain ⟨gE, rfl, -, -⟩ := HG.out.form (by have := HG.out.nc; omega)
                      go_wp2
                      go_meet
                      case rel => exact ⟨_, D, d, gE, ec, rfl, rfl, rfl, hN2, HF.out, HG.out, hp2, hS⟩
                    exact AllReadyH.nil
                  exact AllReadyH.nil
                exact AllReadyH.nil
              exact AllReadyH.nil
            exact AllReadyH.nil
          case rest =>
            obtain ⟨b9, D, d, gE, ec, rfl, rfl, rfl, p9, hf, hg, p2, hb⟩ := hcut
            have y0 := p9.c0
            have y1 := p9.c1
            have z0 := p2.c0
            have z1 := p2.c1
            have x0 := p2.f (i := 0)
            have x1 := p2.f (i := 1)
            have ce := at_cell2 HSL.out hg.rd
            rw [HAT.out] at ce
            have hw8 := u8_of k HK9.out
            have hB2 := below_to HB.out hb HB.out.size
            have hR := grown_pair wc b2 (.slice D 16 d) (.int .i64 ((k : Int) + 1))
            have hnb := fr_not hf (by have := hf.nc; omega) p2
            have R1 := Lib.hid ((hf.rd.grown_ne hR (Nat.le_refl _) (fun a e => by intro e2; injection e2 with e2; exact hnb a e e2)).more hR.size)
            have R3 := Lib.hid (p2.put (.slice D 16 d) (.int .i64 ((k : Int) + 1)))
            have hwb := HW2.out
            have R4 := Lib.hid ((hB2.setCell (p := ⟨b2, 0, none⟩) (by show _ ≤ b2; omega) (.slice D 16 d)).setCell (p := ⟨b2, 1, none⟩) (by show _ ≤ b2; omega) (.int .i64 ((k : Int) + 1)))
            have HNB := Lib.hid hnb
            have hsum2 : IntKind.i64.wrap ((k0 : Int) + (j : Int) + 1) = (k0 : Int) + (j : Int) + 1 := IntWalk.i64_in _ (by omega)
            have hkI : (k : Int) = (k0 : Int) + (j : Int) := by have := HKE.out; omega
            have hkk1 : decide ((k : Int) + 1 = (k0 : Int) + (j : Int) + 1) = true := by simp; omega
            have hne1 : ((k : Int) != (k0 : Int) + (j : Int)) = false := by simp; omega
            have hne2 : ((k : Int) + 1 != (k0 : Int) + (j : Int) + 1) = false := by simp; omega
            clear p9 hf hg p2 hB2 hR hnb hwb hb hkI
            go_wp2
            go_roundw
            case rel => exact ⟨j + 1, k + 1, D, d, by omega, by simp, .inl ⟨by have := HKE.out; omega, by have := HK9.out; omega⟩, R3.out, R1.out, HNB.out, R4.out⟩
            case measure => simp [intOf]; omega
        · have hkk := HK.out
          obtain rfl : k = 8 := by omega
          have hsg := fun W (h' : Below wr.heap.size wr W) => x_sign_spent A 16 c' 8 s.A s.n s.c W ⟨rfl, rfl⟩
          have hnl : 8 ≤ (k0 : Int) + (j : Int) := by omega
          have HS2 := Lib.hid hsg
          have HPL := Lib.hid HP.out.lt
          clear hsg hkk HK
          go_wp2_with fail
          go_cut [8, 9, 10] from 51 (fun s8 s9 s10 wc => SpNo b2 A c' wr s8 s9 s10 wc)
          case first =>
            refine wp_region_held_drew (S := fun V => Below wr.heap.size wr V) (by kernel_rfl) (Below.refl wr.heap.size wr).drew (fun hS => ?_)
            refine wpAnyH_take (i := 0) (v := ?_) rfl (by kernel_rfl) (by kernel_rfl) (by kernel_rfl) (fun _ _ _ h => h) (Or.inl ⟨by rfl, ?hyq⟩) hS ?_
            case hyq =>
              intro w hw
              have kx0 := (HP.out.low hw HPL.out).c0
              have kx1 := (HP.out.low hw HPL.out).c1
              go_simp
              try (with_reducible rfl)
            refine wpAnyH_take (i := 1) (v := ?_) rfl (by kernel_rfl) (by kernel_rfl) (by kernel_rfl) (fun _ _ _ h => h) (Or.inl ⟨by rfl, ?hyq⟩) hS ?_
            case hyq =>
              intro w hw
              go_simp
              try (with_reducible rfl)
            refine wpAnyH_take (i := 2) (v := ?_) rfl (by kernel_rfl) (by kernel_rfl) (by kernel_rfl) (fun _ _ _ h => h) (Or.inl ⟨by rfl, ?hyq⟩) hS ?_
            case hyq =>
              intro w hw
              go_simp
              try (with_reducible rfl)
            refine wpAnyH_take (i := 3) (v := ?_) rfl (by kernel_rfl) (by kernel_rfl) (by kernel_rfl) (fun _ _ _ h => h) (Or.inl ⟨by rfl, ?hyq⟩) hS ?_
            case hyq =>
              intro w hw
              go_simp
              try (with_reducible rfl)
            refine wpAnyH_take (i := 4) (v := ?_) rfl (by kernel_rfl) (by kernel_rfl) (by kernel_rfl) (fun _ _ _ h => h) (Or.inl ⟨by rfl, ?hyq⟩) hS ?_
            case hyq =>
              intro w hw
              have ky := (hw.cell (p := ⟨gT, oT + j, none⟩) HGT.out).trans HCT.out
              go_simp
              try (with_reducible rfl)
            refine wpAnyH_ready (rs := [5, 10]) (by kernel_rfl) (by simp) ?_
            refine all_consH rfl (fun K hK => ?_) ?_
            · skip
              refine Stp.mk ?_
              go_simp
              go_wp2_with fail
              refine (HS2.out _ hS).mono ?_
              rintro e' w3 ⟨rfl, b3⟩
              have hSn := below_to hS b3 hS.size
              clear b3
              go_wp2
              refine hK.out _ _ hSn (fun hS => ?_)
              clear hK K hSn
              refine wpAnyH_take (i := 6) (v := ?_) rfl (by kernel_rfl) (by kernel_rfl) (by kernel_rfl) (fun _ _ _ h => h) (Or.inl ⟨by rfl, ?hyq⟩) hS ?_
              case hyq =>
                intro w hw
                go_simp
                try (with_reducible rfl)
              refine wpAnyH_take (i := 7) (v := ?_) rfl (by kernel_rfl) (by kernel_rfl) (by kernel_rfl) (fun _ _ _ h => h) (Or.inl ⟨by rfl, ?hyq⟩) hS ?_
              case hyq =>
                intro w hw
                go_simp
                try (with_reducible rfl)
              refine wpAnyH_take (i := 8) (v := ?_) rfl (by kernel_rfl) (by kernel_rfl) (by kernel_rfl) (fun _ _ _ h => h) (Or.inl ⟨by rfl, ?hyq⟩) hS ?_
              case hyq =>
                intro w hw
                go_simp
                try (with_reducible rfl)
              refine wpAnyH_take (i := 9) (v := ?_) rfl (by kernel_rfl) (by kernel_rfl) (by kernel_rfl) (fun _ _ _ h => h) (Or.inl ⟨by rfl, ?hyq⟩) hS ?_
              case hyq =>
                intro w hw
                go_simp
                try (with_reducible rfl)
              refine wpAnyH_ready (rs := [10]) (by kernel_rfl) (by simp) ?_
              refine all_consH rfl (fun K hK => ?_) ?_
              · skip
                obtain ⟨b9, hb9⟩ : ∃ b, b = w3.heap.size := ⟨_, rfl⟩
                obtain ⟨w4, hw4⟩ : ∃ W, W = w3.alloc (.cells #[.slice none 0 0, .int .i64 0] 47) := ⟨_, rfl⟩
                refine stp_run (v := .pointer (some ⟨b9, 0, none⟩)) (w' := w4) rfl (by rw [hb9, hw4]; go_simp) ?_
                have hN := Pair.new w3 (.slice none 0 0) (.int .i64 0)
                rw [← hb9, ← hw4] at hN
                have hge := hS.size
                rw [← hb9] at hge
                have hSn := below_alloc hS (.cells #[.slice none 0 0, .int .i64 0] 47) (Nat.le_refl _)
                rw [← hw4] at hSn
                clear hw4 hb9
                refine hK.out _ _ hSn (fun hS => ?_)
                clear hK K hSn
                refine wpAnyH_ready (rs := [11]) (by kernel_rfl) (by simp) ?_
                refine all_consH rfl (fun K hK => ?_) ?_
                · skip
                  refine Stp.mk ?_
                  have c0 := hN.c0
                  have c1 := hN.c1
                  have f0 := hN.f (i := 0)
                  have f1 := hN.f (i := 1)
                  have hN2 := hN.put (.slice none 0 0) (.int .i64 0)
                  have hSn := (hS.setCell (p := ⟨b9, 0, none⟩) hge (.slice none 0 0)).setCell (p := ⟨b9, 1, none⟩) hge (.int .i64 0)
                  go_simp
                  clear c0 c1 f0 f1 hN
                  refine hK.out _ _ hSn (fun hS => ?_)
                  clear hK K hSn
                  refine wpAnyH_ready (rs := [12]) (by kernel_rfl) (by simp) ?_
                  refine all_consH rfl (fun K hK => ?_) ?_
                  · skip
                    refine Stp.mk ?_
                    go_simp
                    have hSn := hS
                    refine hK.out _ _ hSn (fun hS => ?_)
                    clear hK K hSn
                    refine wpAnyH_ready (rs := [13]) (by kernel_rfl) (by simp) ?_
                    refine all_consH rfl (fun K hK => ?_) ?_
                    · skip
                      refine Stp.mk ?_
                      go_simp
                      have hSn := hS
                      refine hK.out _ _ hSn (fun hS => ?_)
                      clear hK K hSn
                      refine wpAnyH_done (by kernel_rfl) ?_ _
                      have hp2 := HP.out.low hS HPL.out
                      go_wp2
                      go_meet
                      case rel => exact ⟨_, rfl, rfl, rfl, hp2, hS⟩
                    exact AllReadyH.nil
                  exact AllReadyH.nil
                exact AllReadyH.nil
              exact AllReadyH.nil
            refine all_consH rfl (fun K hK => ?_) ?_
            · skip
              obtain ⟨b9, hb9⟩ : ∃ b, b = wr.drew.heap.size := ⟨_, rfl⟩
              obtain ⟨w4, hw4⟩ : ∃ W, W = wr.drew.alloc (.cells #[.slice none 0 0, .int .i64 0] 47) := ⟨_, rfl⟩
              refine stp_run (v := .pointer (some ⟨b9, 0, none⟩)) (w' := w4) rfl (by rw [hb9, hw4]; go_simp) ?_
              have hN := Pair.new wr.drew (.slice none 0 0) (.int .i64 0)
              rw [← hb9, ← hw4] at hN
              have hge := hS.size
              rw [← hb9] at hge
              have hSn := below_alloc hS (.cells #[.slice none 0 0, .int .i64 0] 47) (Nat.le_refl _)
              rw [← hw4] at hSn
              clear hw4 hb9
              refine hK.out _ _ hSn (fun hS => ?_)
              clear hK K hSn
              refine wpAnyH_ready (rs := [5]) (by kernel_rfl) (by simp) ?_
              refine all_consH rfl (fun K hK => ?_) ?_
              · skip
                refine Stp.mk ?_
                go_simp
                go_wp2_with fail
                have hz := hN.lt
                refine (HS2.out _ hS).mono ?_
                rintro e' w3 ⟨rfl, b3⟩
                have hSn := below_to hS b3 hS.size
                replace hN := hN.low b3 hz
                clear hz
                clear b3
                go_wp2
                refine hK.out _ _ hSn (fun hS => ?_)
                clear hK K hSn
                refine wpAnyH_take (i := 6) (v := ?_) rfl (by kernel_rfl) (by kernel_rfl) (by kernel_rfl) (fun _ _ _ h => h) (Or.inl ⟨by rfl, ?hyq⟩) hS ?_
                case hyq =>
                  intro w hw
                  go_simp
                  try (with_reducible rfl)
                refine wpAnyH_take (i := 7) (v := ?_) rfl (by kernel_rfl) (by kernel_rfl) (by kernel_rfl) (fun _ _ _ h => h) (Or.inl ⟨by rfl, ?hyq⟩) hS ?_
                case hyq =>
                  intro w hw
                  go_simp
                  try (with_reducible rfl)
                refine wpAnyH_take (i := 8) (v := ?_) rfl (by kernel_rfl) (by kernel_rfl) (by kernel_rfl) (fun _ _ _ h => h) (Or.inl ⟨by rfl, ?hyq⟩) hS ?_
                case hyq =>
                  intro w hw
                  go_simp
                  try (with_reducible rfl)
                refine wpAnyH_take (i := 9) (v := ?_) rfl (by kernel_rfl) (by kernel_rfl) (by kernel_rfl) (fun _ _ _ h => h) (Or.inl ⟨by rfl, ?hyq⟩) hS ?_
                case hyq =>
                  intro w hw
                  go_simp
                  try (with_reducible rfl)
                refine wpAnyH_ready (rs := [11]) (by kernel_rfl) (by simp) ?_
                refine all_consH rfl (fun K hK => ?_) ?_
                · skip
                  refine Stp.mk ?_
                  have c0 := hN.c0
                  have c1 := hN.c1
                  have f0 := hN.f (i := 0)
                  have f1 := hN.f (i := 1)
                  have hN2 := hN.put (.slice none 0 0) (.int .i64 0)
                  have hSn := (hS.setCell (p := ⟨b9, 0, none⟩) hge (.slice none 0 0)).setCell (p := ⟨b9, 1, none⟩) hge (.int .i64 0)
                  go_simp
                  clear c0 c1 f0 f1 hN
                  refine hK.out _ _ hSn (fun hS => ?_)
                  clear hK K hSn
                  refine wpAnyH_ready (rs := [12]) (by kernel_rfl) (by simp) ?_
                  refine all_consH rfl (fun K hK => ?_) ?_
                  · skip
                    refine Stp.mk ?_
                    go_simp
                    have hSn := hS
                    refine hK.out _ _ hSn (fun hS => ?_)
                    clear hK K hSn
                    refine wpAnyH_ready (rs := [13]) (by kernel_rfl) (by simp) ?_
                    refine all_consH rfl (fun K hK => ?_) ?_
                    · skip
                      refine Stp.mk ?_
                      go_simp
                      have hSn := hS
                      refine hK.out _ _ hSn (fun hS => ?_)
                      clear hK K hSn
                      refine wpAnyH_done (by kernel_rfl) ?_ _
                      have hp2 := HP.out.low hS HPL.out
                      go_wp2
                      go_meet
                      case rel => exact ⟨_, rfl, rfl, rfl, hp2, hS⟩
                    exact AllReadyH.nil
                  exact AllReadyH.nil
                exact AllReadyH.nil
              exact AllReadyH.nil
            exact AllReadyH.nil
          case rest =>
            obtain ⟨b9, rfl, rfl, rfl, p2, hb⟩ := hcut
            have R1 := Lib.hid ((HA.out.below hb).more hb.size)
            have R3 := Lib.hid p2
            have R4 := Lib.hid (below_to HB.out hb HB.out.size)
            clear p2 hb
            go_wp2
            go_roundw
            case rel => exact ⟨j + 1, 8, A, c', by omega, by simp, .inr ⟨rfl, by omega⟩, R3.out, R1.out, HAB.out, R4.out⟩
            case measure => simp [intOf]; omega
    · obtain rfl : j = q := by omega
      have HB := Lib.hid hB
      clear hP hA hAb hB hk
      go_wp2
      go_ret
      exact ⟨rfl, HB.out⟩
theorem signSpent_walk (S : Option Addr) (n c : Nat) (seed : List UInt8) (spent : Int) (Q : Option Addr) (q r : Nat) (L : List Sl) (w : World) (hs : seed.length = n) (hr : Rd w w.heap.size 1 S n (bvs seed))
    (hL : L.length = q) (hrq : Rd w w.heap.size 1 Q q (L.map Sl.v)) (hLs : ∀ s ∈ L, s.came w) :
    Calls Try.prog 12 #[.agg #[.slice S n c, .int .i64 spent], .slice Q q r] w fun e w' => e = .returned (.bool true) ∧ Below w.heap.size w w' := by
  by_cases h1 : n = 16
  · by_cases h2 : spent < 0
    · exact sspent_low S n c spent Q q r w h1 h2
    by_cases h3 : 8 < spent
    · exact sspent_high S n c spent Q q r w h1 h2 h3
    by_cases h4 : 12 < (q : Int)
    · exact sspent_many S n c spent Q q r w h1 h2 h3 h4
    obtain ⟨k, rfl⟩ := Int.eq_ofNat_of_zero_le (show 0 ≤ spent by omega)
    subst h1
    exact sspent_ok S c seed k Q q r L w hs hr (by omega) (by omega) hL hrq hLs
  · exact sspent_len S n c spent Q q r w (by simp; omega)
end Go.Proofs.Ytoggpnncmgcgoaa
