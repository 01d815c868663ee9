/- The general law of Quotients, for every code: its walk and its row. No conditions. -/
import Derived.Test.YtablpijnjkncfaaGreatFQ
import Derived.Test.YtablpijnjkncfaaGreatF80
import Derived.Test.YtablpijnjkncfaaGreatF65
import Derived.Test.YtablpijnjkncfaaGreatFE
import Derived.Test.YtablpijnjkncfaaGreatF28
import Derived.Test.YtablpijnjkncfaaGreatF26
import Derived.Test.YtablpijnjkncfaaGreatFF
import Derived.Test.YtablpijnjkncfaaGreatRA
import Derived.WalkKit
import Derived.ShutString
namespace Go.Proofs.YtablpijnjkncfaaGreat
open Go.Mem Go.ChangeShapes Go.WideShapes Go.ChangeAt Go.RowKit
set_option linter.unusedVariables false
set_option linter.unusedSimpArgs false

theorem qb_0 {ms A : List (List Int)} (h : qbC ms A = 0) : IsMan ms ∧ AutsOk ms A ∧ IsMan (quoL ms A) := by
  by_cases hm : IsMan ms
  · by_cases ha : AutsOk ms A
    · by_cases hq : IsMan (quoL ms A)
      · exact ⟨hm, ha, hq⟩
      · rw [(qb_3 hm ha hq).2] at h; omega
    · rw [(qb_2 hm ha).2] at h; omega
  · rw [(qb_1 (A := A) hm).2] at h; omega

set_option maxHeartbeats 32000000 in
set_option maxRecDepth 100000 in
theorem lawQuotients_any (c : Value) (bs : List Int) (w : World) (hcl : CL w c bs) :
    Ret Tryz.prog 3 #[c] w fun r w' => r = .bool true ∧ Below w.heap.size w w' := by
  have shcl := hcl.sv
  have hb := Below.refl w.heap.size w
  refine enter1 189 Tryz.func3 rfl Tryz.ntmps3 rfl (fun fr => ?_)
  refine go ?_
  refine s_call1 (wn rfl) rfl rfl (big_any _ _ _ hcl) ?_
  rintro _ _ ⟨rfl, rfl⟩
  refine go ?_
  refine cond_dec rfl (fun hbig => ?_) (fun hbig => ?_)
  · refine go ?_
    exact end_one Tryz.results3 rfl ⟨rfl, hb⟩
  refine go ?_
  refine s_call1 (wn rfl) rfl rfl (DrawQuotientBy_any _ _ _ hcl) ?_
  rintro _ w1 ⟨x, ms, lv, aa, rfl, hv, ha, hb1⟩
  have sw1 := hb1.size
  replace hcl := hcl.below hb1
  replace hb := hb.trans (hb1.mono hb.size)
  have shv := hv.sv
  have sha := ha.sv
  refine go ?_
  refine go ?_
  refine s_alloc (B := w1.heap.size) (wn rfl) rfl (Nat.le_refl _) (fun w2 p3 hx3 hg2 hpp3 => ?_)
  have hb2 := below_of_grownBy hg2
  refine go ?_
  refine s_storeBox (wn rfl) rfl rfl shv.one hx3 (fun w3 hx3b hg3 => ?_)
  have hbq3 := hb2.trans (hx3.below_of hg3 hb2.size)
  have sw3 := hbq3.size
  replace hcl := hcl.below hbq3
  replace hv := hv.below hbq3
  replace ha := ha.below hbq3
  replace hb := hb.trans (hbq3.mono hb.size)
  have hc3 := hx3b.cell
  refine go ?_
  refine s_call2 (wn rfl) rfl rfl rfl (implQuotientBy_any _ _ _ _ _ hv ha) ?_
  rintro _ w4 ⟨kx, rfl, hk0, hb4⟩
  have sw4 := hb4.size
  replace hcl := hcl.below hb4
  replace hv := hv.below hb4
  replace ha := ha.below hb4
  replace hc3 := cell_below hc3 hb4
  replace hb := hb.trans (hb4.mono hb.size)
  have hk := hk0.rl
  have shk := hk0.sv
  clear hk0
  refine go ?_
  refine go ?_
  refine s_alloc (B := w4.heap.size) (wn rfl) rfl (Nat.le_refl _) (fun w5 p5 hx5 hg5 hpp5 => ?_)
  have hb5 := below_of_grownBy hg5
  refine go ?_
  refine s_storeBox (wn rfl) rfl rfl shk.one hx5 (fun w6 hx5b hg5 => ?_)
  have hbq5 := hb5.trans (hx5.below_of hg5 hb5.size)
  have sw6 := hbq5.size
  replace hcl := hcl.below hbq5
  replace hv := hv.below hbq5
  replace ha := ha.below hbq5
  replace hc3 := cell_below hc3 hbq5
  replace hk := hk.below hbq5
  replace hb := hb.trans (hbq5.mono hb.size)
  have hc5 := hx5b.cell
  refine go ?_
  refine s_call2 (wn rfl) rfl rfl rfl (specQuotientBy_any _ _ _ _ _ hv ha) ?_
  rintro _ w7 ⟨kx2, rfl, hk0, hb7⟩
  have sw7 := hb7.size
  replace hcl := hcl.below hb7
  replace hv := hv.below hb7
  replace ha := ha.below hb7
  replace hc3 := cell_below hc3 hb7
  replace hk := hk.below hb7
  replace hc5 := cell_below hc5 hb7
  replace hb := hb.trans (hb7.mono hb.size)
  have hk2 := hk0.rl
  have shk2 := hk0.sv
  clear hk0
  refine go ?_
  refine go ?_
  refine s_alloc (B := w7.heap.size) (wn rfl) rfl (Nat.le_refl _) (fun w8 p7 hx7 hg8 hpp7 => ?_)
  have hb8 := below_of_grownBy hg8
  refine go ?_
  refine s_storeBox (wn rfl) rfl rfl shk2.one hx7 (fun w9 hx7b hg7 => ?_)
  have hbq7 := hb8.trans (hx7.below_of hg7 hb8.size)
  have sw9 := hbq7.size
  replace hcl := hcl.below hbq7
  replace hv := hv.below hbq7
  replace ha := ha.below hbq7
  replace hc3 := cell_below hc3 hbq7
  replace hk := hk.below hbq7
  replace hc5 := cell_below hc5 hbq7
  replace hk2 := hk2.below hbq7
  replace hb := hb.trans (hbq7.mono hb.size)
  have hc7 := hx7b.cell
  have hn1 : ¬ (qbC ms aa ≠ qbC ms aa) := fun h => h rfl
  refine go ?_
  refine go ?_
  refine s_call2 (wy rfl rfl rfl rfl rfl known) rfl rfl rfl (like5_any _ _ _ _ _ hk hk2) ?_
  rintro _ w10 ⟨rfl, hb10⟩
  have sw10 := hb10.size
  replace hcl := hcl.below hb10
  replace hv := hv.below hb10
  replace ha := ha.below hb10
  replace hc3 := cell_below hc3 hb10
  replace hk := hk.below hb10
  replace hc5 := cell_below hc5 hb10
  replace hk2 := hk2.below hb10
  replace hc7 := cell_below hc7 hb10
  replace hb := hb.trans (hb10.mono hb.size)
  rw [decide_eq_true rfl]
  refine go ?_
  refine cond_dec rfl (fun hc0 => ?_) (fun hc0 => ?_)
  · refine go ?_
    exact end_one Tryz.results3 rfl ⟨rfl, hb⟩
  obtain ⟨hm, hao, hq⟩ := qb_0 (Decidable.not_not.1 hc0)
  have e := qb_4 hm hao hq
  have hl16 := hao.1
  rw [e.1] at hk shk hk2 shk2
  have hA := hao.hom hm
  have hsym := homs_sym hm hA
  have hA2 : ∀ p ∈ aa, IsPerm p ∧ p.length = nf ms := fun p h => ⟨(hA p h).perm hm hm rfl rfl, (hA p h).len⟩
  have hcov := quo_cov hm hA hq
  have hcc := covC_3 hm hq hcov
  have hicb := isCovB_2 (xs := labs (nf ms) aa) hm hq
  have hnorm := quo_norm hm hA hq
  have hnor2 := isNorm_yes hcc
  have hdkL := deckL_yes hcc
  have hdeck := quo_deck hm hA
  have r1 := hm.m0.r1
  have r5 := hm.m0.r5
  have f2 := hm.m0.f2
  have f4 := hm.m0.f400
  have kr1 := hq.m0.r1
  have kf2 := hq.m0.f2
  have kf4 := hq.m0.f400
  have hfib := fib_3 (f := 0) hcc ⟨by omega, by omega⟩
  have hn2 : ¬ ((0 : Int) ≠ 0) := by decide
  have hdec := decide_eq_true hcov
  have hdq := decide_eq_true hq
  have hplc := plc_le (labs (nf ms) aa) 0
  obtain ⟨hno1, hno2, hno3⟩ := hnorm
  have hlablen : (labs (nf ms) aa).length = nf ms := (labs_all hsym (by omega)).len
  refine go ?_
  refine s_call1 (wn rfl) rfl rfl (flags5_any _ _ _ hv r1) ?_
  rintro _ w11 ⟨rfl, hb11⟩
  have sw11 := hb11.size
  replace hcl := hcl.below hb11
  replace hv := hv.below hb11
  replace ha := ha.below hb11
  replace hc3 := cell_below hc3 hb11
  replace hk := hk.below hb11
  replace hc5 := cell_below hc5 hb11
  replace hk2 := hk2.below hb11
  replace hc7 := cell_below hc7 hb11
  replace hb := hb.trans (hb11.mono hb.size)
  refine go ?_
  refine s_call2 (wn rfl) rfl rfl rfl (OrbitLabels_good _ _ _ (nf ms) _ ha rfl (by omega) hao.1 hA2 hsym) ?_
  rintro _ w12 ⟨lb, rfl, hL, hb12⟩
  have sw12 := hb12.size
  replace hcl := hcl.below hb12
  replace hv := hv.below hb12
  replace ha := ha.below hb12
  replace hc3 := cell_below hc3 hb12
  replace hk := hk.below hb12
  replace hc5 := cell_below hc5 hb12
  replace hk2 := hk2.below hb12
  replace hc7 := cell_below hc7 hb12
  replace hb := hb.trans (hb12.mono hb.size)
  have sL := hL.sv
  refine go ?_
  refine s_call3 (wn rfl) rfl rfl rfl rfl (implIsCovering_any _ _ _ _ _ _ _ hv hk hL.il) ?_
  rintro _ w13 ⟨rfl, hb13⟩
  have sw13 := hb13.size
  replace hcl := hcl.below hb13
  replace hv := hv.below hb13
  replace ha := ha.below hb13
  replace hc3 := cell_below hc3 hb13
  replace hk := hk.below hb13
  replace hc5 := cell_below hc5 hb13
  replace hk2 := hk2.below hb13
  replace hc7 := cell_below hc7 hb13
  replace hL := hL.below hb13
  replace hb := hb.trans (hb13.mono hb.size)
  rw [hicb.1, hicb.2, hdec]
  refine go ?_
  refine s_call3 (wn rfl) rfl rfl rfl rfl (implDeckMoves_any _ _ _ _ _ _ _ hv hk hL.il) ?_
  rintro _ w14 ⟨dx, rfl, hD, hb14⟩
  have sw14 := hb14.size
  replace hcl := hcl.below hb14
  replace hv := hv.below hb14
  replace ha := ha.below hb14
  replace hc3 := cell_below hc3 hb14
  replace hk := hk.below hb14
  replace hc5 := cell_below hc5 hb14
  replace hk2 := hk2.below hb14
  replace hc7 := cell_below hc7 hb14
  replace hL := hL.below hb14
  replace hb := hb.trans (hb14.mono hb.size)
  rw [hdkL] at hD
  rw [hcc]
  have sD := hD.sv
  refine go ?_
  refine s_call3 (wn rfl) rfl rfl rfl rfl (implIsNormalCovering_any _ _ _ _ _ _ _ hv hk hL.il) ?_
  rintro _ w15 ⟨rfl, hb15⟩
  have sw15 := hb15.size
  replace hcl := hcl.below hb15
  replace hv := hv.below hb15
  replace ha := ha.below hb15
  replace hc3 := cell_below hc3 hb15
  replace hk := hk.below hb15
  replace hc5 := cell_below hc5 hb15
  replace hk2 := hk2.below hb15
  replace hc7 := cell_below hc7 hb15
  replace hL := hL.below hb15
  replace hD := hD.below hb15
  replace hb := hb.trans (hb15.mono hb.size)
  rw [hno1, hcc]
  refine go ?_
  refine s_call4 (wn rfl) rfl rfl rfl rfl rfl (implFibreOf_any _ _ _ _ _ _ 0 _ hv hk hL.il) ?_
  rintro _ w16 ⟨fx, rfl, hF, hb16⟩
  have sw16 := hb16.size
  replace hcl := hcl.below hb16
  replace hv := hv.below hb16
  replace ha := ha.below hb16
  replace hc3 := cell_below hc3 hb16
  replace hk := hk.below hb16
  replace hc5 := cell_below hc5 hb16
  replace hk2 := hk2.below hb16
  replace hc7 := cell_below hc7 hb16
  replace hL := hL.below hb16
  replace hD := hD.below hb16
  replace hb := hb.trans (hb16.mono hb.size)
  rw [hfib.1] at hF
  rw [hfib.2]
  have sF := hF.sv
  have k1 : ¬ (((deck ms (labs (nf ms) aa)).length : Int) ≠ ((plc (labs (nf ms) aa) 0).length : Int)) := fun h => h (by omega)
  have hmul : ((plc (labs (nf ms) aa) 0).length : Int) * (nf (quoL ms aa) : Int) = (nf ms : Int) := by exact_mod_cast hno3
  have k2 : ¬ (((plc (labs (nf ms) aa) 0).length : Int) * (nf (quoL ms aa) : Int) ≠ (nf ms : Int)) := fun h => h hmul
  have hmb : -9223372036854775808 ≤ ((plc (labs (nf ms) aa) 0).length : Int) * (nf (quoL ms aa) : Int) ∧ ((plc (labs (nf ms) aa) 0).length : Int) * (nf (quoL ms aa) : Int) ≤ 9223372036854775807 := by rw [hmul]; omega
  refine go ?_
  refine region_hS (fun w' => w'.cell? p5 = some kx ∧ w'.cell? p3 = some x) mixed (fun w17 hb17 => ?_)
  have sw17 := hb17.size
  replace hcl := hcl.below hb17
  replace hv := hv.below hb17
  replace ha := ha.below hb17
  replace hc3 := cell_below hc3 hb17
  replace hk := hk.below hb17
  replace hc5 := cell_below hc5 hb17
  replace hk2 := hk2.below hb17
  replace hc7 := cell_below hc7 hb17
  replace hL := hL.below hb17
  replace hD := hD.below hb17
  replace hF := hF.below hb17
  replace hb := hb.trans (hb17.mono hb.size)
  refine h_p 0 ⟨hc5, hc3⟩ ?_ (hrun := fun w' h => by obtain ⟨h1, h2⟩ := h; exact yl)
  refine h_p 1 ⟨hc5, hc3⟩ ?_ (hrun := fun w' h => by obtain ⟨h1, h2⟩ := h; exact yl)
  refine h_p 2 ⟨hc5, hc3⟩ ?_ (hrun := fun w' h => by obtain ⟨h1, h2⟩ := h; exact yl)
  refine h_p 3 ⟨hc5, hc3⟩ ?_ (hrun := fun w' h => by obtain ⟨h1, h2⟩ := h; exact yl)
  refine h_p 4 ⟨hc5, hc3⟩ ?_ (hrun := fun w' h => by obtain ⟨h1, h2⟩ := h; exact yl)
  refine h_p 5 ⟨hc5, hc3⟩ ?_ (hrun := fun w' h => by obtain ⟨h1, h2⟩ := h; exact yl)
  refine h_p 6 ⟨hc5, hc3⟩ ?_ (hrun := fun w' h => by obtain ⟨h1, h2⟩ := h; exact yl)
  refine h_p 7 ⟨hc5, hc3⟩ ?_ (hrun := fun w' h => by obtain ⟨h1, h2⟩ := h; exact yl)
  refine h_p 8 ⟨hc5, hc3⟩ ?_ (hrun := fun w' h => by obtain ⟨h1, h2⟩ := h; exact yl)
  refine h_p 9 ⟨hc5, hc3⟩ ?_ (hrun := fun w' h => by obtain ⟨h1, h2⟩ := h; exact yl)
  refine h_p 10 ⟨hc5, hc3⟩ ?_ (hrun := fun w' h => by obtain ⟨h1, h2⟩ := h; exact yl)
  refine h_p 11 ⟨hc5, hc3⟩ ?_ (hrun := fun w' h => by obtain ⟨h1, h2⟩ := h; exact yl)
  refine h_p 12 ⟨hc5, hc3⟩ ?_ (hrun := fun w' h => by obtain ⟨h1, h2⟩ := h; exact yl)
  refine h_p 13 ⟨hc5, hc3⟩ ?_ (hrun := fun w' h => by obtain ⟨h1, h2⟩ := h; exact yl)
  refine h_p 14 ⟨hc5, hc3⟩ ?_ (hrun := fun w' h => by obtain ⟨h1, h2⟩ := h; exact yl)
  refine h_p 15 ⟨hc5, hc3⟩ ?_ (hrun := fun w' h => by obtain ⟨h1, h2⟩ := h; exact yl)
  refine h_p 16 ⟨hc5, hc3⟩ ?_ (hrun := fun w' h => by obtain ⟨h1, h2⟩ := h; exact yl)
  refine h_p 17 ⟨hc5, hc3⟩ ?_ (hrun := fun w' h => by obtain ⟨h1, h2⟩ := h; exact yl)
  refine h_p 18 ⟨hc5, hc3⟩ ?_ (hrun := fun w' h => by obtain ⟨h1, h2⟩ := h; exact yl)
  refine h_p 19 ⟨hc5, hc3⟩ ?_ (hrun := fun w' h => by obtain ⟨h1, h2⟩ := h; exact yl)
  refine h_p 20 ⟨hc5, hc3⟩ ?_ (hrun := fun w' h => by obtain ⟨h1, h2⟩ := h; exact yl)
  refine h_p 21 ⟨hc5, hc3⟩ ?_ (hrun := fun w' h => by obtain ⟨h1, h2⟩ := h; exact yl)
  refine h_p 22 ⟨hc5, hc3⟩ ?_ (hrun := fun w' h => by obtain ⟨h1, h2⟩ := h; exact yl)
  refine h_p 23 ⟨hc5, hc3⟩ ?_ (hrun := fun w' h => by obtain ⟨h1, h2⟩ := h; exact yl)
  refine h_p 24 ⟨hc5, hc3⟩ ?_ (hrun := fun w' h => by obtain ⟨h1, h2⟩ := h; exact yl)
  refine h_p 25 ⟨hc5, hc3⟩ ?_ (hrun := fun w' h => by obtain ⟨h1, h2⟩ := h; exact yl)
  refine h_p 26 ⟨hc5, hc3⟩ ?_ (hrun := fun w' h => by obtain ⟨h1, h2⟩ := h; exact yl)
  refine h_p 27 ⟨hc5, hc3⟩ ?_ (hrun := fun w' h => by obtain ⟨h1, h2⟩ := h; exact yl)
  refine h_one 28 ?_
  refine s_call1 (wy rfl rfl rfl rfl rfl known) rfl rfl (IsManiplex_any _ _ _ hk) ?_
  rintro _ w18 ⟨rfl, hb18⟩
  have sw18 := hb18.size
  replace hcl := hcl.below hb18
  replace hv := hv.below hb18
  replace ha := ha.below hb18
  replace hc3 := cell_below hc3 hb18
  replace hk := hk.below hb18
  replace hc5 := cell_below hc5 hb18
  replace hk2 := hk2.below hb18
  replace hc7 := cell_below hc7 hb18
  replace hL := hL.below hb18
  replace hD := hD.below hb18
  replace hF := hF.below hb18
  replace hb := hb.trans (hb18.mono hb.size)
  rw [hdq]
  refine w_nil ?_
  refine h_on ⟨⟨hc5, hc3⟩, ?_⟩
  refine h_p 29 ⟨hc5, hc3⟩ ?_ (hrun := fun w' h => by obtain ⟨h1, h2⟩ := h; exact yl)
  refine h_p 30 ⟨hc5, hc3⟩ ?_ (hrun := fun w' h => by obtain ⟨h1, h2⟩ := h; exact yl)
  refine h_p 31 ⟨hc5, hc3⟩ ?_ (hrun := fun w' h => by obtain ⟨h1, h2⟩ := h; exact yl)
  refine h_p 32 ⟨hc5, hc3⟩ ?_ (hrun := fun w' h => by obtain ⟨h1, h2⟩ := h; exact yl)
  refine h_p 33 ⟨hc5, hc3⟩ ?_ (hrun := fun w' h => by obtain ⟨h1, h2⟩ := h; exact yl)
  refine h_p 34 ⟨hc5, hc3⟩ ?_ (hrun := fun w' h => by obtain ⟨h1, h2⟩ := h; exact yl)
  refine h_p 35 ⟨hc5, hc3⟩ ?_ (hrun := fun w' h => by obtain ⟨h1, h2⟩ := h; exact yl)
  refine h_p 36 ⟨hc5, hc3⟩ ?_ (hrun := fun w' h => by obtain ⟨h1, h2⟩ := h; exact yl)
  refine h_p 37 ⟨hc5, hc3⟩ ?_ (hrun := fun w' h => by obtain ⟨h1, h2⟩ := h; exact yl)
  refine h_p 38 ⟨hc5, hc3⟩ ?_ (hrun := fun w' h => by obtain ⟨h1, h2⟩ := h; exact yl)
  refine h_p 39 ⟨hc5, hc3⟩ ?_ (hrun := fun w' h => by obtain ⟨h1, h2⟩ := h; exact yl)
  refine h_p 40 ⟨hc5, hc3⟩ ?_ (hrun := fun w' h => by obtain ⟨h1, h2⟩ := h; exact yl)
  refine h_p 41 ⟨hc5, hc3⟩ ?_ (hrun := fun w' h => by obtain ⟨h1, h2⟩ := h; exact yl)
  refine h_p 44 ⟨hc5, hc3⟩ ?_ (hrun := fun w' h => by obtain ⟨h1, h2⟩ := h; exact yl)
  refine h_one 42 ?_
  refine s_call1 (wy rfl rfl rfl rfl rfl known) rfl rfl (flags5_any _ _ _ hk kr1) ?_
  rintro _ w19 ⟨rfl, hb19⟩
  have sw19 := hb19.size
  replace hcl := hcl.below hb19
  replace hv := hv.below hb19
  replace ha := ha.below hb19
  replace hc3 := cell_below hc3 hb19
  replace hk := hk.below hb19
  replace hc5 := cell_below hc5 hb19
  replace hk2 := hk2.below hb19
  replace hc7 := cell_below hc7 hb19
  replace hL := hL.below hb19
  replace hD := hD.below hb19
  replace hF := hF.below hb19
  replace hb := hb.trans (hb19.mono hb.size)
  refine w_nil ?_
  refine h_on ⟨⟨hc5, hc3⟩, ?_⟩
  refine h_p 43 ⟨hc5, hc3⟩ ?_ (hrun := fun w' h => y_mul rfl rfl hmb)
  refine h_one 45 ?_
  refine s_call1 (wy rfl rfl rfl rfl rfl known) rfl rfl (flags5_any _ _ _ hv r1) ?_
  rintro _ w20 ⟨rfl, hb20⟩
  have sw20 := hb20.size
  replace hcl := hcl.below hb20
  replace hv := hv.below hb20
  replace ha := ha.below hb20
  replace hc3 := cell_below hc3 hb20
  replace hk := hk.below hb20
  replace hc5 := cell_below hc5 hb20
  replace hk2 := hk2.below hb20
  replace hc7 := cell_below hc7 hb20
  replace hL := hL.below hb20
  replace hD := hD.below hb20
  replace hF := hF.below hb20
  replace hb := hb.trans (hb20.mono hb.size)
  refine w_nil ?_
  refine h_on ⟨⟨hc5, hc3⟩, ?_⟩
  refine h_p 46 ⟨hc5, hc3⟩ ?_ (hrun := fun w' h => by obtain ⟨h1, h2⟩ := h; exact yl)
  refine h_p 47 ⟨hc5, hc3⟩ ?_ (hrun := fun w' h => by obtain ⟨h1, h2⟩ := h; exact yl)
  refine h_nil ?_
  refine go ?_
  have sbs1 := hb.size
  have hcl_b1 := hcl
  have hv_b1 := hv
  have ha_b1 := ha
  have hc3_b1 := hc3
  have hk_b1 := hk
  have hc5_b1 := hc5
  have hk2_b1 := hk2
  have hc7_b1 := hc7
  have hL_b1 := hL
  have hD_b1 := hD
  have hF_b1 := hF
  have hbB1 := Below.refl w20.heap.size w20
  refine go ?_
  refine w_loop (fun kk fr w' => ∃ (i : Nat), kk = aa.length - i ∧ i ≤ aa.length ∧ fr 3 = .pointer (some p3) ∧ fr 4 = lv ∧ fr 5 = .pointer (some p5) ∧ fr 13 = dx ∧ fr 19 = .int .i64 i ∧ Below w20.heap.size w20 w') (aa.length)
    ⟨0, rfl, Nat.zero_le _, rfl, rfl, rfl, rfl, rfl, hbB1⟩ ?_
  rintro kk fr w21 ⟨i, rfl, hi, f3, f4, f5, f13, f19, hbB1⟩
  have sw21 := hbB1.size
  have hcl := hcl_b1.below hbB1
  have hv := hv_b1.below hbB1
  have ha := ha_b1.below hbB1
  have hc3 := cell_below hc3_b1 hbB1
  have hk := hk_b1.below hbB1
  have hc5 := cell_below hc5_b1 hbB1
  have hk2 := hk2_b1.below hbB1
  have hc7 := cell_below hc7_b1 hbB1
  have hL := hL_b1.below hbB1
  have hD := hD_b1.below hbB1
  have hF := hF_b1.below hbB1
  refine know (t := 3) f3 ?_; refine know (t := 4) f4 ?_; refine know (t := 5) f5 ?_; refine know (t := 13) f13 ?_; refine know (t := 19) f19 ?_
  refine go ?_
  refine cond_dec rfl (fun hlt => ?_) (fun hge => ?_)
  · obtain ⟨u, hu, hcu⟩ := ha.row (j := (i : Int)) (by omega) (by omega)
    have hin := decide_eq_true (hdeck _ (gr_in (xss := aa) (j := i) (by omega)))
    refine go ?_
    refine s_call2 (wn rfl) rfl rfl rfl (hasRow5_any _ _ _ _ _ hD.rl hu) ?_
    rintro _ w22 ⟨rfl, hb22⟩
    have sw22 := hb22.size
    replace hcl := hcl.below hb22
    replace hv := hv.below hb22
    replace ha := ha.below hb22
    replace hc3 := cell_below hc3 hb22
    replace hk := hk.below hb22
    replace hc5 := cell_below hc5 hb22
    replace hk2 := hk2.below hb22
    replace hc7 := cell_below hc7 hb22
    replace hL := hL.below hb22
    replace hD := hD.below hb22
    replace hF := hF.below hb22
    replace hu := hu.below hb22
    replace hcu := cell_below hcu hb22
    replace hbB1 := hbB1.trans (hb22.mono hbB1.size)
    rw [hin]
    refine go ?_
    refine ⟨aa.length - (i + 1), by omega, i + 1, rfl, by omega, rfl, rfl, rfl, rfl, rfl, hbB1⟩
  obtain rfl : i = aa.length := by omega
  refine go ?_
  refine cond_dec rfl (fun h1 => ?_) (fun h1 => ?_)
  · refine go ?_
    exact end_one Tryz.results3 rfl ⟨rfl, (hb.trans (hbB1.mono hb.size))⟩
  obtain ⟨p1, rfl⟩ : ∃ p, aa = [p] := by
    match aa, h1 with
    | [p], _ => exact ⟨p, rfl⟩
    | [], h => exact absurd (fun h2 => by simp at h2) h
    | _ :: _ :: _, h => exact absurd (fun h2 => by simp at h2; omega) h
  have hlst := qf_has hm (hA p1 (by simp)) hq
  have eq := qf_2 hm
  refine go ?_
  refine s_call1 (wn rfl) rfl rfl (implQuotientForms_any _ _ _ hv) ?_
  rintro _ w23 ⟨lx, rfl, hG0, hb23⟩
  have sw23 := hb23.size
  replace hcl := hcl.below hb23
  replace hv := hv.below hb23
  replace ha := ha.below hb23
  replace hc3 := cell_below hc3 hb23
  replace hk := hk.below hb23
  replace hc5 := cell_below hc5 hb23
  replace hk2 := hk2.below hb23
  replace hc7 := cell_below hc7 hb23
  replace hL := hL.below hb23
  replace hD := hD.below hb23
  replace hF := hF.below hb23
  replace hbB1 := hbB1.trans (hb23.mono hbB1.size)
  have hG := hG0.rs
  clear hG0
  rw [eq.2]
  have sG := hG.sv
  have scG := sG.le
  obtain ⟨F, hFe⟩ : ∃ F, F = qfL ms := ⟨_, rfl⟩
  rw [← hFe] at hG sG scG hlst
  refine go ?_
  refine s_call1 (wn rfl) rfl rfl (LeastForm_good _ _ _ hk hq) ?_
  rintro _ w24 ⟨zx, rfl, hz0, hb24⟩
  have sw24 := hb24.size
  replace hcl := hcl.below hb24
  replace hv := hv.below hb24
  replace ha := ha.below hb24
  replace hc3 := cell_below hc3 hb24
  replace hk := hk.below hb24
  replace hc5 := cell_below hc5 hb24
  replace hk2 := hk2.below hb24
  replace hc7 := cell_below hc7 hb24
  replace hL := hL.below hb24
  replace hD := hD.below hb24
  replace hF := hF.below hb24
  replace hG := hG.below hb24
  replace hbB1 := hbB1.trans (hb24.mono hbB1.size)
  have hz := hz0.rl
  have shz := hz0.sv
  clear hz0
  generalize lst (quoL ms [p1]) = K at *
  refine go ?_
  refine go ?_
  refine s_alloc (B := w24.heap.size) (wn rfl) rfl (Nat.le_refl _) (fun w25 p22 hx22 hg25 hpp22 => ?_)
  have hb25 := below_of_grownBy hg25
  refine go ?_
  refine s_storeBox (wn rfl) rfl rfl shz.one hx22 (fun w26 hx22b hg22 => ?_)
  have hbq22 := hb25.trans (hx22.below_of hg22 hb25.size)
  have sw26 := hbq22.size
  replace hcl := hcl.below hbq22
  replace hv := hv.below hbq22
  replace ha := ha.below hbq22
  replace hc3 := cell_below hc3 hbq22
  replace hk := hk.below hbq22
  replace hc5 := cell_below hc5 hbq22
  replace hk2 := hk2.below hbq22
  replace hc7 := cell_below hc7 hbq22
  replace hL := hL.below hbq22
  replace hD := hD.below hbq22
  replace hF := hF.below hbq22
  replace hG := hG.below hbq22
  replace hz := hz.below hbq22
  replace hbB1 := hbB1.trans (hbq22.mono hbB1.size)
  have hc22 := hx22b.cell
  refine go ?_
  have sbs2 := hbB1.size
  have hcl_b2 := hcl
  have hv_b2 := hv
  have ha_b2 := ha
  have hc3_b2 := hc3
  have hk_b2 := hk
  have hc5_b2 := hc5
  have hk2_b2 := hk2
  have hc7_b2 := hc7
  have hL_b2 := hL
  have hD_b2 := hD
  have hF_b2 := hF
  have hG_b2 := hG
  have hz_b2 := hz
  have hc22_b2 := hc22
  have hbB2 := Below.refl w26.heap.size w26
  refine go ?_
  refine w_loop (fun kk fr w' => ∃ (t : Nat) (fd : Bool), kk = F.length - t ∧ t ≤ F.length ∧ fr 20 = lx ∧ fr 21 = .int .i64 0 ∧ fr 22 = .pointer (some p22) ∧ fr 23 = .int .i64 0 ∧ fr 24 = .bool fd ∧ fr 25 = .int .i64 t ∧ (fd = true ↔ ∃ j : Nat, j < t ∧ F.getD j [] = K) ∧ Below w26.heap.size w26 w') (F.length)
    ⟨0, false, rfl, Nat.zero_le _, rfl, rfl, rfl, rfl, rfl, rfl, ⟨fun h => (by cases h), fun ⟨j, h, _⟩ => absurd h (by omega)⟩, hbB2⟩ ?_
  rintro kk fr w27 ⟨t, fd, rfl, ht, f20, f21, f22, f23, f24, f25, hfd, hbB2⟩
  have sw27 := hbB2.size
  have hcl := hcl_b2.below hbB2
  have hv := hv_b2.below hbB2
  have ha := ha_b2.below hbB2
  have hc3 := cell_below hc3_b2 hbB2
  have hk := hk_b2.below hbB2
  have hc5 := cell_below hc5_b2 hbB2
  have hk2 := hk2_b2.below hbB2
  have hc7 := cell_below hc7_b2 hbB2
  have hL := hL_b2.below hbB2
  have hD := hD_b2.below hbB2
  have hF := hF_b2.below hbB2
  have hG := hG_b2.below hbB2
  have hz := hz_b2.below hbB2
  have hc22 := cell_below hc22_b2 hbB2
  refine know (t := 20) f20 ?_; refine know (t := 21) f21 ?_; refine know (t := 22) f22 ?_; refine know (t := 23) f23 ?_; refine know (t := 24) f24 ?_; refine know (t := 25) f25 ?_
  refine go ?_
  refine cond_dec rfl (fun hlt2 => ?_) (fun hge2 => ?_)
  · obtain ⟨u, hu, hcu⟩ := hG.el (j := t) (by omega)
    have hnn : ((t : Int)).toNat = t := by omega
    rw [← hnn] at hcu
    refine go ?_
    cases fd
    rotate_left
    · have kk : (true : Bool) = true := rfl
      refine region_hS (fun w' => True) mixed (fun w28 hb28 => ?_)
      have sw28 := hb28.size
      replace hcl := hcl.below hb28
      replace hv := hv.below hb28
      replace ha := ha.below hb28
      replace hc3 := cell_below hc3 hb28
      replace hk := hk.below hb28
      replace hc5 := cell_below hc5 hb28
      replace hk2 := hk2.below hb28
      replace hc7 := cell_below hc7 hb28
      replace hL := hL.below hb28
      replace hD := hD.below hb28
      replace hF := hF.below hb28
      replace hG := hG.below hb28
      replace hz := hz.below hb28
      replace hc22 := cell_below hc22 hb28
      replace hu := hu.below hb28
      replace hcu := cell_below hcu hb28
      replace hbB2 := hbB2.trans (hb28.mono hbB2.size)
      refine h_p 0 trivial ?_ (hrun := fun w' h => yl)
      refine h_p 1 trivial ?_ (hrun := fun w' h => yl)
      refine h_no 2 trivial ?_
      refine h_no 3 trivial ?_
      refine h_no 4 trivial ?_
      refine h_no 5 trivial ?_
      refine h_no 6 trivial ?_
      refine h_no 7 trivial ?_
      refine h_p 8 trivial ?_ (hrun := fun w' h => yl)
      refine h_p 9 trivial ?_ (hrun := fun w' h => yl)
      refine h_nil ?_
      have hfd1 := hfd.1 rfl
      refine go ?_
      refine ⟨F.length - (t + 1), by omega, t + 1, true, rfl, by omega, rfl, rfl, rfl, rfl, rfl, rfl, ⟨fun _ => by obtain ⟨j, h, e⟩ := hfd1; exact ⟨j, by omega, e⟩, fun _ => rfl⟩, hbB2⟩
    have kk : (false : Bool) = false := rfl
    refine region_hS (fun w' => w'.cell? p22 = some zx ∧ w'.cell? (addrOf lx ((t : Int)).toNat) = some u) mixed (fun w29 hb29 => ?_)
    have sw29 := hb29.size
    replace hcl := hcl.below hb29
    replace hv := hv.below hb29
    replace ha := ha.below hb29
    replace hc3 := cell_below hc3 hb29
    replace hk := hk.below hb29
    replace hc5 := cell_below hc5 hb29
    replace hk2 := hk2.below hb29
    replace hc7 := cell_below hc7 hb29
    replace hL := hL.below hb29
    replace hD := hD.below hb29
    replace hF := hF.below hb29
    replace hG := hG.below hb29
    replace hz := hz.below hb29
    replace hc22 := cell_below hc22 hb29
    replace hu := hu.below hb29
    replace hcu := cell_below hcu hb29
    replace hbB2 := hbB2.trans (hb29.mono hbB2.size)
    refine h_p 0 ⟨hc22, hcu⟩ ?_ (hrun := fun w' h => by obtain ⟨h1, h2⟩ := h; exact yl)
    refine h_p 1 ⟨hc22, hcu⟩ ?_ (hrun := fun w' h => by obtain ⟨h1, h2⟩ := h; exact yl)
    refine h_p 2 ⟨hc22, hcu⟩ ?_ (hrun := fun w' h => by obtain ⟨h1, h2⟩ := h; exact yl)
    refine h_p 3 ⟨hc22, hcu⟩ ?_ (hrun := fun w' h => by obtain ⟨h1, h2⟩ := h; exact yl)
    refine h_p 4 ⟨hc22, hcu⟩ ?_ (hrun := fun w' h => y_idxSE rfl rfl sG (by omega) (by omega))
    refine h_p 5 ⟨hc22, hcu⟩ ?_ (hrun := fun w' h => by obtain ⟨h1, h2⟩ := h; exact yl)
    refine h_p 6 ⟨hc22, hcu⟩ ?_ (hrun := fun w' h => by obtain ⟨h1, h2⟩ := h; exact yl)
    refine h_one 7 ?_
    refine s_call2 (wy rfl rfl rfl rfl rfl known) rfl rfl rfl (like5_any _ _ _ _ _ hu hz) ?_
    rintro _ w30 ⟨rfl, hb30⟩
    have sw30 := hb30.size
    replace hcl := hcl.below hb30
    replace hv := hv.below hb30
    replace ha := ha.below hb30
    replace hc3 := cell_below hc3 hb30
    replace hk := hk.below hb30
    replace hc5 := cell_below hc5 hb30
    replace hk2 := hk2.below hb30
    replace hc7 := cell_below hc7 hb30
    replace hL := hL.below hb30
    replace hD := hD.below hb30
    replace hF := hF.below hb30
    replace hG := hG.below hb30
    replace hz := hz.below hb30
    replace hc22 := cell_below hc22 hb30
    replace hu := hu.below hb30
    replace hcu := cell_below hcu hb30
    replace hbB2 := hbB2.trans (hb30.mono hbB2.size)
    refine w_nil ?_
    refine h_on ⟨⟨hc22, hcu⟩, ?_⟩
    refine h_p 8 ⟨hc22, hcu⟩ ?_ (hrun := fun w' h => by obtain ⟨h1, h2⟩ := h; exact yl)
    refine h_p 9 ⟨hc22, hcu⟩ ?_ (hrun := fun w' h => by obtain ⟨h1, h2⟩ := h; exact yl)
    refine h_nil ?_
    refine go ?_
    refine ⟨F.length - (t + 1), by omega, t + 1, decide (F.getD t [] = K), rfl, by omega, rfl, rfl, rfl, rfl, rfl, rfl, ⟨fun h => ⟨t, by omega, of_decide_eq_true h⟩, fun ⟨j, h, e⟩ => by
              by_cases ej : j = t
              · subst ej; exact decide_eq_true e
              · exact absurd (hfd.2 ⟨j, by omega, e⟩) (by decide)⟩, hbB2⟩
  obtain rfl : t = F.length := by omega
  have hfin : fd = true := hfd.2 (by
    obtain ⟨j, hj, e⟩ := List.mem_iff_getElem.1 hlst
    exact ⟨j, hj, by rw [List.getD, List.getElem?_eq_getElem hj, Option.getD_some]; exact e⟩)
  have kz : decide ((0 : Int) = 0) = true := rfl
  subst hfin
  refine go ?_
  exact end_one Tryz.results3 rfl ⟨rfl, ((hb.trans (hbB1.mono hb.size)).trans (hbB2.mono (hb.trans (hbB1.mono hb.size)).size))⟩


set_option maxRecDepth 100000 in
theorem liftedQuotients (os : Os) (started : os.Started) (H : Type) (enc : TypeId × Value → H) :
    ReturnsInHanded {} Tryz.checked os 3 .any (Rows.fnQuotientsSpec.pre6 enc Tryz.prog Tryz.f3 Rows.fnQuotientsRow.domain false) (Rows.fnQuotientsSpec.post enc Tryz.prog Tryz.f3 false true false false) := by
  refine returnsInHanded_of_change (C := Tryz.checked) own started (by kernel_rfl) Tryz.func3
    (ChangeSpec.witness6 (enc := enc) (C := Tryz.checked) false ⟨#[], #[.slice none 0 0], []⟩ 8 (by kernel_rfl) (by kernel_rfl) (by kernel_rfl) (by kernel_rfl)) ?_
  intro W base args ds gs before hval0 hW hcnd _
  have hval : ∀ (j : Nat) t v, Tryz.f3.params[j]? = some t → args[j]? = some v → Value.okWide Tryz.prog W .any base t v := hval0
  have hW' := hW
  obtain ⟨p, q, hA0, hV, rfl, hfz, hnd⟩ := hW
  have hA : DataW.TrodAll enc Tryz.prog W 0 (fun _ => true) true Tryz.f3.params.toList args.toList ds p := hA0
  rw [Tryz.params3] at hA hval
  obtain ⟨v0, vs0, d0, ds0, p0, q0, hargs, rfl, rfl, h0, r0⟩ := trodAll_cons hA
  obtain ⟨rfl, rfl, rfl⟩ := trodAll_nil r0
  obtain rfl : args = #[v0] := by cases args; simp_all
  obtain ⟨rfl, rfl⟩ := trodVars_none hV
  have lt0 : ∀ x ∈ p0, x.block < W.heap.size := by obtain ⟨m, hm⟩ := h0; exact DataW.trod_lt m _ _ _ hm
  obtain ⟨xs0, hu0⟩ := open_arg_B (hval 0 22 v0 rfl rfl) h0
  clear hA0 hval0
  refine Calls.mono (lawQuotients_any v0 xs0 W hu0) fun e W' ⟨v, he, hv, bel⟩ => ?_
  subst he
  subst hv
  exact ⟨_, rfl, _, _, _, [], _, [], hW', trodAll_mk1 (shut_bool Tryz.underlying4 _), (trodAll_cons_mk (Below.trod laidOut (by kernel_rfl) (of_decide_eq_true (by kernel_rfl)) h0 bel lt0) trodAll_mk0), rfl, bel.frame _, fun h => by cases h⟩

theorem provedQuotients : Rows.FnQuotientsSaid :=
  OpenClaim.holds_of_wide 3 Tryz.f3 rfl rfl rfl rfl rfl rfl rfl ⟨rfl, rfl, rfl, rfl, rfl⟩ rfl rfl rfl rfl rfl (by kernel_rfl) Tryz.func3 (by kernel_rfl)
    (of_decide_eq_true (by kernel_rfl)) (by unfold Func.isWrapper; first | (rw [if_pos (by decide +kernel)]; kernel_rfl) | (rw [if_neg (by decide +kernel)]; exact ⟨rfl, rfl⟩))
    (fun os started H enc _ => liftedQuotients os started H enc)

end Go.Proofs.YtablpijnjkncfaaGreat
