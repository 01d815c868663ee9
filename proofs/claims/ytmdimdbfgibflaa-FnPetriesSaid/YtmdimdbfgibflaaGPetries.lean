/- The general law of OppositeOf and PetrieOf, for every code: its walk and its row. No conditions. -/
import Derived.Test.YtmdimdbfgibflaaF80
import Derived.Test.YtmdimdbfgibflaaF83
import Derived.Test.YtmdimdbfgibflaaF67
import Derived.Test.YtmdimdbfgibflaaF33
import Derived.Test.YtmdimdbfgibflaaF36
import Derived.Test.YtmdimdbfgibflaaF37
import Derived.Test.YtmdimdbfgibflaaF44
import Derived.Test.YtmdimdbfgibflaaF72
import Derived.Test.YtmdimdbfgibflaaPF
import Derived.Test.YtmdimdbfgibflaaRA
import Derived.WalkKit
import Derived.ShutString
namespace Go.Proofs.Ytmdimdbfgibflaa
open Go.Mem Go.ChangeShapes Go.WideShapes Go.ChangeAt Go.RowKit
set_option linter.unusedVariables false
set_option linter.unusedSimpArgs false

theorem pet3 {ms : List (List Int)} (hm : IsMan ms) (h3 : ms.length = 3) : petL ms = repl ms petW3 ∧ petC ms = 0 := by
  have hp := (petries hm h3).1.1
  have e := pet_3 hm (by omega)
  have ew : petW ms.length = petW3 := by rw [h3]; rfl
  rw [e.1, e.2, ew]
  exact ⟨if_pos hp, if_pos hp⟩
theorem opp3 {ms : List (List Int)} (hm : IsMan ms) (h3 : ms.length = 3) : thrL ms [[0], [1], [0, 2]] = repl ms oppW3 ∧ thrC ms [[0], [1], [0, 2]] = 0 := by
  have hp := (petries hm h3).2.1.1
  have e := thr_3 (ws := [[0], [1], [0, 2]]) hm h3
  rw [e.1, e.2]
  exact ⟨if_pos hp, if_pos hp⟩
theorem petries_all {ms : List (List Int)} (hm : IsMan ms) (h3 : ms.length = 3) : ∃ P O FM D T : List (List Int), thrL ms [[0], [1], [0, 2]] = O ∧ (petL ms = P ∧ petC ms = 0) ∧ (petL P = FM ∧ petC P = 0) ∧ frm (nf ms) ms 0 = FM ∧ (IsMan P ∧ P.length = 3) ∧
    (gi (facN ms) 0 = gi (facN P) 0 ∧ gi (facN ms) 1 = gi (facN P) 1) ∧ dualL ms = D ∧ (petL D = T ∧ petC D = 0) ∧ IsMan T ∧ dualL T = O ∧ (thrL O [[0], [1], [0, 2]] = FM ∧ thrC O [[0], [1], [0, 2]] = 0) ∧ spB ms = decide (lst ms = lst P) := by
  obtain ⟨⟨mP, lP⟩, ⟨mO, lO⟩, e1, e2, f0, f1⟩ := petries hm h3
  obtain ⟨mD, lD, _, _⟩ := duals hm
  have lD3 : (dualL ms).length = 3 := by omega
  obtain ⟨⟨mT, lT⟩, _⟩ := petries mD lD3
  have eo := opposite_dual hm h3
  have a := pet3 hm h3
  have b := pet3 mP lP
  have c := opp3 hm h3
  have d := opp3 mO lO
  have g := pet3 mD lD3
  refine ⟨_, _, _, _, _, c.1, a, ⟨b.1.trans e1, b.2⟩, rfl, ⟨mP, lP⟩, ⟨?_, ?_⟩, rfl, g, mT, eo, ⟨d.1.trans e2, d.2⟩, ?_⟩
  · rw [gi_facN (by decide) (by omega), gi_facN (by decide) (by omega)]; exact f0.symm
  · rw [gi_facN (by decide) (by omega), gi_facN (by decide) (by omega)]; exact f1.symm
  · rw [spB_yes a.2, a.1]
theorem thrC_0 {ms ws : List (List Int)} (h : thrC ms ws = 0) : IsMan ms ∧ ms.length = 3 := by
  by_cases hm : IsMan ms
  · by_cases h3 : ms.length = 3
    · exact ⟨hm, h3⟩
    · rw [(thr_2 hm h3).2] at h; exact absurd h (by decide)
  · rw [(thr_1 hm).2] at h; exact absurd h (by decide)

set_option maxHeartbeats 16000000 in
set_option maxRecDepth 100000 in
theorem lawPetries_any (c : Value) (bs : List Int) (w : World) (hcl : CL w c bs) :
    Ret Try.prog 6 #[c] w fun r w' => r = .bool true ∧ Below w.heap.size w w' := by
  have shcl := hcl.sv
  have hb := Below.refl w.heap.size w
  refine enter1 189 Try.func6 rfl Try.ntmps6 rfl (fun fr => ?_)
  refine go ?_
  refine s_call1 (wn rfl) rfl rfl (big_any _ _ _ hcl) ?_
  rintro _ _ ⟨rfl, rfl⟩
  refine go ?_
  refine cond_dec rfl (fun hbig => ?_) (fun hbig => ?_)
  · refine go ?_
    exact end_one Try.results6 rfl ⟨rfl, hb⟩
  refine go ?_
  refine s_call1 (wn rfl) rfl rfl (DrawOppositeOf_any _ _ _ hcl) ?_
  rintro _ w1 ⟨x, ms, rfl, hv, hb1⟩
  have sw1 := hb1.size
  replace hcl := hcl.below hb1
  replace hb := hb.trans (hb1.mono hb.size)
  have shv := hv.sv
  refine go ?_
  refine s_alloc (B := w1.heap.size) (wn rfl) rfl (Nat.le_refl _) (fun w2 p3 hx3 hg2 hpp3 => ?_)
  have hb2 := below_of_grownBy hg2
  refine go ?_
  refine s_storeBox (wn rfl) rfl rfl shv.one hx3 (fun w3 hx3b hg3 => ?_)
  have hbq3 := hb2.trans (hx3.below_of hg3 hb2.size)
  have sw3 := hbq3.size
  replace hcl := hcl.below hbq3
  replace hv := hv.below hbq3
  replace hb := hb.trans (hbq3.mono hb.size)
  have hc3 := hx3b.cell
  refine go ?_
  refine s_call1 (wn rfl) rfl rfl (implOppositeOf_any _ _ _ hv) ?_
  rintro _ w4 ⟨kx, rfl, hA, hb4⟩
  have sw4 := hb4.size
  replace hcl := hcl.below hb4
  replace hv := hv.below hb4
  replace hc3 := cell_below hc3 hb4
  replace hb := hb.trans (hb4.mono hb.size)
  refine go ?_
  refine s_alloc (B := w4.heap.size) (wn rfl) rfl (Nat.le_refl _) (fun w5 p4 hx4 hg5 hpp4 => ?_)
  have hb5 := below_of_grownBy hg5
  refine go ?_
  refine s_storeBox (wn rfl) rfl rfl hA.sv.one hx4 (fun w6 hx4b hg4 => ?_)
  have hbq4 := hb5.trans (hx4.below_of hg4 hb5.size)
  have sw6 := hbq4.size
  replace hcl := hcl.below hbq4
  replace hv := hv.below hbq4
  replace hc3 := cell_below hc3 hbq4
  replace hA := hA.below hbq4
  replace hb := hb.trans (hbq4.mono hb.size)
  have hc4 := hx4b.cell
  refine go ?_
  refine s_call1 (wn rfl) rfl rfl (specOppositeOf_any _ _ _ hv) ?_
  rintro _ w7 ⟨ky, rfl, hA2, hb7⟩
  have sw7 := hb7.size
  replace hcl := hcl.below hb7
  replace hv := hv.below hb7
  replace hc3 := cell_below hc3 hb7
  replace hA := hA.below hb7
  replace hc4 := cell_below hc4 hb7
  replace hb := hb.trans (hb7.mono hb.size)
  refine go ?_
  refine s_alloc (B := w7.heap.size) (wn rfl) rfl (Nat.le_refl _) (fun w8 p6 hx6 hg8 hpp6 => ?_)
  have hb8 := below_of_grownBy hg8
  refine go ?_
  refine s_storeBox (wn rfl) rfl rfl hA2.sv.one hx6 (fun w9 hx6b hg6 => ?_)
  have hbq6 := hb8.trans (hx6.below_of hg6 hb8.size)
  have sw9 := hbq6.size
  replace hcl := hcl.below hbq6
  replace hv := hv.below hbq6
  replace hc3 := cell_below hc3 hbq6
  replace hA := hA.below hbq6
  replace hc4 := cell_below hc4 hbq6
  replace hA2 := hA2.below hbq6
  replace hb := hb.trans (hbq6.mono hb.size)
  have hc6 := hx6b.cell
  have hn1 : ¬ (thrC ms [[0], [1], [0, 2]] ≠ thrC ms [[0], [1], [0, 2]]) := fun h => h rfl
  have he1 : decide (thrL ms [[0], [1], [0, 2]] = thrL ms [[0], [1], [0, 2]]) = true := decide_eq_true rfl
  refine go ?_
  refine s_call2 (wy rfl rfl rfl rfl rfl known) rfl rfl rfl (like5_any _ _ _ _ _ hA.rl hA2.rl) ?_
  rintro _ w10 ⟨rfl, hb10⟩
  have sw10 := hb10.size
  replace hcl := hcl.below hb10
  replace hv := hv.below hb10
  replace hc3 := cell_below hc3 hb10
  replace hA := hA.below hb10
  replace hc4 := cell_below hc4 hb10
  replace hA2 := hA2.below hb10
  replace hc6 := cell_below hc6 hb10
  replace hb := hb.trans (hb10.mono hb.size)
  rw [he1]
  refine go ?_
  refine cond_dec rfl (fun hne => ?_) (fun hne => ?_)
  · refine go ?_
    exact end_one Try.results6 rfl ⟨rfl, hb⟩
  have hc0 : thrC ms [[0], [1], [0, 2]] = 0 := Decidable.not_not.1 hne
  obtain ⟨hm, h3⟩ := thrC_0 hc0
  have r1 := hm.m0.r1
  have r5 := hm.m0.r5
  have f4 := hm.m0.f400
  have f2 := hm.m0.f2
  obtain ⟨P, O, FM, D, T, eO, ⟨eP, cP⟩, ⟨eF, cF⟩, eM, ⟨mP, lP⟩, ⟨g0, g1⟩, eD, ⟨eT, cT⟩, mT, eB, ⟨eE, cE⟩, eS⟩ := petries_all hm h3
  rw [eO] at hA
  have z0 : ¬ ((0 : Int) ≠ 0) := fun h => h rfl
  have z3 : ((3 : Nat) : Int) = 3 := rfl
  have kM : decide (FM = FM) = true := decide_eq_true rfl
  have kO : decide (O = O) = true := decide_eq_true rfl
  have lA := facN_len ms
  have lB := facN_len P
  rw [h3] at lA
  rw [lP] at lB
  rw [hc0]
  refine go ?_
  refine s_call1 (wn rfl) rfl rfl (implPetrieOf_any _ _ _ hv) ?_
  rintro _ w11 ⟨px, rfl, hP, hb11⟩
  have sw11 := hb11.size
  replace hcl := hcl.below hb11
  replace hv := hv.below hb11
  replace hc3 := cell_below hc3 hb11
  replace hA := hA.below hb11
  replace hc4 := cell_below hc4 hb11
  replace hb := hb.trans (hb11.mono hb.size)
  rw [eP] at hP
  rw [cP]
  refine go ?_
  refine s_alloc (B := w11.heap.size) (wn rfl) rfl (Nat.le_refl _) (fun w12 p8 hx8 hg12 hpp8 => ?_)
  have hb12 := below_of_grownBy hg12
  refine go ?_
  refine s_storeBox (wn rfl) rfl rfl hP.sv.one hx8 (fun w13 hx8b hg8 => ?_)
  have hbq8 := hb12.trans (hx8.below_of hg8 hb12.size)
  have sw13 := hbq8.size
  replace hcl := hcl.below hbq8
  replace hv := hv.below hbq8
  replace hc3 := cell_below hc3 hbq8
  replace hA := hA.below hbq8
  replace hc4 := cell_below hc4 hbq8
  replace hP := hP.below hbq8
  replace hb := hb.trans (hbq8.mono hb.size)
  have hc8 := hx8b.cell
  refine go ?_
  refine s_call1 (wn rfl) rfl rfl (implPetrieOf_any _ _ _ hP.rl) ?_
  rintro _ w14 ⟨ax, rfl, hG, hb14⟩
  have sw14 := hb14.size
  replace hcl := hcl.below hb14
  replace hv := hv.below hb14
  replace hc3 := cell_below hc3 hb14
  replace hA := hA.below hb14
  replace hc4 := cell_below hc4 hb14
  replace hP := hP.below hb14
  replace hc8 := cell_below hc8 hb14
  replace hb := hb.trans (hb14.mono hb.size)
  rw [eF] at hG
  rw [cF]
  refine go ?_
  refine s_alloc (B := w14.heap.size) (wn rfl) rfl (Nat.le_refl _) (fun w15 p10 hx10 hg15 hpp10 => ?_)
  have hb15 := below_of_grownBy hg15
  refine go ?_
  refine s_storeBox (wn rfl) rfl rfl hG.sv.one hx10 (fun w16 hx10b hg10 => ?_)
  have hbq10 := hb15.trans (hx10.below_of hg10 hb15.size)
  have sw16 := hbq10.size
  replace hcl := hcl.below hbq10
  replace hv := hv.below hbq10
  replace hc3 := cell_below hc3 hbq10
  replace hA := hA.below hbq10
  replace hc4 := cell_below hc4 hbq10
  replace hP := hP.below hbq10
  replace hc8 := cell_below hc8 hbq10
  replace hG := hG.below hbq10
  replace hb := hb.trans (hbq10.mono hb.size)
  have hc10 := hx10b.cell
  refine go ?_
  refine s_call2 (wn rfl) rfl rfl rfl (FormFrom_good _ _ 0 _ hv hm (by omega)) ?_
  rintro _ w17 ⟨qx, rfl, hM, hb17⟩
  have sw17 := hb17.size
  replace hcl := hcl.below hb17
  replace hv := hv.below hb17
  replace hc3 := cell_below hc3 hb17
  replace hA := hA.below hb17
  replace hc4 := cell_below hc4 hb17
  replace hP := hP.below hb17
  replace hc8 := cell_below hc8 hb17
  replace hG := hG.below hb17
  replace hc10 := cell_below hc10 hb17
  replace hb := hb.trans (hb17.mono hb.size)
  rw [eM] at hM
  refine go ?_
  refine s_alloc (B := w17.heap.size) (wn rfl) rfl (Nat.le_refl _) (fun w18 p12 hx12 hg18 hpp12 => ?_)
  have hb18 := below_of_grownBy hg18
  refine go ?_
  refine s_storeBox (wn rfl) rfl rfl hM.sv.one hx12 (fun w19 hx12b hg12 => ?_)
  have hbq12 := hb18.trans (hx12.below_of hg12 hb18.size)
  have sw19 := hbq12.size
  replace hcl := hcl.below hbq12
  replace hv := hv.below hbq12
  replace hc3 := cell_below hc3 hbq12
  replace hA := hA.below hbq12
  replace hc4 := cell_below hc4 hbq12
  replace hP := hP.below hbq12
  replace hc8 := cell_below hc8 hbq12
  replace hG := hG.below hbq12
  replace hc10 := cell_below hc10 hbq12
  replace hM := hM.below hbq12
  replace hb := hb.trans (hbq12.mono hb.size)
  have hc12 := hx12b.cell
  refine go ?_
  refine s_call1 (wn rfl) rfl rfl (FaceCounts_good _ _ _ hv hm) ?_
  rintro _ w20 ⟨la, rfl, hLa, hb20⟩
  have sw20 := hb20.size
  replace hcl := hcl.below hb20
  replace hv := hv.below hb20
  replace hc3 := cell_below hc3 hb20
  replace hA := hA.below hb20
  replace hc4 := cell_below hc4 hb20
  replace hP := hP.below hb20
  replace hc8 := cell_below hc8 hb20
  replace hG := hG.below hb20
  replace hc10 := cell_below hc10 hb20
  replace hM := hM.below hb20
  replace hc12 := cell_below hc12 hb20
  replace hb := hb.trans (hb20.mono hb.size)
  refine go ?_
  refine s_call1 (wn rfl) rfl rfl (FaceCounts_good _ _ _ hP.rl mP) ?_
  rintro _ w21 ⟨lb, rfl, hLb, hb21⟩
  have sw21 := hb21.size
  replace hcl := hcl.below hb21
  replace hv := hv.below hb21
  replace hc3 := cell_below hc3 hb21
  replace hA := hA.below hb21
  replace hc4 := cell_below hc4 hb21
  replace hP := hP.below hb21
  replace hc8 := cell_below hc8 hb21
  replace hG := hG.below hb21
  replace hc10 := cell_below hc10 hb21
  replace hM := hM.below hb21
  replace hc12 := cell_below hc12 hb21
  replace hLa := hLa.below hb21
  replace hb := hb.trans (hb21.mono hb.size)
  refine go ?_
  refine s_call1 (wn rfl) rfl rfl (implDualOf_any _ _ _ hv) ?_
  rintro _ w22 ⟨dx, rfl, hD, hb22⟩
  have sw22 := hb22.size
  replace hcl := hcl.below hb22
  replace hv := hv.below hb22
  replace hc3 := cell_below hc3 hb22
  replace hA := hA.below hb22
  replace hc4 := cell_below hc4 hb22
  replace hP := hP.below hb22
  replace hc8 := cell_below hc8 hb22
  replace hG := hG.below hb22
  replace hc10 := cell_below hc10 hb22
  replace hM := hM.below hb22
  replace hc12 := cell_below hc12 hb22
  replace hLa := hLa.below hb22
  replace hLb := hLb.below hb22
  replace hb := hb.trans (hb22.mono hb.size)
  rw [eD] at hD
  rw [manC_yes hm]
  refine go ?_
  refine s_alloc (B := w22.heap.size) (wn rfl) rfl (Nat.le_refl _) (fun w23 p18 hx18 hg23 hpp18 => ?_)
  have hb23 := below_of_grownBy hg23
  refine go ?_
  refine s_storeBox (wn rfl) rfl rfl hD.sv.one hx18 (fun w24 hx18b hg18 => ?_)
  have hbq18 := hb23.trans (hx18.below_of hg18 hb23.size)
  have sw24 := hbq18.size
  replace hcl := hcl.below hbq18
  replace hv := hv.below hbq18
  replace hc3 := cell_below hc3 hbq18
  replace hA := hA.below hbq18
  replace hc4 := cell_below hc4 hbq18
  replace hP := hP.below hbq18
  replace hc8 := cell_below hc8 hbq18
  replace hG := hG.below hbq18
  replace hc10 := cell_below hc10 hbq18
  replace hM := hM.below hbq18
  replace hc12 := cell_below hc12 hbq18
  replace hLa := hLa.below hbq18
  replace hLb := hLb.below hbq18
  replace hD := hD.below hbq18
  replace hb := hb.trans (hbq18.mono hb.size)
  have hc18 := hx18b.cell
  refine go ?_
  refine s_call1 (wn rfl) rfl rfl (implPetrieOf_any _ _ _ hD.rl) ?_
  rintro _ w25 ⟨tx, rfl, hT, hb25⟩
  have sw25 := hb25.size
  replace hcl := hcl.below hb25
  replace hv := hv.below hb25
  replace hc3 := cell_below hc3 hb25
  replace hA := hA.below hb25
  replace hc4 := cell_below hc4 hb25
  replace hP := hP.below hb25
  replace hc8 := cell_below hc8 hb25
  replace hG := hG.below hb25
  replace hc10 := cell_below hc10 hb25
  replace hM := hM.below hb25
  replace hc12 := cell_below hc12 hb25
  replace hLa := hLa.below hb25
  replace hLb := hLb.below hb25
  replace hD := hD.below hb25
  replace hc18 := cell_below hc18 hb25
  replace hb := hb.trans (hb25.mono hb.size)
  rw [eT] at hT
  rw [cT]
  refine go ?_
  refine s_alloc (B := w25.heap.size) (wn rfl) rfl (Nat.le_refl _) (fun w26 p20 hx20 hg26 hpp20 => ?_)
  have hb26 := below_of_grownBy hg26
  refine go ?_
  refine s_storeBox (wn rfl) rfl rfl hT.sv.one hx20 (fun w27 hx20b hg20 => ?_)
  have hbq20 := hb26.trans (hx20.below_of hg20 hb26.size)
  have sw27 := hbq20.size
  replace hcl := hcl.below hbq20
  replace hv := hv.below hbq20
  replace hc3 := cell_below hc3 hbq20
  replace hA := hA.below hbq20
  replace hc4 := cell_below hc4 hbq20
  replace hP := hP.below hbq20
  replace hc8 := cell_below hc8 hbq20
  replace hG := hG.below hbq20
  replace hc10 := cell_below hc10 hbq20
  replace hM := hM.below hbq20
  replace hc12 := cell_below hc12 hbq20
  replace hLa := hLa.below hbq20
  replace hLb := hLb.below hbq20
  replace hD := hD.below hbq20
  replace hc18 := cell_below hc18 hbq20
  replace hT := hT.below hbq20
  replace hb := hb.trans (hbq20.mono hb.size)
  have hc20 := hx20b.cell
  refine go ?_
  refine s_call1 (wn rfl) rfl rfl (implDualOf_any _ _ _ hT.rl) ?_
  rintro _ w28 ⟨bx, rfl, hB, hb28⟩
  have sw28 := hb28.size
  replace hcl := hcl.below hb28
  replace hv := hv.below hb28
  replace hc3 := cell_below hc3 hb28
  replace hA := hA.below hb28
  replace hc4 := cell_below hc4 hb28
  replace hP := hP.below hb28
  replace hc8 := cell_below hc8 hb28
  replace hG := hG.below hb28
  replace hc10 := cell_below hc10 hb28
  replace hM := hM.below hb28
  replace hc12 := cell_below hc12 hb28
  replace hLa := hLa.below hb28
  replace hLb := hLb.below hb28
  replace hD := hD.below hb28
  replace hc18 := cell_below hc18 hb28
  replace hT := hT.below hb28
  replace hc20 := cell_below hc20 hb28
  replace hb := hb.trans (hb28.mono hb.size)
  rw [eB] at hB
  rw [manC_yes mT]
  refine go ?_
  refine s_alloc (B := w28.heap.size) (wn rfl) rfl (Nat.le_refl _) (fun w29 p22 hx22 hg29 hpp22 => ?_)
  have hb29 := below_of_grownBy hg29
  refine go ?_
  refine s_storeBox (wn rfl) rfl rfl hB.sv.one hx22 (fun w30 hx22b hg22 => ?_)
  have hbq22 := hb29.trans (hx22.below_of hg22 hb29.size)
  have sw30 := hbq22.size
  replace hcl := hcl.below hbq22
  replace hv := hv.below hbq22
  replace hc3 := cell_below hc3 hbq22
  replace hA := hA.below hbq22
  replace hc4 := cell_below hc4 hbq22
  replace hP := hP.below hbq22
  replace hc8 := cell_below hc8 hbq22
  replace hG := hG.below hbq22
  replace hc10 := cell_below hc10 hbq22
  replace hM := hM.below hbq22
  replace hc12 := cell_below hc12 hbq22
  replace hLa := hLa.below hbq22
  replace hLb := hLb.below hbq22
  replace hD := hD.below hbq22
  replace hc18 := cell_below hc18 hbq22
  replace hT := hT.below hbq22
  replace hc20 := cell_below hc20 hbq22
  replace hB := hB.below hbq22
  replace hb := hb.trans (hbq22.mono hb.size)
  have hc22 := hx22b.cell
  refine go ?_
  refine s_call1 (wn rfl) rfl rfl (implOppositeOf_any _ _ _ hA.rl) ?_
  rintro _ w31 ⟨ex, rfl, hE, hb31⟩
  have sw31 := hb31.size
  replace hcl := hcl.below hb31
  replace hv := hv.below hb31
  replace hc3 := cell_below hc3 hb31
  replace hA := hA.below hb31
  replace hc4 := cell_below hc4 hb31
  replace hP := hP.below hb31
  replace hc8 := cell_below hc8 hb31
  replace hG := hG.below hb31
  replace hc10 := cell_below hc10 hb31
  replace hM := hM.below hb31
  replace hc12 := cell_below hc12 hb31
  replace hLa := hLa.below hb31
  replace hLb := hLb.below hb31
  replace hD := hD.below hb31
  replace hc18 := cell_below hc18 hb31
  replace hT := hT.below hb31
  replace hc20 := cell_below hc20 hb31
  replace hB := hB.below hb31
  replace hc22 := cell_below hc22 hb31
  replace hb := hb.trans (hb31.mono hb.size)
  rw [eE] at hE
  rw [cE]
  refine go ?_
  refine s_alloc (B := w31.heap.size) (wn rfl) rfl (Nat.le_refl _) (fun w32 p24 hx24 hg32 hpp24 => ?_)
  have hb32 := below_of_grownBy hg32
  refine go ?_
  refine s_storeBox (wn rfl) rfl rfl hE.sv.one hx24 (fun w33 hx24b hg24 => ?_)
  have hbq24 := hb32.trans (hx24.below_of hg24 hb32.size)
  have sw33 := hbq24.size
  replace hcl := hcl.below hbq24
  replace hv := hv.below hbq24
  replace hc3 := cell_below hc3 hbq24
  replace hA := hA.below hbq24
  replace hc4 := cell_below hc4 hbq24
  replace hP := hP.below hbq24
  replace hc8 := cell_below hc8 hbq24
  replace hG := hG.below hbq24
  replace hc10 := cell_below hc10 hbq24
  replace hM := hM.below hbq24
  replace hc12 := cell_below hc12 hbq24
  replace hLa := hLa.below hbq24
  replace hLb := hLb.below hbq24
  replace hD := hD.below hbq24
  replace hc18 := cell_below hc18 hbq24
  replace hT := hT.below hbq24
  replace hc20 := cell_below hc20 hbq24
  replace hB := hB.below hbq24
  replace hc22 := cell_below hc22 hbq24
  replace hE := hE.below hbq24
  replace hb := hb.trans (hbq24.mono hb.size)
  have hc24 := hx24b.cell
  refine go ?_
  refine s_call1 (wn rfl) rfl rfl (implIsSelfPetrie_any _ _ _ hv) ?_
  rintro _ w34 ⟨rfl, hb34⟩
  have sw34 := hb34.size
  replace hcl := hcl.below hb34
  replace hv := hv.below hb34
  replace hc3 := cell_below hc3 hb34
  replace hA := hA.below hb34
  replace hc4 := cell_below hc4 hb34
  replace hP := hP.below hb34
  replace hc8 := cell_below hc8 hb34
  replace hG := hG.below hb34
  replace hc10 := cell_below hc10 hb34
  replace hM := hM.below hb34
  replace hc12 := cell_below hc12 hb34
  replace hLa := hLa.below hb34
  replace hLb := hLb.below hb34
  replace hD := hD.below hb34
  replace hc18 := cell_below hc18 hb34
  replace hT := hT.below hb34
  replace hc20 := cell_below hc20 hb34
  replace hB := hB.below hb34
  replace hc22 := cell_below hc22 hb34
  replace hE := hE.below hb34
  replace hc24 := cell_below hc24 hb34
  replace hb := hb.trans (hb34.mono hb.size)
  rw [eS, cP]
  refine go ?_
  generalize facN ms = N1 at *
  generalize facN P = N2 at *
  have sLa := hLa.sv
  have sLb := hLb.sv
  rw [lA] at sLa
  rw [lB] at sLb
  refine region_h mixed (fun w35 hc35 => ?_)
  have swr35 := hc35.size
  refine h_p 0 hc35 ?_
  refine h_p 1 hc35 ?_
  refine h_one 2 ?_
  refine s_call2 (wn rfl) rfl rfl rfl (like5_any _ _ _ _ _ (hG.below hc35).rl (hM.below hc35).rl) ?_
  rintro _ w36 ⟨rfl, hb36⟩
  have hc36 := hc35.trans (hb36.mono hc35.size)
  refine w_nil ?_
  refine h_on ⟨hc36, ?_⟩
  rw [kM]
  refine h_p 3 hc36 ?_
  refine h_p 4 hc36 ?_
  refine h_p 5 hc36 ?_
  refine h_p 6 hc36 ?_
  refine h_p 7 hc36 ?_
  refine h_p 8 hc36 ?_
  refine h_p 9 hc36 ?_
  refine h_p 10 hc36 ?_
  refine h_p 11 hc36 ?_
  refine h_p 12 hc36 ?_
  refine h_p 13 hc36 ?_
  refine h_p 14 hc36 ?_
  refine h_p 15 hc36 ?_
  refine h_p 16 hc36 ?_
  refine h_p 17 hc36 ?_
  refine h_p 18 hc36 ?_
  refine h_p 19 hc36 ?_
  refine h_p 20 hc36 ?_
  refine h_p 21 hc36 ?_
  refine h_p 22 hc36 ?_
  refine h_p 23 hc36 ?_
  refine h_p 24 hc36 ?_
  refine h_p 25 hc36 ?_
  refine h_p 26 hc36 ?_
  refine h_p 27 hc36 ?_
  refine h_p 28 hc36 ?_
  refine h_p 29 hc36 ?_
  refine h_p 30 hc36 ?_
  refine h_p 31 hc36 ?_
  refine h_p 32 hc36 ?_
  refine h_p 33 hc36 ?_
  refine h_one 34 ?_
  refine s_call2 (wy rfl rfl rfl rfl rfl known) rfl rfl rfl (like5_any _ _ _ _ _ (hB.below hc36).rl (hA.below hc36).rl) ?_
  rintro _ w37 ⟨rfl, hb37⟩
  have hc37 := hc36.trans (hb37.mono hc36.size)
  refine w_nil ?_
  refine h_on ⟨hc37, ?_⟩
  rw [kO]
  refine h_p 35 hc37 ?_
  refine h_p 36 hc37 ?_
  refine h_p 37 hc37 ?_
  refine h_p 38 hc37 ?_
  refine h_one 39 ?_
  refine s_call2 (wy rfl rfl rfl rfl rfl known) rfl rfl rfl (like5_any _ _ _ _ _ (hE.below hc37).rl (hM.below hc37).rl) ?_
  rintro _ w38 ⟨rfl, hb38⟩
  have hc38 := hc37.trans (hb38.mono hc37.size)
  refine w_nil ?_
  refine h_on ⟨hc38, ?_⟩
  rw [kM]
  refine h_p 40 hc38 ?_
  refine h_p 41 hc38 ?_
  refine h_p 42 hc38 ?_
  refine h_p 43 hc38 ?_
  refine h_p 44 hc38 ?_
  refine h_one 45 ?_
  refine s_call2 (wy rfl rfl rfl rfl rfl known) rfl rfl rfl (least5_good _ _ _ _ _ (hv.below hc38) (hP.below hc38).rl hm mP) ?_
  rintro _ w39 ⟨rfl, hb39⟩
  have hc39 := hc38.trans (hb39.mono hc38.size)
  refine w_nil ?_
  refine h_on ⟨hc39, ?_⟩
  refine h_p 46 hc39 ?_ (hrun := fun _ _ => y_eqlB rfl rfl)
  refine h_p 47 hc39 ?_
  refine h_p 48 hc39 ?_
  refine h_nil ?_
  have sw39 := hc39.size
  replace hcl := hcl.below hc39
  replace hv := hv.below hc39
  replace hc3 := cell_below hc3 hc39
  replace hA := hA.below hc39
  replace hc4 := cell_below hc4 hc39
  replace hP := hP.below hc39
  replace hc8 := cell_below hc8 hc39
  replace hG := hG.below hc39
  replace hc10 := cell_below hc10 hc39
  replace hM := hM.below hc39
  replace hc12 := cell_below hc12 hc39
  replace hLa := hLa.below hc39
  replace hLb := hLb.below hc39
  replace hD := hD.below hc39
  replace hc18 := cell_below hc18 hc39
  replace hT := hT.below hc39
  replace hc20 := cell_below hc20 hc39
  replace hB := hB.below hc39
  replace hc22 := cell_below hc22 hc39
  replace hE := hE.below hc39
  replace hc24 := cell_below hc24 hc39
  replace hb := hb.trans (hc39.mono hb.size)
  have kS : decide (decide (lst ms = lst P) = decide (lst ms = lst P)) = true := decide_eq_true rfl
  refine go ?_
  exact end_one Try.results6 rfl ⟨by rw [kS], hb⟩


set_option maxRecDepth 100000 in
theorem liftedPetries (os : Os) (started : os.Started) (H : Type) (enc : TypeId × Value → H) :
    ReturnsInHanded {} Try.checked os 6 .any (Rows.fnPetriesSpec.pre6 enc Try.prog Try.f6 Rows.fnPetriesRow.domain false) (Rows.fnPetriesSpec.post enc Try.prog Try.f6 false true false false) := by
  refine returnsInHanded_of_change (C := Try.checked) own started (by kernel_rfl) Try.func6
    (ChangeSpec.witness6 (enc := enc) (C := Try.checked) false ⟨#[], #[.slice none 0 0], []⟩ 8 (by kernel_rfl) (by kernel_rfl) (by kernel_rfl) (by kernel_rfl)) ?_
  intro W base args ds gs before hval0 hW hcnd _
  have hval : ∀ (j : Nat) t v, Try.f6.params[j]? = some t → args[j]? = some v → Value.okWide Try.prog W .any base t v := hval0
  have hW' := hW
  obtain ⟨p, q, hA0, hV, rfl, hfz, hnd⟩ := hW
  have hA : DataW.TrodAll enc Try.prog W 0 (fun _ => true) true Try.f6.params.toList args.toList ds p := hA0
  rw [Try.params6] at hA hval
  obtain ⟨v0, vs0, d0, ds0, p0, q0, hargs, rfl, rfl, h0, r0⟩ := trodAll_cons hA
  obtain ⟨rfl, rfl, rfl⟩ := trodAll_nil r0
  obtain rfl : args = #[v0] := by cases args; simp_all
  obtain ⟨rfl, rfl⟩ := trodVars_none hV
  have lt0 : ∀ x ∈ p0, x.block < W.heap.size := by obtain ⟨m, hm⟩ := h0; exact DataW.trod_lt m _ _ _ hm
  obtain ⟨xs0, hu0⟩ := open_arg_B (hval 0 22 v0 rfl rfl) h0
  clear hA0 hval0
  refine Calls.mono (lawPetries_any v0 xs0 W hu0) fun e W' ⟨v, he, hv, bel⟩ => ?_
  subst he
  subst hv
  exact ⟨_, rfl, _, _, _, [], _, [], hW', trodAll_mk1 (shut_bool Try.underlying4 _), (trodAll_cons_mk (Below.trod laidOut (by kernel_rfl) (of_decide_eq_true (by kernel_rfl)) h0 bel lt0) trodAll_mk0), rfl, bel.frame _, fun h => by cases h⟩

theorem provedPetries : Rows.FnPetriesSaid :=
  OpenClaim.holds_of_wide 6 Try.f6 rfl rfl rfl rfl rfl rfl rfl ⟨rfl, rfl, rfl, rfl, rfl⟩ rfl rfl rfl rfl rfl (by kernel_rfl) Try.func6 (by kernel_rfl)
    (of_decide_eq_true (by kernel_rfl)) (by unfold Func.isWrapper; first | (rw [if_pos (by decide +kernel)]; kernel_rfl) | (rw [if_neg (by decide +kernel)]; exact ⟨rfl, rfl⟩))
    (fun os started H enc _ => liftedPetries os started H enc)

end Go.Proofs.Ytmdimdbfgibflaa
