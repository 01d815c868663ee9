/- The general law of DualOf, for every code: its walk and its row. No conditions. -/
import Derived.Test.YtmdimdbfgibflaaF80
import Derived.Test.YtmdimdbfgibflaaF81
import Derived.Test.YtmdimdbfgibflaaF93
import Derived.Test.YtmdimdbfgibflaaF67
import Derived.Test.YtmdimdbfgibflaaF70
import Derived.Test.YtmdimdbfgibflaaF36
import Derived.Test.YtmdimdbfgibflaaF44
import Derived.Test.YtmdimdbfgibflaaF72
import Derived.Test.YtmdimdbfgibflaaPF
import Derived.Test.YtmdimdbfgibflaaRA
import Derived.WalkKit
import Derived.ShutString
namespace Go.Proofs.Ytmdimdbfgibflaa
open Go.Mem Go.ChangeShapes Go.WideShapes Go.ChangeAt Go.RowKit
set_option linter.unusedVariables false
set_option linter.unusedSimpArgs false

theorem gr_typL {ms : List (List Int)} {k : Nat} {i : Int} (h0 : 0 ≤ i) (hi : i < k) : gr (typL ms k) i = typR ms i.toNat := by
  have : i.toNat < k := by omega
  simp [typL, gr, List.getD, this]
theorem duals_all {ms : List (List Int)} (hm : IsMan ms) : ∃ (D FM TA TB : List (List Int)) (NA NB : List Int), dualL ms = D ∧ (IsMan D ∧ D.length = ms.length ∧ nf D = nf ms) ∧ dualL D = FM ∧ frm (nf ms) ms 0 = FM ∧ (facN ms = NA ∧ facN D = NB ∧ NA.reverse = NB ∧ NA.length = ms.length) ∧
    (typL ms (ms.length - 1) = TA ∧ typL D (D.length - 1) = TB ∧ TA.length = ms.length - 1 ∧ TB.length = ms.length - 1) ∧ (∀ i : Nat, i < ms.length - 1 → gr TA i = gr TB (((ms.length - 1 : Nat) : Int) - 1 - i)) ∧ sdB ms = decide (lst ms = lst D) ∧
    (2 ≤ ms.length → ∃ G F : List (List Int), frm (nf ms) (ms.drop 1) 0 = G ∧ IsMan G ∧ frm (nf D) (D.take (D.length - 1)) 0 = F ∧ dualL G = F) := by
  obtain ⟨mD, lD, nD, eF⟩ := duals hm
  have r1 := hm.m0.r1
  refine ⟨dualL ms, frm (nf ms) ms 0, _, _, facN ms, facN (dualL ms), rfl, ⟨mD, lD, nD⟩, eF, rfl, ⟨rfl, rfl, ?_, facN_len ms⟩, ⟨rfl, rfl, typL_len _ _, by rw [typL_len, lD]⟩, fun i hi => ?_, ?_, fun h2 => ?_⟩
  · apply List.ext_getElem
    · rw [List.length_reverse, facN_len, facN_len, lD]
    · intro i h1 h3
      have hi : i < ms.length := by rw [facN_len, lD] at h3; exact h3
      rw [List.getElem_reverse]
      simp only [facN, List.getElem_map, List.getElem_range, List.length_map, List.length_range]
      exact (dual_fac hm hi).symm
  · rw [gr_typL (by omega) (by omega), gr_typL (by omega) (by omega)]
    obtain ⟨a1, a2⟩ := typ_poly hm (i := i)
    obtain ⟨b1, b2⟩ := typ_poly mD (i := ms.length - 2 - i)
    have hp := fun a => dual_poly hm (i := ms.length - 2 - i) (by omega) a
    rw [show ms.length - 2 - (ms.length - 2 - i) = i by omega] at hp
    rw [show ((i : Int)).toNat = i by omega, show ((((ms.length - 1 : Nat) : Int) - 1 - i)).toNat = ms.length - 2 - i by omega]
    exact grow_same a1 b1 fun a => (a2 a).trans ((hp a).symm.trans (b2 a).symm)
  · rw [sdB_yes hm, dualL_yes hm]
  · have := dual_facet hm h2
    rw [← lD] at this
    exact ⟨_, _, rfl, figure_man hm h2, rfl, this.symm⟩

set_option maxHeartbeats 16000000 in
set_option maxRecDepth 100000 in
theorem lawDuals_any (c : Value) (bs : List Int) (w : World) (hcl : CL w c bs) :
    Ret Try.prog 9 #[c] w fun r w' => r = .bool true ∧ Below w.heap.size w w' := by
  have shcl := hcl.sv
  have hb := Below.refl w.heap.size w
  refine enter1 194 Try.func9 rfl Try.ntmps9 rfl (fun fr => ?_)
  refine go ?_
  refine s_call1 (wn rfl) rfl rfl (big_any _ _ _ hcl) ?_
  rintro _ _ ⟨rfl, rfl⟩
  refine go ?_
  refine cond_dec rfl (fun hbig => ?_) (fun hbig => ?_)
  · refine go ?_
    exact end_one Try.results9 rfl ⟨rfl, hb⟩
  refine go ?_
  refine s_call1 (wn rfl) rfl rfl (DrawDualOf_any _ _ _ hcl) ?_
  rintro _ w1 ⟨x, ms, rfl, hv, hb1⟩
  have sw1 := hb1.size
  replace hcl := hcl.below hb1
  replace hb := hb.trans (hb1.mono hb.size)
  have shv := hv.sv
  refine go ?_
  refine s_alloc (B := w1.heap.size) (wn rfl) rfl (Nat.le_refl _) (fun w2 p3 hx3 hg2 hpp3 => ?_)
  have hb2 := below_of_grownBy hg2
  refine go ?_
  refine s_storeBox (wn rfl) rfl rfl shv.one hx3 (fun w3 hx3b hg3 => ?_)
  have hbq3 := hb2.trans (hx3.below_of hg3 hb2.size)
  have sw3 := hbq3.size
  replace hcl := hcl.below hbq3
  replace hv := hv.below hbq3
  replace hb := hb.trans (hbq3.mono hb.size)
  have hc3 := hx3b.cell
  refine go ?_
  refine s_call1 (wn rfl) rfl rfl (implDualOf_any _ _ _ hv) ?_
  rintro _ w4 ⟨kx, rfl, hA, hb4⟩
  have sw4 := hb4.size
  replace hcl := hcl.below hb4
  replace hv := hv.below hb4
  replace hc3 := cell_below hc3 hb4
  replace hb := hb.trans (hb4.mono hb.size)
  refine go ?_
  refine s_alloc (B := w4.heap.size) (wn rfl) rfl (Nat.le_refl _) (fun w5 p4 hx4 hg5 hpp4 => ?_)
  have hb5 := below_of_grownBy hg5
  refine go ?_
  refine s_storeBox (wn rfl) rfl rfl hA.sv.one hx4 (fun w6 hx4b hg4 => ?_)
  have hbq4 := hb5.trans (hx4.below_of hg4 hb5.size)
  have sw6 := hbq4.size
  replace hcl := hcl.below hbq4
  replace hv := hv.below hbq4
  replace hc3 := cell_below hc3 hbq4
  replace hA := hA.below hbq4
  replace hb := hb.trans (hbq4.mono hb.size)
  have hc4 := hx4b.cell
  refine go ?_
  refine s_call1 (wn rfl) rfl rfl (specDualOf_any _ _ _ hv) ?_
  rintro _ w7 ⟨ky, rfl, hA2, hb7⟩
  have sw7 := hb7.size
  replace hcl := hcl.below hb7
  replace hv := hv.below hb7
  replace hc3 := cell_below hc3 hb7
  replace hA := hA.below hb7
  replace hc4 := cell_below hc4 hb7
  replace hb := hb.trans (hb7.mono hb.size)
  refine go ?_
  refine s_alloc (B := w7.heap.size) (wn rfl) rfl (Nat.le_refl _) (fun w8 p6 hx6 hg8 hpp6 => ?_)
  have hb8 := below_of_grownBy hg8
  refine go ?_
  refine s_storeBox (wn rfl) rfl rfl hA2.sv.one hx6 (fun w9 hx6b hg6 => ?_)
  have hbq6 := hb8.trans (hx6.below_of hg6 hb8.size)
  have sw9 := hbq6.size
  replace hcl := hcl.below hbq6
  replace hv := hv.below hbq6
  replace hc3 := cell_below hc3 hbq6
  replace hA := hA.below hbq6
  replace hc4 := cell_below hc4 hbq6
  replace hA2 := hA2.below hbq6
  replace hb := hb.trans (hbq6.mono hb.size)
  have hc6 := hx6b.cell
  have hn1 : ¬ (manC ms ≠ manC ms) := fun h => h rfl
  have he1 : decide (dualL ms = dualL ms) = true := decide_eq_true rfl
  refine go ?_
  refine s_call2 (wy rfl rfl rfl rfl rfl known) rfl rfl rfl (like5_any _ _ _ _ _ hA.rl hA2.rl) ?_
  rintro _ w10 ⟨rfl, hb10⟩
  have sw10 := hb10.size
  replace hcl := hcl.below hb10
  replace hv := hv.below hb10
  replace hc3 := cell_below hc3 hb10
  replace hA := hA.below hb10
  replace hc4 := cell_below hc4 hb10
  replace hA2 := hA2.below hb10
  replace hc6 := cell_below hc6 hb10
  replace hb := hb.trans (hb10.mono hb.size)
  rw [he1]
  refine go ?_
  refine cond_dec rfl (fun hne => ?_) (fun hne => ?_)
  · refine go ?_
    exact end_one Try.results9 rfl ⟨rfl, hb⟩
  have hm : IsMan ms := Classical.byContradiction fun h => hne (by rw [manC_no h]; decide)
  obtain ⟨D, FM, TA, TB, NA, NB, eD, ⟨mD, lD, nD⟩, eF, eM, ⟨eNA, eNB, eRv, lNA⟩, ⟨eTA, eTB, lTA, lTB⟩, hrow, eS, h2all⟩ := duals_all hm
  have r1 := hm.m0.r1
  have r5 := hm.m0.r5
  have f4 := hm.m0.f400
  have f2 := hm.m0.f2
  rw [eD] at hA
  have z0 : ¬ ((0 : Int) ≠ 0) := fun h => h rfl
  have z1 : (0 : Int) = 0 := rfl
  have z2 : decide ((0 : Int) = 0) = true := decide_eq_true rfl
  have kM : decide (FM = FM) = true := decide_eq_true rfl
  have kN : decide (NA.reverse = NB) = true := decide_eq_true eRv
  have kl : ¬ (((ms.length - 1 : Nat) : Int) ≠ ((ms.length - 1 : Nat) : Int)) := fun h => h rfl
  have kz : ¬ (decide (lst ms = lst D) ≠ decide (lst ms = lst D)) := fun h => h rfl
  rw [manC_yes hm]
  refine go ?_
  refine s_call1 (wn rfl) rfl rfl (implDualOf_any _ _ _ hA.rl) ?_
  rintro _ w11 ⟨ax, rfl, hG, hb11⟩
  have sw11 := hb11.size
  replace hcl := hcl.below hb11
  replace hv := hv.below hb11
  replace hc3 := cell_below hc3 hb11
  replace hA := hA.below hb11
  replace hc4 := cell_below hc4 hb11
  replace hb := hb.trans (hb11.mono hb.size)
  rw [eF] at hG
  rw [manC_yes mD]
  refine go ?_
  refine s_alloc (B := w11.heap.size) (wn rfl) rfl (Nat.le_refl _) (fun w12 p8 hx8 hg12 hpp8 => ?_)
  have hb12 := below_of_grownBy hg12
  refine go ?_
  refine s_storeBox (wn rfl) rfl rfl hG.sv.one hx8 (fun w13 hx8b hg8 => ?_)
  have hbq8 := hb12.trans (hx8.below_of hg8 hb12.size)
  have sw13 := hbq8.size
  replace hcl := hcl.below hbq8
  replace hv := hv.below hbq8
  replace hc3 := cell_below hc3 hbq8
  replace hA := hA.below hbq8
  replace hc4 := cell_below hc4 hbq8
  replace hG := hG.below hbq8
  replace hb := hb.trans (hbq8.mono hb.size)
  have hc8 := hx8b.cell
  refine go ?_
  refine s_call2 (wn rfl) rfl rfl rfl (FormFrom_good _ _ 0 _ hv hm (by omega)) ?_
  rintro _ w14 ⟨qx, rfl, hM, hb14⟩
  have sw14 := hb14.size
  replace hcl := hcl.below hb14
  replace hv := hv.below hb14
  replace hc3 := cell_below hc3 hb14
  replace hA := hA.below hb14
  replace hc4 := cell_below hc4 hb14
  replace hG := hG.below hb14
  replace hc8 := cell_below hc8 hb14
  replace hb := hb.trans (hb14.mono hb.size)
  rw [eM] at hM
  refine go ?_
  refine s_alloc (B := w14.heap.size) (wn rfl) rfl (Nat.le_refl _) (fun w15 p10 hx10 hg15 hpp10 => ?_)
  have hb15 := below_of_grownBy hg15
  refine go ?_
  refine s_storeBox (wn rfl) rfl rfl hM.sv.one hx10 (fun w16 hx10b hg10 => ?_)
  have hbq10 := hb15.trans (hx10.below_of hg10 hb15.size)
  have sw16 := hbq10.size
  replace hcl := hcl.below hbq10
  replace hv := hv.below hbq10
  replace hc3 := cell_below hc3 hbq10
  replace hA := hA.below hbq10
  replace hc4 := cell_below hc4 hbq10
  replace hG := hG.below hbq10
  replace hc8 := cell_below hc8 hbq10
  replace hM := hM.below hbq10
  replace hb := hb.trans (hbq10.mono hb.size)
  have hc10 := hx10b.cell
  refine go ?_
  refine s_call1 (wn rfl) rfl rfl (FaceCounts_good _ _ _ hv hm) ?_
  rintro _ w17 ⟨la, rfl, hLa, hb17⟩
  have sw17 := hb17.size
  replace hcl := hcl.below hb17
  replace hv := hv.below hb17
  replace hc3 := cell_below hc3 hb17
  replace hA := hA.below hb17
  replace hc4 := cell_below hc4 hb17
  replace hG := hG.below hb17
  replace hc8 := cell_below hc8 hb17
  replace hM := hM.below hb17
  replace hc10 := cell_below hc10 hb17
  replace hb := hb.trans (hb17.mono hb.size)
  refine go ?_
  refine s_call1 (wn rfl) rfl rfl (FaceCounts_good _ _ _ hA.rl mD) ?_
  rintro _ w18 ⟨lb, rfl, hLb, hb18⟩
  have sw18 := hb18.size
  replace hcl := hcl.below hb18
  replace hv := hv.below hb18
  replace hc3 := cell_below hc3 hb18
  replace hA := hA.below hb18
  replace hc4 := cell_below hc4 hb18
  replace hG := hG.below hb18
  replace hc8 := cell_below hc8 hb18
  replace hM := hM.below hb18
  replace hc10 := cell_below hc10 hb18
  replace hLa := hLa.below hb18
  replace hb := hb.trans (hb18.mono hb.size)
  rw [eNA] at hLa
  rw [eNB] at hLb
  refine go ?_
  refine s_call1 (wn rfl) rfl rfl (TypeOf_good _ _ _ hv hm) ?_
  rintro _ w19 ⟨ta, rfl, hTa, hb19⟩
  have sw19 := hb19.size
  replace hcl := hcl.below hb19
  replace hv := hv.below hb19
  replace hc3 := cell_below hc3 hb19
  replace hA := hA.below hb19
  replace hc4 := cell_below hc4 hb19
  replace hG := hG.below hb19
  replace hc8 := cell_below hc8 hb19
  replace hM := hM.below hb19
  replace hc10 := cell_below hc10 hb19
  replace hLa := hLa.below hb19
  replace hLb := hLb.below hb19
  replace hb := hb.trans (hb19.mono hb.size)
  refine go ?_
  refine s_call1 (wn rfl) rfl rfl (TypeOf_good _ _ _ hA.rl mD) ?_
  rintro _ w20 ⟨tb, rfl, hTb, hb20⟩
  have sw20 := hb20.size
  replace hcl := hcl.below hb20
  replace hv := hv.below hb20
  replace hc3 := cell_below hc3 hb20
  replace hA := hA.below hb20
  replace hc4 := cell_below hc4 hb20
  replace hG := hG.below hb20
  replace hc8 := cell_below hc8 hb20
  replace hM := hM.below hb20
  replace hc10 := cell_below hc10 hb20
  replace hLa := hLa.below hb20
  replace hLb := hLb.below hb20
  replace hTa := hTa.below hb20
  replace hb := hb.trans (hb20.mono hb.size)
  rw [eTA] at hTa
  rw [eTB] at hTb
  have sTa := hTa.sv
  have sTb := hTb.sv
  rw [lTA] at sTa
  rw [lTB] at sTb
  refine go ?_
  refine s_call1 (wn rfl) rfl rfl (implIsSelfDual_any _ _ _ hv) ?_
  rintro _ w21 ⟨rfl, hb21⟩
  have sw21 := hb21.size
  replace hcl := hcl.below hb21
  replace hv := hv.below hb21
  replace hc3 := cell_below hc3 hb21
  replace hA := hA.below hb21
  replace hc4 := cell_below hc4 hb21
  replace hG := hG.below hb21
  replace hc8 := cell_below hc8 hb21
  replace hM := hM.below hb21
  replace hc10 := cell_below hc10 hb21
  replace hLa := hLa.below hb21
  replace hLb := hLb.below hb21
  replace hTa := hTa.below hb21
  replace hTb := hTb.below hb21
  replace hb := hb.trans (hb21.mono hb.size)
  rw [eS, manC_yes hm]
  refine go ?_
  refine s_call2 (wn rfl) rfl rfl rfl (like5_any _ _ _ _ _ hG.rl hM.rl) ?_
  rintro _ w22 ⟨rfl, hb22⟩
  have sw22 := hb22.size
  replace hcl := hcl.below hb22
  replace hv := hv.below hb22
  replace hc3 := cell_below hc3 hb22
  replace hA := hA.below hb22
  replace hc4 := cell_below hc4 hb22
  replace hG := hG.below hb22
  replace hc8 := cell_below hc8 hb22
  replace hM := hM.below hb22
  replace hc10 := cell_below hc10 hb22
  replace hLa := hLa.below hb22
  replace hLb := hLb.below hb22
  replace hTa := hTa.below hb22
  replace hTb := hTb.below hb22
  replace hb := hb.trans (hb22.mono hb.size)
  rw [kM]
  refine go ?_
  refine s_call1 (wy rfl rfl rfl rfl rfl known) rfl rfl (back5_any _ _ _ hLa.il (by omega)) ?_
  rintro rv w23 ⟨hRv, hb23⟩
  have sw23 := hb23.size
  replace hcl := hcl.below hb23
  replace hv := hv.below hb23
  replace hc3 := cell_below hc3 hb23
  replace hA := hA.below hb23
  replace hc4 := cell_below hc4 hb23
  replace hG := hG.below hb23
  replace hc8 := cell_below hc8 hb23
  replace hM := hM.below hb23
  replace hc10 := cell_below hc10 hb23
  replace hLa := hLa.below hb23
  replace hLb := hLb.below hb23
  replace hTa := hTa.below hb23
  replace hTb := hTb.below hb23
  replace hb := hb.trans (hb23.mono hb.size)
  refine go ?_
  refine s_call2 (wy rfl rfl rfl rfl rfl known) rfl rfl rfl (likeInts_any _ _ _ _ _ hRv.il hLb.il) ?_
  rintro _ w24 ⟨rfl, hb24⟩
  have sw24 := hb24.size
  replace hcl := hcl.below hb24
  replace hv := hv.below hb24
  replace hc3 := cell_below hc3 hb24
  replace hA := hA.below hb24
  replace hc4 := cell_below hc4 hb24
  replace hG := hG.below hb24
  replace hc8 := cell_below hc8 hb24
  replace hM := hM.below hb24
  replace hc10 := cell_below hc10 hb24
  replace hLa := hLa.below hb24
  replace hLb := hLb.below hb24
  replace hTa := hTa.below hb24
  replace hTb := hTb.below hb24
  replace hRv := hRv.below hb24
  replace hb := hb.trans (hb24.mono hb.size)
  rw [kN]
  refine go ?_
  refine s_call2 (wy rfl rfl rfl rfl rfl known) rfl rfl rfl (least5_good _ _ _ _ _ hv hA.rl hm mD) ?_
  rintro _ w25 ⟨rfl, hb25⟩
  have sw25 := hb25.size
  replace hcl := hcl.below hb25
  replace hv := hv.below hb25
  replace hc3 := cell_below hc3 hb25
  replace hA := hA.below hb25
  replace hc4 := cell_below hc4 hb25
  replace hG := hG.below hb25
  replace hc8 := cell_below hc8 hb25
  replace hM := hM.below hb25
  replace hc10 := cell_below hc10 hb25
  replace hLa := hLa.below hb25
  replace hLb := hLb.below hb25
  replace hTa := hTa.below hb25
  replace hTb := hTb.below hb25
  replace hRv := hRv.below hb25
  replace hb := hb.trans (hb25.mono hb.size)
  refine go ?_
  have sbs1 := hb.size
  have hcl_b1 := hcl
  have hv_b1 := hv
  have hc3_b1 := hc3
  have hA_b1 := hA
  have hc4_b1 := hc4
  have hG_b1 := hG
  have hc8_b1 := hc8
  have hM_b1 := hM
  have hc10_b1 := hc10
  have hLa_b1 := hLa
  have hLb_b1 := hLb
  have hTa_b1 := hTa
  have hTb_b1 := hTb
  have hRv_b1 := hRv
  have hbB1 := Below.refl w25.heap.size w25
  refine go ?_
  refine w_loop (fun kk fr w' => ∃ (i : Nat), kk = (ms.length - 1) - i ∧ i ≤ (ms.length - 1) ∧ fr 3 = .pointer (some p3) ∧ fr 4 = .pointer (some p4) ∧ fr 16 = ta ∧ fr 18 = tb ∧ fr 22 = .int .i64 i ∧ Below w25.heap.size w25 w') ((ms.length - 1))
    ⟨0, rfl, Nat.zero_le _, rfl, rfl, rfl, rfl, rfl, hbB1⟩ ?_
  rintro kk fr w26 ⟨i, rfl, hi, f3, f4, f16, f18, f22, hbB1⟩
  have sw26 := hbB1.size
  have hcl := hcl_b1.below hbB1
  have hv := hv_b1.below hbB1
  have hc3 := cell_below hc3_b1 hbB1
  have hA := hA_b1.below hbB1
  have hc4 := cell_below hc4_b1 hbB1
  have hG := hG_b1.below hbB1
  have hc8 := cell_below hc8_b1 hbB1
  have hM := hM_b1.below hbB1
  have hc10 := cell_below hc10_b1 hbB1
  have hLa := hLa_b1.below hbB1
  have hLb := hLb_b1.below hbB1
  have hTa := hTa_b1.below hbB1
  have hTb := hTb_b1.below hbB1
  have hRv := hRv_b1.below hbB1
  refine know (t := 3) f3 ?_; refine know (t := 4) f4 ?_; refine know (t := 16) f16 ?_; refine know (t := 18) f18 ?_; refine know (t := 22) f22 ?_
  refine go ?_
  refine cond_dec rfl (fun hlt => ?_) (fun hge => ?_)
  · obtain ⟨u, hu, hcu⟩ := hTa.rl.row (j := (i : Int)) (by omega) (by omega)
    obtain ⟨u2, hu2, hcu2⟩ := hTb.rl.row (j := ((ms.length - 1 : Nat) : Int) - 1 - i) (by omega) (by omega)
    have kr : decide (gr TA i = gr TB (((ms.length - 1 : Nat) : Int) - 1 - i)) = true := decide_eq_true (hrow i (by omega))
    refine go ?_
    refine region_h mixed (fun w27 hc27 => ?_)
    have swr27 := hc27.size
    refine h_p 0 hc27 ?_
    refine h_p 1 hc27 ?_
    refine h_p 2 hc27 ?_
    refine h_p 3 hc27 ?_
    refine h_p 4 hc27 ?_
    refine h_p 5 hc27 ?_
    refine h_p 6 hc27 ?_
    refine h_p 7 hc27 ?_
    refine h_p 8 hc27 ?_
    refine h_p 9 hc27 ?_
    refine h_p 10 hc27 ?_
    refine h_p 11 hc27 ?_
    refine h_one 12 ?_
    refine s_call2 (wn rfl) rfl rfl rfl (likeInts_any _ _ _ _ _ (hu.below hc27) (hu2.below hc27)) ?_
    rintro _ w28 ⟨rfl, hb28⟩
    have hc28 := hc27.trans (hb28.mono hc27.size)
    refine w_nil ?_
    refine h_on ⟨hc28, ?_⟩
    rw [kr]
    refine h_p 13 hc28 ?_
    refine h_nil ?_
    have sw28 := hc28.size
    replace hcl := hcl.below hc28
    replace hv := hv.below hc28
    replace hc3 := cell_below hc3 hc28
    replace hA := hA.below hc28
    replace hc4 := cell_below hc4 hc28
    replace hG := hG.below hc28
    replace hc8 := cell_below hc8 hc28
    replace hM := hM.below hc28
    replace hc10 := cell_below hc10 hc28
    replace hLa := hLa.below hc28
    replace hLb := hLb.below hc28
    replace hTa := hTa.below hc28
    replace hTb := hTb.below hc28
    replace hRv := hRv.below hc28
    replace hu := hu.below hc28
    replace hu2 := hu2.below hc28
    replace hcu := cell_below hcu hc28
    replace hcu2 := cell_below hcu2 hc28
    replace hbB1 := hbB1.trans (hc28.mono hbB1.size)
    refine go ?_
    refine ⟨(ms.length - 1) - (i + 1), by omega, i + 1, rfl, by omega, rfl, rfl, rfl, rfl, rfl, hbB1⟩
  obtain rfl : i = (ms.length - 1) := by omega
  refine go ?_
  refine cond_dec rfl (fun h1 => ?_) (fun h1 => ?_)
  · refine go ?_
    exact end_one Try.results9 rfl ⟨rfl, (hb.trans (hbB1.mono hb.size))⟩
  obtain ⟨G, F, eG, mG, eFc, eT⟩ := h2all (by omega)
  have kF : decide (F = F) = true := decide_eq_true rfl
  refine go ?_
  refine s_call2 (wn rfl) rfl rfl rfl (FacetAt_good _ _ 0 _ hA.rl mD (by omega) (by omega)) ?_
  rintro _ w29 ⟨fx, rfl, hF, hb29⟩
  have sw29 := hb29.size
  replace hcl := hcl.below hb29
  replace hv := hv.below hb29
  replace hc3 := cell_below hc3 hb29
  replace hA := hA.below hb29
  replace hc4 := cell_below hc4 hb29
  replace hG := hG.below hb29
  replace hc8 := cell_below hc8 hb29
  replace hM := hM.below hb29
  replace hc10 := cell_below hc10 hb29
  replace hLa := hLa.below hb29
  replace hLb := hLb.below hb29
  replace hTa := hTa.below hb29
  replace hTb := hTb.below hb29
  replace hRv := hRv.below hb29
  replace hbB1 := hbB1.trans (hb29.mono hbB1.size)
  rw [eFc] at hF
  refine go ?_
  refine s_alloc (B := w29.heap.size) (wn rfl) rfl (Nat.le_refl _) (fun w30 p23 hx23 hg30 hpp23 => ?_)
  have hb30 := below_of_grownBy hg30
  refine go ?_
  refine s_storeBox (wn rfl) rfl rfl hF.sv.one hx23 (fun w31 hx23b hg23 => ?_)
  have hbq23 := hb30.trans (hx23.below_of hg23 hb30.size)
  have sw31 := hbq23.size
  replace hcl := hcl.below hbq23
  replace hv := hv.below hbq23
  replace hc3 := cell_below hc3 hbq23
  replace hA := hA.below hbq23
  replace hc4 := cell_below hc4 hbq23
  replace hG := hG.below hbq23
  replace hc8 := cell_below hc8 hbq23
  replace hM := hM.below hbq23
  replace hc10 := cell_below hc10 hbq23
  replace hLa := hLa.below hbq23
  replace hLb := hLb.below hbq23
  replace hTa := hTa.below hbq23
  replace hTb := hTb.below hbq23
  replace hRv := hRv.below hbq23
  replace hF := hF.below hbq23
  replace hbB1 := hbB1.trans (hbq23.mono hbB1.size)
  have hc23 := hx23b.cell
  refine go ?_
  refine s_call2 (wn rfl) rfl rfl rfl (VertexFigureAt_good _ _ 0 _ hv hm (by omega) (by omega)) ?_
  rintro _ w32 ⟨gx, rfl, hGg, hb32⟩
  have sw32 := hb32.size
  replace hcl := hcl.below hb32
  replace hv := hv.below hb32
  replace hc3 := cell_below hc3 hb32
  replace hA := hA.below hb32
  replace hc4 := cell_below hc4 hb32
  replace hG := hG.below hb32
  replace hc8 := cell_below hc8 hb32
  replace hM := hM.below hb32
  replace hc10 := cell_below hc10 hb32
  replace hLa := hLa.below hb32
  replace hLb := hLb.below hb32
  replace hTa := hTa.below hb32
  replace hTb := hTb.below hb32
  replace hRv := hRv.below hb32
  replace hF := hF.below hb32
  replace hc23 := cell_below hc23 hb32
  replace hbB1 := hbB1.trans (hb32.mono hbB1.size)
  rw [eG] at hGg
  refine go ?_
  refine s_alloc (B := w32.heap.size) (wn rfl) rfl (Nat.le_refl _) (fun w33 p25 hx25 hg33 hpp25 => ?_)
  have hb33 := below_of_grownBy hg33
  refine go ?_
  refine s_storeBox (wn rfl) rfl rfl hGg.sv.one hx25 (fun w34 hx25b hg25 => ?_)
  have hbq25 := hb33.trans (hx25.below_of hg25 hb33.size)
  have sw34 := hbq25.size
  replace hcl := hcl.below hbq25
  replace hv := hv.below hbq25
  replace hc3 := cell_below hc3 hbq25
  replace hA := hA.below hbq25
  replace hc4 := cell_below hc4 hbq25
  replace hG := hG.below hbq25
  replace hc8 := cell_below hc8 hbq25
  replace hM := hM.below hbq25
  replace hc10 := cell_below hc10 hbq25
  replace hLa := hLa.below hbq25
  replace hLb := hLb.below hbq25
  replace hTa := hTa.below hbq25
  replace hTb := hTb.below hbq25
  replace hRv := hRv.below hbq25
  replace hF := hF.below hbq25
  replace hc23 := cell_below hc23 hbq25
  replace hGg := hGg.below hbq25
  replace hbB1 := hbB1.trans (hbq25.mono hbB1.size)
  have hc25 := hx25b.cell
  refine go ?_
  refine s_call1 (wn rfl) rfl rfl (implDualOf_any _ _ _ hGg.rl) ?_
  rintro _ w35 ⟨ex, rfl, hE, hb35⟩
  have sw35 := hb35.size
  replace hcl := hcl.below hb35
  replace hv := hv.below hb35
  replace hc3 := cell_below hc3 hb35
  replace hA := hA.below hb35
  replace hc4 := cell_below hc4 hb35
  replace hG := hG.below hb35
  replace hc8 := cell_below hc8 hb35
  replace hM := hM.below hb35
  replace hc10 := cell_below hc10 hb35
  replace hLa := hLa.below hb35
  replace hLb := hLb.below hb35
  replace hTa := hTa.below hb35
  replace hTb := hTb.below hb35
  replace hRv := hRv.below hb35
  replace hF := hF.below hb35
  replace hc23 := cell_below hc23 hb35
  replace hGg := hGg.below hb35
  replace hc25 := cell_below hc25 hb35
  replace hbB1 := hbB1.trans (hb35.mono hbB1.size)
  rw [eT] at hE
  rw [manC_yes mG]
  refine go ?_
  refine s_alloc (B := w35.heap.size) (wn rfl) rfl (Nat.le_refl _) (fun w36 p27 hx27 hg36 hpp27 => ?_)
  have hb36 := below_of_grownBy hg36
  refine go ?_
  refine s_storeBox (wn rfl) rfl rfl hE.sv.one hx27 (fun w37 hx27b hg27 => ?_)
  have hbq27 := hb36.trans (hx27.below_of hg27 hb36.size)
  have sw37 := hbq27.size
  replace hcl := hcl.below hbq27
  replace hv := hv.below hbq27
  replace hc3 := cell_below hc3 hbq27
  replace hA := hA.below hbq27
  replace hc4 := cell_below hc4 hbq27
  replace hG := hG.below hbq27
  replace hc8 := cell_below hc8 hbq27
  replace hM := hM.below hbq27
  replace hc10 := cell_below hc10 hbq27
  replace hLa := hLa.below hbq27
  replace hLb := hLb.below hbq27
  replace hTa := hTa.below hbq27
  replace hTb := hTb.below hbq27
  replace hRv := hRv.below hbq27
  replace hF := hF.below hbq27
  replace hc23 := cell_below hc23 hbq27
  replace hGg := hGg.below hbq27
  replace hc25 := cell_below hc25 hbq27
  replace hE := hE.below hbq27
  replace hbB1 := hbB1.trans (hbq27.mono hbB1.size)
  have hc27 := hx27b.cell
  refine go ?_
  refine s_call2 (wy rfl rfl rfl rfl rfl known) rfl rfl rfl (like5_any _ _ _ _ _ hF.rl hE.rl) ?_
  rintro _ w38 ⟨rfl, hb38⟩
  have sw38 := hb38.size
  replace hcl := hcl.below hb38
  replace hv := hv.below hb38
  replace hc3 := cell_below hc3 hb38
  replace hA := hA.below hb38
  replace hc4 := cell_below hc4 hb38
  replace hG := hG.below hb38
  replace hc8 := cell_below hc8 hb38
  replace hM := hM.below hb38
  replace hc10 := cell_below hc10 hb38
  replace hLa := hLa.below hb38
  replace hLb := hLb.below hb38
  replace hTa := hTa.below hb38
  replace hTb := hTb.below hb38
  replace hRv := hRv.below hb38
  replace hF := hF.below hb38
  replace hc23 := cell_below hc23 hb38
  replace hGg := hGg.below hb38
  replace hc25 := cell_below hc25 hb38
  replace hE := hE.below hb38
  replace hc27 := cell_below hc27 hb38
  replace hbB1 := hbB1.trans (hb38.mono hbB1.size)
  rw [kF]
  refine go ?_
  exact end_one Try.results9 rfl ⟨rfl, (hb.trans (hbB1.mono hb.size))⟩


set_option maxRecDepth 100000 in
theorem liftedDuals (os : Os) (started : os.Started) (H : Type) (enc : TypeId × Value → H) :
    ReturnsInHanded {} Try.checked os 9 .any (Rows.fnDualsSpec.pre6 enc Try.prog Try.f9 Rows.fnDualsRow.domain false) (Rows.fnDualsSpec.post enc Try.prog Try.f9 false true false false) := by
  refine returnsInHanded_of_change (C := Try.checked) own started (by kernel_rfl) Try.func9
    (ChangeSpec.witness6 (enc := enc) (C := Try.checked) false ⟨#[], #[.slice none 0 0], []⟩ 8 (by kernel_rfl) (by kernel_rfl) (by kernel_rfl) (by kernel_rfl)) ?_
  intro W base args ds gs before hval0 hW hcnd _
  have hval : ∀ (j : Nat) t v, Try.f9.params[j]? = some t → args[j]? = some v → Value.okWide Try.prog W .any base t v := hval0
  have hW' := hW
  obtain ⟨p, q, hA0, hV, rfl, hfz, hnd⟩ := hW
  have hA : DataW.TrodAll enc Try.prog W 0 (fun _ => true) true Try.f9.params.toList args.toList ds p := hA0
  rw [Try.params9] at hA hval
  obtain ⟨v0, vs0, d0, ds0, p0, q0, hargs, rfl, rfl, h0, r0⟩ := trodAll_cons hA
  obtain ⟨rfl, rfl, rfl⟩ := trodAll_nil r0
  obtain rfl : args = #[v0] := by cases args; simp_all
  obtain ⟨rfl, rfl⟩ := trodVars_none hV
  have lt0 : ∀ x ∈ p0, x.block < W.heap.size := by obtain ⟨m, hm⟩ := h0; exact DataW.trod_lt m _ _ _ hm
  obtain ⟨xs0, hu0⟩ := open_arg_B (hval 0 22 v0 rfl rfl) h0
  clear hA0 hval0
  refine Calls.mono (lawDuals_any v0 xs0 W hu0) fun e W' ⟨v, he, hv, bel⟩ => ?_
  subst he
  subst hv
  exact ⟨_, rfl, _, _, _, [], _, [], hW', trodAll_mk1 (shut_bool Try.underlying4 _), (trodAll_cons_mk (Below.trod laidOut (by kernel_rfl) (of_decide_eq_true (by kernel_rfl)) h0 bel lt0) trodAll_mk0), rfl, bel.frame _, fun h => by cases h⟩

theorem provedDuals : Rows.FnDualsSaid :=
  OpenClaim.holds_of_wide 9 Try.f9 rfl rfl rfl rfl rfl rfl rfl ⟨rfl, rfl, rfl, rfl, rfl⟩ rfl rfl rfl rfl rfl (by kernel_rfl) Try.func9 (by kernel_rfl)
    (of_decide_eq_true (by kernel_rfl)) (by unfold Func.isWrapper; first | (rw [if_pos (by decide +kernel)]; kernel_rfl) | (rw [if_neg (by decide +kernel)]; exact ⟨rfl, rfl⟩))
    (fun os started H enc _ => liftedDuals os started H enc)

end Go.Proofs.Ytmdimdbfgibflaa
