/- The general law of ExtendManiplex, for every code: its walk and its row. No conditions. -/
import Derived.Test.YtmdimdbfgibflaaF80
import Derived.Test.YtmdimdbfgibflaaF81
import Derived.Test.YtmdimdbfgibflaaF67
import Derived.Test.YtmdimdbfgibflaaF38
import Derived.Test.YtmdimdbfgibflaaF36
import Derived.Test.YtmdimdbfgibflaaF72
import Derived.Test.YtmdimdbfgibflaaPG
import Derived.Test.YtmdimdbfgibflaaRA
import Derived.WalkKit
import Derived.ShutString
namespace Go.Proofs.Ytmdimdbfgibflaa
open Go.Mem Go.ChangeShapes Go.WideShapes Go.ChangeAt Go.RowKit
set_option linter.unusedVariables false
set_option linter.unusedSimpArgs false

theorem facN_extF {ms : List (List Int)} (hm : IsMan ms) (h5 : ¬ ms.length = 5) (h2 : ¬ 200 < nf ms) : facN (extM ms false) = facN ms ++ [2] := by
  unfold facN
  rw [len_extM, List.range_succ, List.map_append, List.map_cons, List.map_nil]
  congr 1
  · refine List.map_congr_left fun q hq => ?_
    exact ext_fac_i (b := false) hm h5 h2 (List.mem_range.1 hq)
  · exact congrArg (fun x => [x]) (ext_fac_z (b := false) hm h5 h2)
theorem facN_extT {ms : List (List Int)} (hm : IsMan ms) (h5 : ¬ ms.length = 5) (h2 : ¬ 200 < nf ms) : facN (extM ms true) = [2] ++ facN ms := by
  unfold facN
  rw [len_extM, List.range_succ_eq_map, List.map_cons, List.map_map]
  show facC (extM ms true) ((0 : Nat) : Int) :: _ = 2 :: _
  congr 1
  · exact ext_fac_z (b := true) hm h5 h2
  · refine List.map_congr_left fun q hq => ?_
    exact ext_fac_i (b := true) hm h5 h2 (List.mem_range.1 hq)
theorem extF_take {ms : List (List Int)} (hm : IsMan ms) (h5 : ¬ ms.length = 5) (h2 : ¬ 200 < nf ms) : frm (nf (extM ms false)) ((extM ms false).take ((extM ms false).length - 1)) 0 = frm (nf ms) ms 0 := by
  rw [nf_ext hm h5 h2, len_extM]
  have e : (extM ms false).take (ms.length + 1 - 1) = ms.map dbl := by
    show (ms.map dbl ++ [exch (nf ms)]).take (ms.length + 1 - 1) = ms.map dbl
    rw [List.take_left' (by simp)]
  rw [e]
  exact ext_facet hm h5 h2
theorem extT_drop {ms : List (List Int)} (hm : IsMan ms) (h5 : ¬ ms.length = 5) (h2 : ¬ 200 < nf ms) : frm (nf (extM ms true)) ((extM ms true).drop 1) 0 = frm (nf ms) ms 0 := by
  rw [nf_ext hm h5 h2]
  exact ext_facet hm h5 h2

set_option maxHeartbeats 16000000 in
set_option maxRecDepth 100000 in
theorem lawExtensions_any (c : Value) (bs : List Int) (w : World) (hcl : CL w c bs) :
    Ret Try.prog 5 #[c] w fun r w' => r = .bool true ∧ Below w.heap.size w w' := by
  have shcl := hcl.sv
  have hb := Below.refl w.heap.size w
  refine enter1 185 Try.func5 rfl Try.ntmps5 rfl (fun fr => ?_)
  refine go ?_
  refine s_call1 (wn rfl) rfl rfl (big_any _ _ _ hcl) ?_
  rintro _ _ ⟨rfl, rfl⟩
  refine go ?_
  refine cond_dec rfl (fun hbig => ?_) (fun hbig => ?_)
  · refine go ?_
    exact end_one Try.results5 rfl ⟨rfl, hb⟩
  refine go ?_
  refine s_call1 (wn rfl) rfl rfl (DrawExtendManiplex_any _ _ _ hcl) ?_
  rintro _ w1 ⟨x, ms, rfl, hv, hb1⟩
  have sw1 := hb1.size
  replace hcl := hcl.below hb1
  replace hb := hb.trans (hb1.mono hb.size)
  have shv := hv.sv
  refine go ?_
  refine s_alloc (B := w1.heap.size) (wn rfl) rfl (Nat.le_refl _) (fun w2 p3 hx3 hg2 hpp3 => ?_)
  have hb2 := below_of_grownBy hg2
  refine go ?_
  refine s_storeBox (wn rfl) rfl rfl shv.one hx3 (fun w3 hx3b hg3 => ?_)
  have hbq3 := hb2.trans (hx3.below_of hg3 hb2.size)
  have sw3 := hbq3.size
  replace hcl := hcl.below hbq3
  replace hv := hv.below hbq3
  replace hb := hb.trans (hbq3.mono hb.size)
  have hc3 := hx3b.cell
  refine go ?_
  refine s_call1 (wn rfl) rfl rfl (implExtendManiplex_any _ _ _ hv) ?_
  rintro _ w4 ⟨kx, rfl, hA, hb4⟩
  have sw4 := hb4.size
  replace hcl := hcl.below hb4
  replace hv := hv.below hb4
  replace hc3 := cell_below hc3 hb4
  replace hb := hb.trans (hb4.mono hb.size)
  refine go ?_
  refine s_alloc (B := w4.heap.size) (wn rfl) rfl (Nat.le_refl _) (fun w5 p4 hx4 hg5 hpp4 => ?_)
  have hb5 := below_of_grownBy hg5
  refine go ?_
  refine s_storeBox (wn rfl) rfl rfl hA.sv.one hx4 (fun w6 hx4b hg4 => ?_)
  have hbq4 := hb5.trans (hx4.below_of hg4 hb5.size)
  have sw6 := hbq4.size
  replace hcl := hcl.below hbq4
  replace hv := hv.below hbq4
  replace hc3 := cell_below hc3 hbq4
  replace hA := hA.below hbq4
  replace hb := hb.trans (hbq4.mono hb.size)
  have hc4 := hx4b.cell
  refine go ?_
  refine s_call1 (wn rfl) rfl rfl (specExtendManiplex_any _ _ _ hv) ?_
  rintro _ w7 ⟨ky, rfl, hA2, hb7⟩
  have sw7 := hb7.size
  replace hcl := hcl.below hb7
  replace hv := hv.below hb7
  replace hc3 := cell_below hc3 hb7
  replace hA := hA.below hb7
  replace hc4 := cell_below hc4 hb7
  replace hb := hb.trans (hb7.mono hb.size)
  refine go ?_
  refine s_alloc (B := w7.heap.size) (wn rfl) rfl (Nat.le_refl _) (fun w8 p6 hx6 hg8 hpp6 => ?_)
  have hb8 := below_of_grownBy hg8
  refine go ?_
  refine s_storeBox (wn rfl) rfl rfl hA2.sv.one hx6 (fun w9 hx6b hg6 => ?_)
  have hbq6 := hb8.trans (hx6.below_of hg6 hb8.size)
  have sw9 := hbq6.size
  replace hcl := hcl.below hbq6
  replace hv := hv.below hbq6
  replace hc3 := cell_below hc3 hbq6
  replace hA := hA.below hbq6
  replace hc4 := cell_below hc4 hbq6
  replace hA2 := hA2.below hbq6
  replace hb := hb.trans (hbq6.mono hb.size)
  have hc6 := hx6b.cell
  have hn1 : ¬ (extC ms ≠ extC ms) := fun h => h rfl
  have he1 : decide (extL ms false = extL ms false) = true := decide_eq_true rfl
  refine go ?_
  refine s_call2 (wy rfl rfl rfl rfl rfl known) rfl rfl rfl (like5_any _ _ _ _ _ hA.rl hA2.rl) ?_
  rintro _ w10 ⟨rfl, hb10⟩
  have sw10 := hb10.size
  replace hcl := hcl.below hb10
  replace hv := hv.below hb10
  replace hc3 := cell_below hc3 hb10
  replace hA := hA.below hb10
  replace hc4 := cell_below hc4 hb10
  replace hA2 := hA2.below hb10
  replace hc6 := cell_below hc6 hb10
  replace hb := hb.trans (hb10.mono hb.size)
  rw [he1]
  refine go ?_
  refine cond_dec rfl (fun hne => ?_) (fun hne => ?_)
  · refine go ?_
    exact end_one Try.results5 rfl ⟨rfl, hb⟩
  have hc0 : extC ms = 0 := Decidable.not_not.1 hne
  obtain ⟨hm, h5, h2⟩ := extC_0 hc0
  have r1 := hm.m0.r1
  have r5 := hm.m0.r5
  have f4 := hm.m0.f400
  have f2 := hm.m0.f2
  have eF : extL ms false = extM ms false := (ext_4 hm h5 h2).1
  have eT : extL ms true = extM ms true := (ext_4 hm h5 h2).1
  rw [eF] at hA
  have mF := ext_man (b := false) hm h5 h2
  have mT := ext_man (b := true) hm h5 h2
  have lF : (extM ms false).length = ms.length + 1 := len_extM
  have lT : (extM ms true).length = ms.length + 1 := len_extM
  have nF := nf_ext (b := false) hm h5 h2
  have nT := nf_ext (b := true) hm h5 h2
  have bF := facN_extF hm h5 h2
  have bT := facN_extT hm h5 h2
  have tF := extF_take hm h5 h2
  have tT := extT_drop hm h5 h2
  have eD := ext_dual hm h5 h2
  have dF := decide_eq_true mF
  have dT := decide_eq_true mT
  have z0 : ¬ ((0 : Int) ≠ 0) := fun h => h rfl
  have z1 : (0 : Int) = 0 := rfl
  have z2 : decide ((0 : Int) = 0) = true := decide_eq_true rfl
  have hfl := facN_len ms
  refine go ?_
  refine s_call1 (wn rfl) rfl rfl (implExtendInside_any _ _ _ hv) ?_
  rintro _ w11 ⟨ix, rfl, hI, hb11⟩
  have sw11 := hb11.size
  replace hcl := hcl.below hb11
  replace hv := hv.below hb11
  replace hc3 := cell_below hc3 hb11
  replace hA := hA.below hb11
  replace hc4 := cell_below hc4 hb11
  replace hb := hb.trans (hb11.mono hb.size)
  rw [eT] at hI
  rw [hc0]
  refine go ?_
  refine s_alloc (B := w11.heap.size) (wn rfl) rfl (Nat.le_refl _) (fun w12 p8 hx8 hg12 hpp8 => ?_)
  have hb12 := below_of_grownBy hg12
  refine go ?_
  refine s_storeBox (wn rfl) rfl rfl hI.sv.one hx8 (fun w13 hx8b hg8 => ?_)
  have hbq8 := hb12.trans (hx8.below_of hg8 hb12.size)
  have sw13 := hbq8.size
  replace hcl := hcl.below hbq8
  replace hv := hv.below hbq8
  replace hc3 := cell_below hc3 hbq8
  replace hA := hA.below hbq8
  replace hc4 := cell_below hc4 hbq8
  replace hI := hI.below hbq8
  replace hb := hb.trans (hbq8.mono hb.size)
  have hc8 := hx8b.cell
  refine go ?_
  refine s_call1 (wn rfl) rfl rfl (FaceCounts_good _ _ _ hv hm) ?_
  rintro _ w14 ⟨la, rfl, hLa, hb14⟩
  have sw14 := hb14.size
  replace hcl := hcl.below hb14
  replace hv := hv.below hb14
  replace hc3 := cell_below hc3 hb14
  replace hA := hA.below hb14
  replace hc4 := cell_below hc4 hb14
  replace hI := hI.below hb14
  replace hc8 := cell_below hc8 hb14
  replace hb := hb.trans (hb14.mono hb.size)
  refine go ?_
  refine s_call1 (wn rfl) rfl rfl (FaceCounts_good _ _ _ hA.rl mF) ?_
  rintro _ w15 ⟨lb, rfl, hLb, hb15⟩
  have sw15 := hb15.size
  replace hcl := hcl.below hb15
  replace hv := hv.below hb15
  replace hc3 := cell_below hc3 hb15
  replace hA := hA.below hb15
  replace hc4 := cell_below hc4 hb15
  replace hI := hI.below hb15
  replace hc8 := cell_below hc8 hb15
  replace hLa := hLa.below hb15
  replace hb := hb.trans (hb15.mono hb.size)
  refine go ?_
  refine s_call1 (wn rfl) rfl rfl (FaceCounts_good _ _ _ hI.rl mT) ?_
  rintro _ w16 ⟨lc, rfl, hLc, hb16⟩
  have sw16 := hb16.size
  replace hcl := hcl.below hb16
  replace hv := hv.below hb16
  replace hc3 := cell_below hc3 hb16
  replace hA := hA.below hb16
  replace hc4 := cell_below hc4 hb16
  replace hI := hI.below hb16
  replace hc8 := cell_below hc8 hb16
  replace hLa := hLa.below hb16
  replace hLb := hLb.below hb16
  replace hb := hb.trans (hb16.mono hb.size)
  rw [bF] at hLb
  rw [bT] at hLc
  refine go ?_
  refine s_call2 (wn rfl) rfl rfl rfl (FacetAt_good _ _ 0 _ hA.rl mF (by omega) (by omega)) ?_
  rintro _ w17 ⟨fx, rfl, hF, hb17⟩
  have sw17 := hb17.size
  replace hcl := hcl.below hb17
  replace hv := hv.below hb17
  replace hc3 := cell_below hc3 hb17
  replace hA := hA.below hb17
  replace hc4 := cell_below hc4 hb17
  replace hI := hI.below hb17
  replace hc8 := cell_below hc8 hb17
  replace hLa := hLa.below hb17
  replace hLb := hLb.below hb17
  replace hLc := hLc.below hb17
  replace hb := hb.trans (hb17.mono hb.size)
  rw [tF] at hF
  refine go ?_
  refine s_alloc (B := w17.heap.size) (wn rfl) rfl (Nat.le_refl _) (fun w18 p16 hx16 hg18 hpp16 => ?_)
  have hb18 := below_of_grownBy hg18
  refine go ?_
  refine s_storeBox (wn rfl) rfl rfl hF.sv.one hx16 (fun w19 hx16b hg16 => ?_)
  have hbq16 := hb18.trans (hx16.below_of hg16 hb18.size)
  have sw19 := hbq16.size
  replace hcl := hcl.below hbq16
  replace hv := hv.below hbq16
  replace hc3 := cell_below hc3 hbq16
  replace hA := hA.below hbq16
  replace hc4 := cell_below hc4 hbq16
  replace hI := hI.below hbq16
  replace hc8 := cell_below hc8 hbq16
  replace hLa := hLa.below hbq16
  replace hLb := hLb.below hbq16
  replace hLc := hLc.below hbq16
  replace hF := hF.below hbq16
  replace hb := hb.trans (hbq16.mono hb.size)
  have hc16 := hx16b.cell
  refine go ?_
  refine s_call2 (wn rfl) rfl rfl rfl (VertexFigureAt_good _ _ 0 _ hI.rl mT (by omega) (by omega)) ?_
  rintro _ w20 ⟨gx, rfl, hG, hb20⟩
  have sw20 := hb20.size
  replace hcl := hcl.below hb20
  replace hv := hv.below hb20
  replace hc3 := cell_below hc3 hb20
  replace hA := hA.below hb20
  replace hc4 := cell_below hc4 hb20
  replace hI := hI.below hb20
  replace hc8 := cell_below hc8 hb20
  replace hLa := hLa.below hb20
  replace hLb := hLb.below hb20
  replace hLc := hLc.below hb20
  replace hF := hF.below hb20
  replace hc16 := cell_below hc16 hb20
  replace hb := hb.trans (hb20.mono hb.size)
  rw [tT] at hG
  refine go ?_
  refine s_alloc (B := w20.heap.size) (wn rfl) rfl (Nat.le_refl _) (fun w21 p18 hx18 hg21 hpp18 => ?_)
  have hb21 := below_of_grownBy hg21
  refine go ?_
  refine s_storeBox (wn rfl) rfl rfl hG.sv.one hx18 (fun w22 hx18b hg18 => ?_)
  have hbq18 := hb21.trans (hx18.below_of hg18 hb21.size)
  have sw22 := hbq18.size
  replace hcl := hcl.below hbq18
  replace hv := hv.below hbq18
  replace hc3 := cell_below hc3 hbq18
  replace hA := hA.below hbq18
  replace hc4 := cell_below hc4 hbq18
  replace hI := hI.below hbq18
  replace hc8 := cell_below hc8 hbq18
  replace hLa := hLa.below hbq18
  replace hLb := hLb.below hbq18
  replace hLc := hLc.below hbq18
  replace hF := hF.below hbq18
  replace hc16 := cell_below hc16 hbq18
  replace hG := hG.below hbq18
  replace hb := hb.trans (hbq18.mono hb.size)
  have hc18 := hx18b.cell
  refine go ?_
  refine s_call2 (wn rfl) rfl rfl rfl (FormFrom_good _ _ 0 _ hv hm (by omega)) ?_
  rintro _ w23 ⟨qx, rfl, hM, hb23⟩
  have sw23 := hb23.size
  replace hcl := hcl.below hb23
  replace hv := hv.below hb23
  replace hc3 := cell_below hc3 hb23
  replace hA := hA.below hb23
  replace hc4 := cell_below hc4 hb23
  replace hI := hI.below hb23
  replace hc8 := cell_below hc8 hb23
  replace hLa := hLa.below hb23
  replace hLb := hLb.below hb23
  replace hLc := hLc.below hb23
  replace hF := hF.below hb23
  replace hc16 := cell_below hc16 hb23
  replace hG := hG.below hb23
  replace hc18 := cell_below hc18 hb23
  replace hb := hb.trans (hb23.mono hb.size)
  refine go ?_
  refine s_alloc (B := w23.heap.size) (wn rfl) rfl (Nat.le_refl _) (fun w24 p20 hx20 hg24 hpp20 => ?_)
  have hb24 := below_of_grownBy hg24
  refine go ?_
  refine s_storeBox (wn rfl) rfl rfl hM.sv.one hx20 (fun w25 hx20b hg20 => ?_)
  have hbq20 := hb24.trans (hx20.below_of hg20 hb24.size)
  have sw25 := hbq20.size
  replace hcl := hcl.below hbq20
  replace hv := hv.below hbq20
  replace hc3 := cell_below hc3 hbq20
  replace hA := hA.below hbq20
  replace hc4 := cell_below hc4 hbq20
  replace hI := hI.below hbq20
  replace hc8 := cell_below hc8 hbq20
  replace hLa := hLa.below hbq20
  replace hLb := hLb.below hbq20
  replace hLc := hLc.below hbq20
  replace hF := hF.below hbq20
  replace hc16 := cell_below hc16 hbq20
  replace hG := hG.below hbq20
  replace hc18 := cell_below hc18 hbq20
  replace hM := hM.below hbq20
  replace hb := hb.trans (hbq20.mono hb.size)
  have hc20 := hx20b.cell
  clear tF tT
  generalize frm (nf ms) ms 0 = FM at *
  have eM : decide (FM = FM) = true := decide_eq_true rfl
  refine go ?_
  refine s_call1 (wy rfl rfl rfl rfl rfl known) rfl rfl (IsManiplex_any _ _ _ hA.rl) ?_
  rintro _ w26 ⟨rfl, hb26⟩
  have sw26 := hb26.size
  replace hcl := hcl.below hb26
  replace hv := hv.below hb26
  replace hc3 := cell_below hc3 hb26
  replace hA := hA.below hb26
  replace hc4 := cell_below hc4 hb26
  replace hI := hI.below hb26
  replace hc8 := cell_below hc8 hb26
  replace hLa := hLa.below hb26
  replace hLb := hLb.below hb26
  replace hLc := hLc.below hb26
  replace hF := hF.below hb26
  replace hc16 := cell_below hc16 hb26
  replace hG := hG.below hb26
  replace hc18 := cell_below hc18 hb26
  replace hM := hM.below hb26
  replace hc20 := cell_below hc20 hb26
  replace hb := hb.trans (hb26.mono hb.size)
  rw [dF]
  refine go ?_
  refine s_call1 (wy rfl rfl rfl rfl rfl known) rfl rfl (IsManiplex_any _ _ _ hI.rl) ?_
  rintro _ w27 ⟨rfl, hb27⟩
  have sw27 := hb27.size
  replace hcl := hcl.below hb27
  replace hv := hv.below hb27
  replace hc3 := cell_below hc3 hb27
  replace hA := hA.below hb27
  replace hc4 := cell_below hc4 hb27
  replace hI := hI.below hb27
  replace hc8 := cell_below hc8 hb27
  replace hLa := hLa.below hb27
  replace hLb := hLb.below hb27
  replace hLc := hLc.below hb27
  replace hF := hF.below hb27
  replace hc16 := cell_below hc16 hb27
  replace hG := hG.below hb27
  replace hc18 := cell_below hc18 hb27
  replace hM := hM.below hb27
  replace hc20 := cell_below hc20 hb27
  replace hb := hb.trans (hb27.mono hb.size)
  rw [dT]
  refine go ?_
  generalize facN ms = N at *
  have eN1 : decide (N ++ [2] = N ++ [2]) = true := decide_eq_true rfl
  have eN2 : decide ([2] ++ N = [2] ++ N) = true := decide_eq_true rfl
  have sbs1 := hb.size
  have hcl_b1 := hcl
  have hv_b1 := hv
  have hc3_b1 := hc3
  have hA_b1 := hA
  have hc4_b1 := hc4
  have hI_b1 := hI
  have hc8_b1 := hc8
  have hLa_b1 := hLa
  have hLb_b1 := hLb
  have hLc_b1 := hLc
  have hF_b1 := hF
  have hc16_b1 := hc16
  have hG_b1 := hG
  have hc18_b1 := hc18
  have hM_b1 := hM
  have hc20_b1 := hc20
  have hbB1 := Below.refl w27.heap.size w27
  refine go ?_
  have szq28 := hbB1.size
  refine s_build0 (B := w27.heap.size) (wn rfl) rfl szq28 (fun ob w28 ho so hg28 _ => ?_)
  have hb28 := below_of_grownBy hg28
  have sw28 := hb28.size
  replace hcl := hcl.below hb28
  replace hv := hv.below hb28
  replace hc3 := cell_below hc3 hb28
  replace hA := hA.below hb28
  replace hc4 := cell_below hc4 hb28
  replace hI := hI.below hb28
  replace hc8 := cell_below hc8 hb28
  replace hLa := hLa.below hb28
  replace hLb := hLb.below hb28
  replace hLc := hLc.below hb28
  replace hF := hF.below hb28
  replace hc16 := cell_below hc16 hb28
  replace hG := hG.below hb28
  replace hc18 := cell_below hc18 hb28
  replace hM := hM.below hb28
  replace hc20 := cell_below hc20 hb28
  replace hbB1 := hbB1.trans (hb28.mono hbB1.size)
  refine go ?_
  have szq29 := hbB1.size
  refine s_appendI (wn rfl) rfl rfl rfl ho hLa.il (by simp; omega) szq29 (fun ob1 w29 hoN so hgN _ => ?_)
  replace hbB1 := hbB1.trans (ho.below_of hgN szq29)
  have sw29 := hgN.size
  replace ho := hoN
  clear hoN
  replace hcl := hcl_b1.below hbB1
  replace hv := hv_b1.below hbB1
  replace hc3 := cell_below hc3_b1 hbB1
  replace hA := hA_b1.below hbB1
  replace hc4 := cell_below hc4_b1 hbB1
  replace hI := hI_b1.below hbB1
  replace hc8 := cell_below hc8_b1 hbB1
  replace hLa := hLa_b1.below hbB1
  replace hLb := hLb_b1.below hbB1
  replace hLc := hLc_b1.below hbB1
  replace hF := hF_b1.below hbB1
  replace hc16 := cell_below hc16_b1 hbB1
  replace hG := hG_b1.below hbB1
  replace hc18 := cell_below hc18_b1 hbB1
  replace hM := hM_b1.below hbB1
  replace hc20 := cell_below hc20_b1 hbB1
  rw [List.nil_append] at ho
  refine go ?_
  refine go ?_
  have szq30 := hbB1.size
  refine s_build1 (B := w27.heap.size) (wn rfl) rfl rfl szq30 (fun tb w30 ht sr30 hg30 _ => ?_)
  have hb30 := below_of_grownBy hg30
  have sw30 := hb30.size
  replace hcl := hcl.below hb30
  replace hv := hv.below hb30
  replace hc3 := cell_below hc3 hb30
  replace hA := hA.below hb30
  replace hc4 := cell_below hc4 hb30
  replace hI := hI.below hb30
  replace hc8 := cell_below hc8 hb30
  replace hLa := hLa.below hb30
  replace hLb := hLb.below hb30
  replace hLc := hLc.below hb30
  replace hF := hF.below hb30
  replace hc16 := cell_below hc16 hb30
  replace hG := hG.below hb30
  replace hc18 := cell_below hc18 hb30
  replace hM := hM.below hb30
  replace hc20 := cell_below hc20 hb30
  replace ho := ho.below hb30
  replace hbB1 := hbB1.trans (hb30.mono hbB1.size)
  have szq31 := hbB1.size
  refine s_appendI (wn rfl) rfl rfl rfl ho ht.il (by simp; omega) szq31 (fun ob2 w31 hoN so hgN _ => ?_)
  replace hbB1 := hbB1.trans (ho.below_of hgN szq31)
  have sw31 := hgN.size
  replace ho := hoN
  clear hoN
  replace hcl := hcl_b1.below hbB1
  replace hv := hv_b1.below hbB1
  replace hc3 := cell_below hc3_b1 hbB1
  replace hA := hA_b1.below hbB1
  replace hc4 := cell_below hc4_b1 hbB1
  replace hI := hI_b1.below hbB1
  replace hc8 := cell_below hc8_b1 hbB1
  replace hLa := hLa_b1.below hbB1
  replace hLb := hLb_b1.below hbB1
  replace hLc := hLc_b1.below hbB1
  replace hF := hF_b1.below hbB1
  replace hc16 := cell_below hc16_b1 hbB1
  replace hG := hG_b1.below hbB1
  replace hc18 := cell_below hc18_b1 hbB1
  replace hM := hM_b1.below hbB1
  replace hc20 := cell_below hc20_b1 hbB1
  refine go ?_
  refine s_call2 (wn rfl) rfl rfl rfl (likeInts_any _ _ _ _ _ hLb.il ho.il) ?_
  rintro _ w32 ⟨rfl, hb32⟩
  have sw32 := hb32.size
  replace hcl := hcl.below hb32
  replace hv := hv.below hb32
  replace hc3 := cell_below hc3 hb32
  replace hA := hA.below hb32
  replace hc4 := cell_below hc4 hb32
  replace hI := hI.below hb32
  replace hc8 := cell_below hc8 hb32
  replace hLa := hLa.below hb32
  replace hLb := hLb.below hb32
  replace hLc := hLc.below hb32
  replace hF := hF.below hb32
  replace hc16 := cell_below hc16 hb32
  replace hG := hG.below hb32
  replace hc18 := cell_below hc18 hb32
  replace hM := hM.below hb32
  replace hc20 := cell_below hc20 hb32
  replace ho := ho.below hb32
  replace hbB1 := hbB1.trans (hb32.mono hbB1.size)
  rw [eN1]
  refine go ?_
  have szq33 := hbB1.size
  refine s_build1 (B := w27.heap.size) (wy rfl rfl rfl rfl rfl known) rfl rfl szq33 (fun tc w33 hu sr33 hg33 _ => ?_)
  have hb33 := below_of_grownBy hg33
  have sw33 := hb33.size
  replace hcl := hcl.below hb33
  replace hv := hv.below hb33
  replace hc3 := cell_below hc3 hb33
  replace hA := hA.below hb33
  replace hc4 := cell_below hc4 hb33
  replace hI := hI.below hb33
  replace hc8 := cell_below hc8 hb33
  replace hLa := hLa.below hb33
  replace hLb := hLb.below hb33
  replace hLc := hLc.below hb33
  replace hF := hF.below hb33
  replace hc16 := cell_below hc16 hb33
  replace hG := hG.below hb33
  replace hc18 := cell_below hc18 hb33
  replace hM := hM.below hb33
  replace hc20 := cell_below hc20 hb33
  replace ho := ho.below hb33
  replace hbB1 := hbB1.trans (hb33.mono hbB1.size)
  refine go ?_
  have szq34 := hbB1.size
  refine s_appendI (wy rfl rfl rfl rfl rfl known) rfl rfl rfl hu hLa.il (by simp; omega) szq34 (fun ob3 w34 hoN so hgN _ => ?_)
  replace hbB1 := hbB1.trans (hu.below_of hgN szq34)
  have sw34 := hgN.size
  replace hu := hoN
  clear hoN
  replace hcl := hcl_b1.below hbB1
  replace hv := hv_b1.below hbB1
  replace hc3 := cell_below hc3_b1 hbB1
  replace hA := hA_b1.below hbB1
  replace hc4 := cell_below hc4_b1 hbB1
  replace hI := hI_b1.below hbB1
  replace hc8 := cell_below hc8_b1 hbB1
  replace hLa := hLa_b1.below hbB1
  replace hLb := hLb_b1.below hbB1
  replace hLc := hLc_b1.below hbB1
  replace hF := hF_b1.below hbB1
  replace hc16 := cell_below hc16_b1 hbB1
  replace hG := hG_b1.below hbB1
  replace hc18 := cell_below hc18_b1 hbB1
  replace hM := hM_b1.below hbB1
  replace hc20 := cell_below hc20_b1 hbB1
  refine go ?_
  refine s_call2 (wy rfl rfl rfl rfl rfl known) rfl rfl rfl (likeInts_any _ _ _ _ _ hLc.il hu.il) ?_
  rintro _ w35 ⟨rfl, hb35⟩
  have sw35 := hb35.size
  replace hcl := hcl.below hb35
  replace hv := hv.below hb35
  replace hc3 := cell_below hc3 hb35
  replace hA := hA.below hb35
  replace hc4 := cell_below hc4 hb35
  replace hI := hI.below hb35
  replace hc8 := cell_below hc8 hb35
  replace hLa := hLa.below hb35
  replace hLb := hLb.below hb35
  replace hLc := hLc.below hb35
  replace hF := hF.below hb35
  replace hc16 := cell_below hc16 hb35
  replace hG := hG.below hb35
  replace hc18 := cell_below hc18 hb35
  replace hM := hM.below hb35
  replace hc20 := cell_below hc20 hb35
  replace hu := hu.below hb35
  replace hbB1 := hbB1.trans (hb35.mono hbB1.size)
  rw [eN2]
  refine go ?_
  refine s_call2 (wy rfl rfl rfl rfl rfl known) rfl rfl rfl (like5_any _ _ _ _ _ hF.rl hM.rl) ?_
  rintro _ w36 ⟨rfl, hb36⟩
  have sw36 := hb36.size
  replace hcl := hcl.below hb36
  replace hv := hv.below hb36
  replace hc3 := cell_below hc3 hb36
  replace hA := hA.below hb36
  replace hc4 := cell_below hc4 hb36
  replace hI := hI.below hb36
  replace hc8 := cell_below hc8 hb36
  replace hLa := hLa.below hb36
  replace hLb := hLb.below hb36
  replace hLc := hLc.below hb36
  replace hF := hF.below hb36
  replace hc16 := cell_below hc16 hb36
  replace hG := hG.below hb36
  replace hc18 := cell_below hc18 hb36
  replace hM := hM.below hb36
  replace hc20 := cell_below hc20 hb36
  replace hu := hu.below hb36
  replace hbB1 := hbB1.trans (hb36.mono hbB1.size)
  rw [eM]
  refine go ?_
  refine s_call2 (wy rfl rfl rfl rfl rfl known) rfl rfl rfl (like5_any _ _ _ _ _ hG.rl hM.rl) ?_
  rintro _ w37 ⟨rfl, hb37⟩
  have sw37 := hb37.size
  replace hcl := hcl.below hb37
  replace hv := hv.below hb37
  replace hc3 := cell_below hc3 hb37
  replace hA := hA.below hb37
  replace hc4 := cell_below hc4 hb37
  replace hI := hI.below hb37
  replace hc8 := cell_below hc8 hb37
  replace hLa := hLa.below hb37
  replace hLb := hLb.below hb37
  replace hLc := hLc.below hb37
  replace hF := hF.below hb37
  replace hc16 := cell_below hc16 hb37
  replace hG := hG.below hb37
  replace hc18 := cell_below hc18 hb37
  replace hM := hM.below hb37
  replace hc20 := cell_below hc20 hb37
  replace hu := hu.below hb37
  replace hbB1 := hbB1.trans (hb37.mono hbB1.size)
  rw [eM]
  replace hb := hb.trans (hbB1.mono hb.size)
  refine go ?_
  refine s_call1 (wn rfl) rfl rfl (flags5_any _ _ _ hv r1) ?_
  rintro _ w38 ⟨rfl, hb38⟩
  have sw38 := hb38.size
  replace hcl := hcl.below hb38
  replace hv := hv.below hb38
  replace hc3 := cell_below hc3 hb38
  replace hA := hA.below hb38
  replace hc4 := cell_below hc4 hb38
  replace hI := hI.below hb38
  replace hc8 := cell_below hc8 hb38
  replace hLa := hLa.below hb38
  replace hLb := hLb.below hb38
  replace hLc := hLc.below hb38
  replace hF := hF.below hb38
  replace hc16 := cell_below hc16 hb38
  replace hG := hG.below hb38
  replace hc18 := cell_below hc18 hb38
  replace hM := hM.below hb38
  replace hc20 := cell_below hc20 hb38
  replace hu := hu.below hb38
  replace hb := hb.trans (hb38.mono hb.size)
  refine go ?_
  refine cond_dec rfl (fun h40 => ?_) (fun h40 => ?_)
  · refine go ?_
    exact end_one Try.results5 rfl ⟨rfl, hb⟩
  obtain ⟨mD, lD, nD, _⟩ := duals hm
  have cD := (ext_4 (b := true) mD (by omega) (by omega)).2
  have eX : extL (dualL ms) true = extM (dualL ms) true := (ext_4 mD (by omega) (by omega)).1
  have mX := ext_man (b := true) mD (by omega) (by omega)
  obtain ⟨mE, _, _, _⟩ := duals mF
  have dE : decide (lst (extM (dualL ms) true) = lst (dualL (extM ms false))) = true := decide_eq_true eD
  refine go ?_
  refine s_call1 (wn rfl) rfl rfl (implDualOf_any _ _ _ hv) ?_
  rintro _ w39 ⟨dx, rfl, hD, hb39⟩
  have sw39 := hb39.size
  replace hcl := hcl.below hb39
  replace hv := hv.below hb39
  replace hc3 := cell_below hc3 hb39
  replace hA := hA.below hb39
  replace hc4 := cell_below hc4 hb39
  replace hI := hI.below hb39
  replace hc8 := cell_below hc8 hb39
  replace hLa := hLa.below hb39
  replace hLb := hLb.below hb39
  replace hLc := hLc.below hb39
  replace hF := hF.below hb39
  replace hc16 := cell_below hc16 hb39
  replace hG := hG.below hb39
  replace hc18 := cell_below hc18 hb39
  replace hM := hM.below hb39
  replace hc20 := cell_below hc20 hb39
  replace hu := hu.below hb39
  replace hb := hb.trans (hb39.mono hb.size)
  rw [manC_yes hm]
  refine go ?_
  refine s_alloc (B := w39.heap.size) (wn rfl) rfl (Nat.le_refl _) (fun w40 p22 hx22 hg40 hpp22 => ?_)
  have hb40 := below_of_grownBy hg40
  refine go ?_
  refine s_storeBox (wn rfl) rfl rfl hD.sv.one hx22 (fun w41 hx22b hg22 => ?_)
  have hbq22 := hb40.trans (hx22.below_of hg22 hb40.size)
  have sw41 := hbq22.size
  replace hcl := hcl.below hbq22
  replace hv := hv.below hbq22
  replace hc3 := cell_below hc3 hbq22
  replace hA := hA.below hbq22
  replace hc4 := cell_below hc4 hbq22
  replace hI := hI.below hbq22
  replace hc8 := cell_below hc8 hbq22
  replace hLa := hLa.below hbq22
  replace hLb := hLb.below hbq22
  replace hLc := hLc.below hbq22
  replace hF := hF.below hbq22
  replace hc16 := cell_below hc16 hbq22
  replace hG := hG.below hbq22
  replace hc18 := cell_below hc18 hbq22
  replace hM := hM.below hbq22
  replace hc20 := cell_below hc20 hbq22
  replace hu := hu.below hbq22
  replace hD := hD.below hbq22
  replace hb := hb.trans (hbq22.mono hb.size)
  have hc22 := hx22b.cell
  refine go ?_
  refine s_call1 (wn rfl) rfl rfl (implExtendInside_any _ _ _ hD.rl) ?_
  rintro _ w42 ⟨ex, rfl, hX, hb42⟩
  have sw42 := hb42.size
  replace hcl := hcl.below hb42
  replace hv := hv.below hb42
  replace hc3 := cell_below hc3 hb42
  replace hA := hA.below hb42
  replace hc4 := cell_below hc4 hb42
  replace hI := hI.below hb42
  replace hc8 := cell_below hc8 hb42
  replace hLa := hLa.below hb42
  replace hLb := hLb.below hb42
  replace hLc := hLc.below hb42
  replace hF := hF.below hb42
  replace hc16 := cell_below hc16 hb42
  replace hG := hG.below hb42
  replace hc18 := cell_below hc18 hb42
  replace hM := hM.below hb42
  replace hc20 := cell_below hc20 hb42
  replace hu := hu.below hb42
  replace hD := hD.below hb42
  replace hc22 := cell_below hc22 hb42
  replace hb := hb.trans (hb42.mono hb.size)
  rw [eX] at hX
  rw [cD]
  refine go ?_
  refine s_alloc (B := w42.heap.size) (wn rfl) rfl (Nat.le_refl _) (fun w43 p24 hx24 hg43 hpp24 => ?_)
  have hb43 := below_of_grownBy hg43
  refine go ?_
  refine s_storeBox (wn rfl) rfl rfl hX.sv.one hx24 (fun w44 hx24b hg24 => ?_)
  have hbq24 := hb43.trans (hx24.below_of hg24 hb43.size)
  have sw44 := hbq24.size
  replace hcl := hcl.below hbq24
  replace hv := hv.below hbq24
  replace hc3 := cell_below hc3 hbq24
  replace hA := hA.below hbq24
  replace hc4 := cell_below hc4 hbq24
  replace hI := hI.below hbq24
  replace hc8 := cell_below hc8 hbq24
  replace hLa := hLa.below hbq24
  replace hLb := hLb.below hbq24
  replace hLc := hLc.below hbq24
  replace hF := hF.below hbq24
  replace hc16 := cell_below hc16 hbq24
  replace hG := hG.below hbq24
  replace hc18 := cell_below hc18 hbq24
  replace hM := hM.below hbq24
  replace hc20 := cell_below hc20 hbq24
  replace hu := hu.below hbq24
  replace hD := hD.below hbq24
  replace hc22 := cell_below hc22 hbq24
  replace hX := hX.below hbq24
  replace hb := hb.trans (hbq24.mono hb.size)
  have hc24 := hx24b.cell
  refine go ?_
  refine s_call1 (wn rfl) rfl rfl (implDualOf_any _ _ _ hA.rl) ?_
  rintro _ w45 ⟨oy, rfl, hO, hb45⟩
  have sw45 := hb45.size
  replace hcl := hcl.below hb45
  replace hv := hv.below hb45
  replace hc3 := cell_below hc3 hb45
  replace hA := hA.below hb45
  replace hc4 := cell_below hc4 hb45
  replace hI := hI.below hb45
  replace hc8 := cell_below hc8 hb45
  replace hLa := hLa.below hb45
  replace hLb := hLb.below hb45
  replace hLc := hLc.below hb45
  replace hF := hF.below hb45
  replace hc16 := cell_below hc16 hb45
  replace hG := hG.below hb45
  replace hc18 := cell_below hc18 hb45
  replace hM := hM.below hb45
  replace hc20 := cell_below hc20 hb45
  replace hu := hu.below hb45
  replace hD := hD.below hb45
  replace hc22 := cell_below hc22 hb45
  replace hX := hX.below hb45
  replace hc24 := cell_below hc24 hb45
  replace hb := hb.trans (hb45.mono hb.size)
  rw [manC_yes mF]
  refine go ?_
  refine s_alloc (B := w45.heap.size) (wn rfl) rfl (Nat.le_refl _) (fun w46 p26 hx26 hg46 hpp26 => ?_)
  have hb46 := below_of_grownBy hg46
  refine go ?_
  refine s_storeBox (wn rfl) rfl rfl hO.sv.one hx26 (fun w47 hx26b hg26 => ?_)
  have hbq26 := hb46.trans (hx26.below_of hg26 hb46.size)
  have sw47 := hbq26.size
  replace hcl := hcl.below hbq26
  replace hv := hv.below hbq26
  replace hc3 := cell_below hc3 hbq26
  replace hA := hA.below hbq26
  replace hc4 := cell_below hc4 hbq26
  replace hI := hI.below hbq26
  replace hc8 := cell_below hc8 hbq26
  replace hLa := hLa.below hbq26
  replace hLb := hLb.below hbq26
  replace hLc := hLc.below hbq26
  replace hF := hF.below hbq26
  replace hc16 := cell_below hc16 hbq26
  replace hG := hG.below hbq26
  replace hc18 := cell_below hc18 hbq26
  replace hM := hM.below hbq26
  replace hc20 := cell_below hc20 hbq26
  replace hu := hu.below hbq26
  replace hD := hD.below hbq26
  replace hc22 := cell_below hc22 hbq26
  replace hX := hX.below hbq26
  replace hc24 := cell_below hc24 hbq26
  replace hO := hO.below hbq26
  replace hb := hb.trans (hbq26.mono hb.size)
  have hc26 := hx26b.cell
  refine go ?_
  refine s_call2 (wy rfl rfl rfl rfl rfl known) rfl rfl rfl (least5_good _ _ _ _ _ hX.rl hO.rl mX mE) ?_
  rintro _ w48 ⟨rfl, hb48⟩
  have sw48 := hb48.size
  replace hcl := hcl.below hb48
  replace hv := hv.below hb48
  replace hc3 := cell_below hc3 hb48
  replace hA := hA.below hb48
  replace hc4 := cell_below hc4 hb48
  replace hI := hI.below hb48
  replace hc8 := cell_below hc8 hb48
  replace hLa := hLa.below hb48
  replace hLb := hLb.below hb48
  replace hLc := hLc.below hb48
  replace hF := hF.below hb48
  replace hc16 := cell_below hc16 hb48
  replace hG := hG.below hb48
  replace hc18 := cell_below hc18 hb48
  replace hM := hM.below hb48
  replace hc20 := cell_below hc20 hb48
  replace hu := hu.below hb48
  replace hD := hD.below hb48
  replace hc22 := cell_below hc22 hb48
  replace hX := hX.below hb48
  replace hc24 := cell_below hc24 hb48
  replace hO := hO.below hb48
  replace hc26 := cell_below hc26 hb48
  replace hb := hb.trans (hb48.mono hb.size)
  rw [dE]
  refine go ?_
  exact end_one Try.results5 rfl ⟨rfl, hb⟩


set_option maxRecDepth 100000 in
theorem liftedExtensions (os : Os) (started : os.Started) (H : Type) (enc : TypeId × Value → H) :
    ReturnsInHanded {} Try.checked os 5 .any (Rows.fnExtensionsSpec.pre6 enc Try.prog Try.f5 Rows.fnExtensionsRow.domain false) (Rows.fnExtensionsSpec.post enc Try.prog Try.f5 false true false false) := by
  refine returnsInHanded_of_change (C := Try.checked) own started (by kernel_rfl) Try.func5
    (ChangeSpec.witness6 (enc := enc) (C := Try.checked) false ⟨#[], #[.slice none 0 0], []⟩ 8 (by kernel_rfl) (by kernel_rfl) (by kernel_rfl) (by kernel_rfl)) ?_
  intro W base args ds gs before hval0 hW hcnd _
  have hval : ∀ (j : Nat) t v, Try.f5.params[j]? = some t → args[j]? = some v → Value.okWide Try.prog W .any base t v := hval0
  have hW' := hW
  obtain ⟨p, q, hA0, hV, rfl, hfz, hnd⟩ := hW
  have hA : DataW.TrodAll enc Try.prog W 0 (fun _ => true) true Try.f5.params.toList args.toList ds p := hA0
  rw [Try.params5] at hA hval
  obtain ⟨v0, vs0, d0, ds0, p0, q0, hargs, rfl, rfl, h0, r0⟩ := trodAll_cons hA
  obtain ⟨rfl, rfl, rfl⟩ := trodAll_nil r0
  obtain rfl : args = #[v0] := by cases args; simp_all
  obtain ⟨rfl, rfl⟩ := trodVars_none hV
  have lt0 : ∀ x ∈ p0, x.block < W.heap.size := by obtain ⟨m, hm⟩ := h0; exact DataW.trod_lt m _ _ _ hm
  obtain ⟨xs0, hu0⟩ := open_arg_B (hval 0 22 v0 rfl rfl) h0
  clear hA0 hval0
  refine Calls.mono (lawExtensions_any v0 xs0 W hu0) fun e W' ⟨v, he, hv, bel⟩ => ?_
  subst he
  subst hv
  exact ⟨_, rfl, _, _, _, [], _, [], hW', trodAll_mk1 (shut_bool Try.underlying4 _), (trodAll_cons_mk (Below.trod laidOut (by kernel_rfl) (of_decide_eq_true (by kernel_rfl)) h0 bel lt0) trodAll_mk0), rfl, bel.frame _, fun h => by cases h⟩

theorem provedExtensions : Rows.FnExtensionsSaid :=
  OpenClaim.holds_of_wide 5 Try.f5 rfl rfl rfl rfl rfl rfl rfl ⟨rfl, rfl, rfl, rfl, rfl⟩ rfl rfl rfl rfl rfl (by kernel_rfl) Try.func5 (by kernel_rfl)
    (of_decide_eq_true (by kernel_rfl)) (by unfold Func.isWrapper; first | (rw [if_pos (by decide +kernel)]; kernel_rfl) | (rw [if_neg (by decide +kernel)]; exact ⟨rfl, rfl⟩))
    (fun os started H enc _ => liftedExtensions os started H enc)

end Go.Proofs.Ytmdimdbfgibflaa
