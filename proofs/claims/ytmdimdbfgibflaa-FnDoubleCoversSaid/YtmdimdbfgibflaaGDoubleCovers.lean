/- The general law of DoubleCover, for every code: its walk and its row. No conditions. -/
import Derived.Test.YtmdimdbfgibflaaF80
import Derived.Test.YtmdimdbfgibflaaF83
import Derived.Test.YtmdimdbfgibflaaF67
import Derived.Test.YtmdimdbfgibflaaFE
import Derived.Test.YtmdimdbfgibflaaFG
import Derived.Test.YtmdimdbfgibflaaF26
import Derived.Test.YtmdimdbfgibflaaF40
import Derived.Test.YtmdimdbfgibflaaF72
import Derived.Test.YtmdimdbfgibflaaPG
import Derived.Test.YtmdimdbfgibflaaRA
import Derived.WalkKit
import Derived.ShutString
namespace Go.Proofs.Ytmdimdbfgibflaa
open Go.Mem Go.ChangeShapes Go.WideShapes Go.ChangeAt Go.RowKit
set_option linter.unusedVariables false
set_option linter.unusedSimpArgs false

theorem in_take {xs : List Int} {a : Int} : a ∈ xs ↔ ∃ j : Nat, j < xs.length ∧ gi xs j = a := ⟨fun h => by
  obtain ⟨j, hj, e⟩ := in_gi h
  exact ⟨j, hj, e⟩, fun ⟨j, hj, e⟩ => e ▸ gi_in hj⟩
theorem halfL_succ (i : Nat) : (List.range (i + 1)).map (fun f : Nat => (f : Int) / 2) = (List.range i).map (fun f : Nat => (f : Int) / 2) ++ [(i : Int) / 2] := by simp [List.range_succ]
theorem dcovers_all {ms : List (List Int)} (hc : dcC ms = 0) : IsMan ms ∧ ∃ (K : List (List Int)) (NA NB : List Int), dcL ms = K ∧ (IsMan K ∧ K.length = ms.length ∧ nf K = 2 * nf ms) ∧ (isCovB K ms (halfL (nf ms)) = true ∧ manC2 K ms = 0) ∧ (isNorm K ms (halfL (nf ms)) = true ∧ covC K ms (halfL (nf ms)) = 0) ∧ Ori K ∧
    (facN ms = NA ∧ facN K = NB ∧ NA.length = ms.length ∧ NB.length = ms.length) ∧ ∀ i : Nat, i < ms.length → (1 ≤ gi NA i ∧ gi NA i ≤ 400) ∧ (gi NA i ≤ gi NB i ∧ gi NB i ≤ 2 * gi NA i ∧ (ms.length = 3 → gi NB i = 2 * gi NA i)) ∧
      facMC K ms (halfL (nf ms)) i = 0 ∧ ((facM K ms (halfL (nf ms)) i).length : Int) = gi NB i ∧ ∀ e : Int, 0 ≤ e → e < gi NA i → e ∈ facM K ms (halfL (nf ms)) i := by
  have h : IsMan ms ∧ ¬ Ori ms ∧ ¬ 200 < nf ms := by
    unfold dcC at hc
    split at hc
    · rename_i hm
      split at hc
      · exact absurd hc (by decide)
      · rename_i ho
        split at hc
        · exact absurd hc (by decide)
        · rename_i h2; exact ⟨hm, ho, h2⟩
    · exact absurd hc (by decide)
  obtain ⟨hm, ho, h2⟩ := h
  have e := (dc_4 hm ho h2).1
  have hK := dc_man hm h2 ho
  have hC := dc_cov hm h2 ho
  have lK : (ms.map dcv).length = ms.length := List.length_map _
  have cb := isCovB_2 (xs := halfL (nf ms)) hK hm
  refine ⟨hm, ms.map dcv, facN ms, facN (ms.map dcv), e, ⟨hK, lK, nf_dc hm h2 ho⟩, ⟨by rw [cb.1]; exact decide_eq_true hC, cb.2⟩, ⟨dc_norm hm h2 ho, covC_3 hK hm hC⟩, dc_ori hm h2 ho, ⟨rfl, rfl, facN_len _, by rw [facN_len, lK]⟩, fun i hi => ?_⟩
  have hf := dc_fac hm h2 ho hi
  have hp := facC_pos hm i
  have hd := dc_face hm h2 ho hi
  rw [gi_facN (by omega) (by omega), gi_facN (by omega) (by omega)]
  exact ⟨hp, hf, hd.1, hd.2.1, hd.2.2⟩

set_option maxHeartbeats 8000000 in
set_option maxRecDepth 100000 in
theorem hasInt_any (v : Value) (xs : List Int) (a : Int) (w : World) (hv : IL w v xs) :
    Ret Try.prog 28 #[v, .int .i64 a] w fun r w' => r = .bool (decide (a ∈ xs)) ∧ Below w.heap.size w w' := by
  have shv := hv.sv
  have hb := Below.refl w.heap.size w
  refine enter2 18 Try.func28 rfl Try.ntmps28 rfl (fun fr => ?_)
  have scap := shv.le
  refine go ?_
  have sbs1 := hb.size
  have hv_b1 := hv
  have hbB1 := Below.refl w.heap.size w
  refine w_loop (fun kk fr w' => ∃ (i : Nat), kk = xs.length - i ∧ i ≤ xs.length ∧ fr 0 = v ∧ fr 1 = .int .i64 a ∧ fr 5 = .int .i64 i ∧ (∀ j : Nat, j < i → gi xs j ≠ a) ∧ Below w.heap.size w w') (xs.length)
    ⟨0, rfl, Nat.zero_le _, rfl, rfl, rfl, fun j hj => by omega, hbB1⟩ ?_
  rintro kk fr w1 ⟨i, rfl, hi, f0, f1, f5, hno, hbB1⟩
  have sw1 := hbB1.size
  have hv := hv_b1.below hbB1
  refine know (t := 0) f0 ?_; refine know (t := 1) f1 ?_; refine know (t := 5) f5 ?_
  refine go ?_
  refine cond_dec rfl (fun hlt => ?_) (fun hge => ?_)
  · refine go ?_
    refine cond_dec rfl (fun he => ?_) (fun he => ?_)
    · refine go ?_
      exact end_one Try.results28 rfl ⟨by rw [decide_eq_true (in_take.2 ⟨i, by omega, he⟩)], (hb.trans (hbB1.mono hb.size))⟩
    refine go ?_
    refine ⟨xs.length - (i + 1), by omega, i + 1, rfl, by omega, rfl, rfl, rfl, fun j hj => by by_cases hji : j = i; (subst hji; exact he); exact hno j (by omega), hbB1⟩
  obtain rfl : i = xs.length := by omega
  refine go ?_
  exact end_one Try.results28 rfl ⟨by rw [decide_eq_false (fun h => by obtain ⟨j, hj, e⟩ := in_take.1 h; exact hno j hj e)], (hb.trans (hbB1.mono hb.size))⟩

set_option maxHeartbeats 16000000 in
set_option maxRecDepth 100000 in
theorem lawDoubleCovers_any (c : Value) (bs : List Int) (w : World) (hcl : CL w c bs) :
    Ret Try.prog 4 #[c] w fun r w' => r = .bool true ∧ Below w.heap.size w w' := by
  have shcl := hcl.sv
  have hb := Below.refl w.heap.size w
  refine enter1 202 Try.func4 rfl Try.ntmps4 rfl (fun fr => ?_)
  refine go ?_
  refine s_call1 (wn rfl) rfl rfl (big_any _ _ _ hcl) ?_
  rintro _ _ ⟨rfl, rfl⟩
  refine go ?_
  refine cond_dec rfl (fun hbig => ?_) (fun hbig => ?_)
  · refine go ?_
    exact end_one Try.results4 rfl ⟨rfl, hb⟩
  refine go ?_
  refine s_call1 (wn rfl) rfl rfl (DrawDoubleCover_any _ _ _ hcl) ?_
  rintro _ w1 ⟨x, ms, rfl, hv, hb1⟩
  have sw1 := hb1.size
  replace hcl := hcl.below hb1
  replace hb := hb.trans (hb1.mono hb.size)
  have shv := hv.sv
  refine go ?_
  refine s_alloc (B := w1.heap.size) (wn rfl) rfl (Nat.le_refl _) (fun w2 p3 hx3 hg2 hpp3 => ?_)
  have hb2 := below_of_grownBy hg2
  refine go ?_
  refine s_storeBox (wn rfl) rfl rfl shv.one hx3 (fun w3 hx3b hg3 => ?_)
  have hbq3 := hb2.trans (hx3.below_of hg3 hb2.size)
  have sw3 := hbq3.size
  replace hcl := hcl.below hbq3
  replace hv := hv.below hbq3
  replace hb := hb.trans (hbq3.mono hb.size)
  have hc3 := hx3b.cell
  refine go ?_
  refine s_call1 (wn rfl) rfl rfl (implDoubleCover_any _ _ _ hv) ?_
  rintro _ w4 ⟨kx, rfl, hA, hb4⟩
  have sw4 := hb4.size
  replace hcl := hcl.below hb4
  replace hv := hv.below hb4
  replace hc3 := cell_below hc3 hb4
  replace hb := hb.trans (hb4.mono hb.size)
  refine go ?_
  refine s_alloc (B := w4.heap.size) (wn rfl) rfl (Nat.le_refl _) (fun w5 p4 hx4 hg5 hpp4 => ?_)
  have hb5 := below_of_grownBy hg5
  refine go ?_
  refine s_storeBox (wn rfl) rfl rfl hA.sv.one hx4 (fun w6 hx4b hg4 => ?_)
  have hbq4 := hb5.trans (hx4.below_of hg4 hb5.size)
  have sw6 := hbq4.size
  replace hcl := hcl.below hbq4
  replace hv := hv.below hbq4
  replace hc3 := cell_below hc3 hbq4
  replace hA := hA.below hbq4
  replace hb := hb.trans (hbq4.mono hb.size)
  have hc4 := hx4b.cell
  refine go ?_
  refine s_call1 (wn rfl) rfl rfl (specDoubleCover_any _ _ _ hv) ?_
  rintro _ w7 ⟨ky, rfl, hA2, hb7⟩
  have sw7 := hb7.size
  replace hcl := hcl.below hb7
  replace hv := hv.below hb7
  replace hc3 := cell_below hc3 hb7
  replace hA := hA.below hb7
  replace hc4 := cell_below hc4 hb7
  replace hb := hb.trans (hb7.mono hb.size)
  refine go ?_
  refine s_alloc (B := w7.heap.size) (wn rfl) rfl (Nat.le_refl _) (fun w8 p6 hx6 hg8 hpp6 => ?_)
  have hb8 := below_of_grownBy hg8
  refine go ?_
  refine s_storeBox (wn rfl) rfl rfl hA2.sv.one hx6 (fun w9 hx6b hg6 => ?_)
  have hbq6 := hb8.trans (hx6.below_of hg6 hb8.size)
  have sw9 := hbq6.size
  replace hcl := hcl.below hbq6
  replace hv := hv.below hbq6
  replace hc3 := cell_below hc3 hbq6
  replace hA := hA.below hbq6
  replace hc4 := cell_below hc4 hbq6
  replace hA2 := hA2.below hbq6
  replace hb := hb.trans (hbq6.mono hb.size)
  have hc6 := hx6b.cell
  have hn1 : ¬ (dcC ms ≠ dcC ms) := fun h => h rfl
  have he1 : decide (dcL ms = dcL ms) = true := decide_eq_true rfl
  refine go ?_
  refine s_call2 (wy rfl rfl rfl rfl rfl known) rfl rfl rfl (like5_any _ _ _ _ _ hA.rl hA2.rl) ?_
  rintro _ w10 ⟨rfl, hb10⟩
  have sw10 := hb10.size
  replace hcl := hcl.below hb10
  replace hv := hv.below hb10
  replace hc3 := cell_below hc3 hb10
  replace hA := hA.below hb10
  replace hc4 := cell_below hc4 hb10
  replace hA2 := hA2.below hb10
  replace hc6 := cell_below hc6 hb10
  replace hb := hb.trans (hb10.mono hb.size)
  rw [he1]
  refine go ?_
  refine cond_dec rfl (fun hne => ?_) (fun hne => ?_)
  · refine go ?_
    exact end_one Try.results4 rfl ⟨rfl, hb⟩
  have hc0 : dcC ms = 0 := Decidable.not_not.1 hne
  obtain ⟨hm, K, NA, NB, eK, ⟨mK, lK, nK⟩, ⟨eC, cC⟩, ⟨eN, cN⟩, hO, ⟨eA, eB, lA, lB⟩, hall⟩ := dcovers_all hc0
  have r1 := hm.m0.r1
  have r5 := hm.m0.r5
  have f4 := hm.m0.f400
  have f2 := hm.m0.f2
  rw [eK] at hA
  have z0 : ¬ ((0 : Int) ≠ 0) := fun h => h rfl
  have dO := decide_eq_true hO
  have kl : ¬ ((ms.length : Int) ≠ ms.length) := fun h => h rfl
  refine go ?_
  have sbs1 := hb.size
  have hcl_b1 := hcl
  have hv_b1 := hv
  have hc3_b1 := hc3
  have hA_b1 := hA
  have hc4_b1 := hc4
  have hbB1 := Below.refl w10.heap.size w10
  refine go ?_
  have szq11 := hbB1.size
  refine s_build0 (B := w10.heap.size) (wn rfl) rfl szq11 (fun ob w11 hw so hg11 _ => ?_)
  have hb11 := below_of_grownBy hg11
  have sw11 := hb11.size
  replace hcl := hcl.below hb11
  replace hv := hv.below hb11
  replace hc3 := cell_below hc3 hb11
  replace hA := hA.below hb11
  replace hc4 := cell_below hc4 hb11
  replace hbB1 := hbB1.trans (hb11.mono hbB1.size)
  refine go ?_
  refine w_loop (fun kk fr w' => ∃ (i : Nat) (ob : Value), kk = (2 * nf ms) - i ∧ i ≤ (2 * nf ms) ∧ fr 3 = .pointer (some p3) ∧ fr 4 = .pointer (some p4) ∧ fr 8 = ob ∧ fr 9 = .int .i64 i ∧ (OI w' w10.heap.size 2 ob ((List.range i).map fun f : Nat => (f : Int) / 2)) ∧ Below w10.heap.size w10 w') ((2 * nf ms))
    ⟨0, ob, rfl, Nat.zero_le _, rfl, rfl, rfl, rfl, hw, hbB1⟩ ?_
  rintro kk fr w12 ⟨i, ob, rfl, hi, f3, f4, f8, f9, hw, hbB1⟩
  have sw12 := hbB1.size
  have hcl := hcl_b1.below hbB1
  have hv := hv_b1.below hbB1
  have hc3 := cell_below hc3_b1 hbB1
  have hA := hA_b1.below hbB1
  have hc4 := cell_below hc4_b1 hbB1
  have shw := hw.sv
  refine know (t := 3) f3 ?_; refine know (t := 4) f4 ?_; refine know (t := 8) f8 ?_; refine know (t := 9) f9 ?_
  refine go ?_
  refine go ?_
  refine s_call1 (wn rfl) rfl rfl (flags5_any _ _ _ hA.rl (by omega)) ?_
  rintro _ w13 ⟨rfl, hb13⟩
  have sw13 := hb13.size
  replace hcl := hcl.below hb13
  replace hv := hv.below hb13
  replace hc3 := cell_below hc3 hb13
  replace hA := hA.below hb13
  replace hc4 := cell_below hc4 hb13
  replace hw := hw.below hb13
  replace hbB1 := hbB1.trans (hb13.mono hbB1.size)
  refine go ?_
  refine cond_dec rfl (fun hlt => ?_) (fun hge => ?_)
  · refine go ?_
    have szq14 := hbB1.size
    refine s_build1 (B := w10.heap.size) (wn rfl) rfl rfl szq14 (fun tb w14 ht st hg14 _ => ?_)
    have hb14 := below_of_grownBy hg14
    have sw14 := hb14.size
    replace hcl := hcl.below hb14
    replace hv := hv.below hb14
    replace hc3 := cell_below hc3 hb14
    replace hA := hA.below hb14
    replace hc4 := cell_below hc4 hb14
    replace hw := hw.below hb14
    replace hbB1 := hbB1.trans (hb14.mono hbB1.size)
    have szq15 := hbB1.size
    refine s_appendI (wn rfl) rfl rfl rfl hw ht.il (by simp; omega) szq15 (fun ob' w15 hoN so hgN _ => ?_)
    replace hbB1 := hbB1.trans (hw.below_of hgN szq15)
    have sw15 := hgN.size
    replace hw := hoN
    clear hoN
    replace hcl := hcl_b1.below hbB1
    replace hv := hv_b1.below hbB1
    replace hc3 := cell_below hc3_b1 hbB1
    replace hA := hA_b1.below hbB1
    replace hc4 := cell_below hc4_b1 hbB1
    refine go ?_
    refine ⟨(2 * nf ms) - (i + 1), by omega, i + 1, ob', rfl, by omega, rfl, rfl, rfl, rfl, by rw [halfL_succ]; exact hw, hbB1⟩
  obtain rfl : i = 2 * nf ms := by omega
  have eH : (List.range (2 * nf ms)).map (fun f : Nat => (f : Int) / 2) = halfL (nf ms) := rfl
  rw [eH] at hw shw
  refine go ?_
  refine s_call3 (wn rfl) rfl rfl rfl rfl (implIsCovering_any _ _ _ _ _ _ _ hA.rl hv hw.il) ?_
  rintro _ w16 ⟨rfl, hb16⟩
  have sw16 := hb16.size
  replace hcl := hcl.below hb16
  replace hv := hv.below hb16
  replace hc3 := cell_below hc3 hb16
  replace hA := hA.below hb16
  replace hc4 := cell_below hc4 hb16
  replace hw := hw.below hb16
  replace hbB1 := hbB1.trans (hb16.mono hbB1.size)
  rw [eC, cC]
  refine go ?_
  refine s_call3 (wn rfl) rfl rfl rfl rfl (implIsNormalCovering_any _ _ _ _ _ _ _ hA.rl hv hw.il) ?_
  rintro _ w17 ⟨rfl, hb17⟩
  have sw17 := hb17.size
  replace hcl := hcl.below hb17
  replace hv := hv.below hb17
  replace hc3 := cell_below hc3 hb17
  replace hA := hA.below hb17
  replace hc4 := cell_below hc4 hb17
  replace hw := hw.below hb17
  replace hbB1 := hbB1.trans (hb17.mono hbB1.size)
  rw [eN, cN]
  refine go ?_
  refine s_call1 (wn rfl) rfl rfl (IsOrientable_good _ _ _ hA.rl mK) ?_
  rintro _ w18 ⟨rfl, hb18⟩
  have sw18 := hb18.size
  replace hcl := hcl.below hb18
  replace hv := hv.below hb18
  replace hc3 := cell_below hc3 hb18
  replace hA := hA.below hb18
  replace hc4 := cell_below hc4 hb18
  replace hw := hw.below hb18
  replace hbB1 := hbB1.trans (hb18.mono hbB1.size)
  rw [dO]
  refine go ?_
  refine s_call1 (wn rfl) rfl rfl (FaceCounts_good _ _ _ hv hm) ?_
  rintro _ w19 ⟨la, rfl, hLa, hb19⟩
  have sw19 := hb19.size
  replace hcl := hcl.below hb19
  replace hv := hv.below hb19
  replace hc3 := cell_below hc3 hb19
  replace hA := hA.below hb19
  replace hc4 := cell_below hc4 hb19
  replace hw := hw.below hb19
  replace hbB1 := hbB1.trans (hb19.mono hbB1.size)
  refine go ?_
  refine s_call1 (wn rfl) rfl rfl (FaceCounts_good _ _ _ hA.rl mK) ?_
  rintro _ w20 ⟨lb, rfl, hLb, hb20⟩
  have sw20 := hb20.size
  replace hcl := hcl.below hb20
  replace hv := hv.below hb20
  replace hc3 := cell_below hc3 hb20
  replace hA := hA.below hb20
  replace hc4 := cell_below hc4 hb20
  replace hw := hw.below hb20
  replace hLa := hLa.below hb20
  replace hbB1 := hbB1.trans (hb20.mono hbB1.size)
  rw [eA] at hLa
  rw [eB] at hLb
  have sLa := hLa.sv
  have sLb := hLb.sv
  rw [lA] at sLa
  rw [lB] at sLb
  refine go ?_
  have sbs2 := hbB1.size
  have hcl_b2 := hcl
  have hv_b2 := hv
  have hc3_b2 := hc3
  have hA_b2 := hA
  have hc4_b2 := hc4
  have hw_b2 := hw
  have hLa_b2 := hLa
  have hLb_b2 := hLb
  have hbB2 := Below.refl w20.heap.size w20
  refine go ?_
  refine w_loop (fun kk fr w' => ∃ (i : Nat), kk = ms.length - i ∧ i ≤ ms.length ∧ fr 3 = .pointer (some p3) ∧ fr 4 = .pointer (some p4) ∧ fr 8 = ob ∧ fr 16 = la ∧ fr 18 = lb ∧ fr 20 = .int .i64 i ∧ Below w20.heap.size w20 w') (ms.length)
    ⟨0, rfl, Nat.zero_le _, rfl, rfl, rfl, rfl, rfl, rfl, hbB2⟩ ?_
  rintro kk fr w21 ⟨i, rfl, hi, f3, f4, f8, f16, f18, f20, hbB2⟩
  have sw21 := hbB2.size
  have hcl := hcl_b2.below hbB2
  have hv := hv_b2.below hbB2
  have hc3 := cell_below hc3_b2 hbB2
  have hA := hA_b2.below hbB2
  have hc4 := cell_below hc4_b2 hbB2
  have hw := hw_b2.below hbB2
  have hLa := hLa_b2.below hbB2
  have hLb := hLb_b2.below hbB2
  refine know (t := 3) f3 ?_; refine know (t := 4) f4 ?_; refine know (t := 8) f8 ?_; refine know (t := 16) f16 ?_; refine know (t := 18) f18 ?_; refine know (t := 20) f20 ?_
  refine go ?_
  refine cond_dec rfl (fun hlt => ?_) (fun hge => ?_)
  · obtain ⟨a1, ⟨a2, a3, a4⟩, a6, a7, a8⟩ := hall i (by omega)
    have k3 : ¬ (gi NB i < gi NA i) := by omega
    have k4 : ¬ (gi NB i > 2 * gi NA i) := by omega
    by_cases h3 : ms.length = 3
    · have h3i : (ms.length : Int) = 3 := by omega
      have k2 : ¬ (gi NB i ≠ 2 * gi NA i) := fun h => h (a4 h3)
      refine go ?_
      refine region_q mixed (by kernel_rfl) ?_
      refine qo ?_
      refine q_p (wy rfl rfl rfl rfl rfl known) rfl (fun _ _ => y_mul rfl rfl (by constructor <;> omega)) ?_
      refine qo ?_
      refine q_p (wy rfl rfl rfl rfl rfl known) rfl (fun _ _ => y_mul rfl rfl (by constructor <;> omega)) ?_
      refine qo ?_
      refine q_nil ?_
      intro w22 hb22
      have sw22 := hb22.size
      replace hcl := hcl.below hb22
      replace hv := hv.below hb22
      replace hc3 := cell_below hc3 hb22
      replace hA := hA.below hb22
      replace hc4 := cell_below hc4 hb22
      replace hw := hw.below hb22
      replace hLa := hLa.below hb22
      replace hLb := hLb.below hb22
      replace hbB2 := hbB2.trans (hb22.mono hbB2.size)
      refine go ?_
      refine s_call4 (wn rfl) rfl rfl rfl rfl rfl (implFaceMap_any _ _ _ _ _ _ (i : Int) _ hA.rl hv hw.il) ?_
      rintro _ w23 ⟨fx, rfl, hF, hb23⟩
      have sw23 := hb23.size
      replace hcl := hcl.below hb23
      replace hv := hv.below hb23
      replace hc3 := cell_below hc3 hb23
      replace hA := hA.below hb23
      replace hc4 := cell_below hc4 hb23
      replace hw := hw.below hb23
      replace hLa := hLa.below hb23
      replace hLb := hLb.below hb23
      replace hbB2 := hbB2.trans (hb23.mono hbB2.size)
      rw [a6]
      have k5 : ¬ (((facM K ms (halfL (nf ms)) i).length : Int) ≠ gi NB i) := fun h => h a7
      have sF := hF.sv
      refine go ?_
      have sbs3 := hbB2.size
      have hcl_b3 := hcl
      have hv_b3 := hv
      have hc3_b3 := hc3
      have hA_b3 := hA
      have hc4_b3 := hc4
      have hw_b3 := hw
      have hLa_b3 := hLa
      have hLb_b3 := hLb
      have hF_b3 := hF
      have hbB3 := Below.refl w23.heap.size w23
      refine go ?_
      refine w_loop (fun kk fr w' => ∃ (e : Nat), kk = (gi NA i).toNat - e ∧ e ≤ (gi NA i).toNat ∧ fr 3 = .pointer (some p3) ∧ fr 4 = .pointer (some p4) ∧ fr 8 = ob ∧ fr 16 = la ∧ fr 18 = lb ∧ fr 20 = .int .i64 i ∧ fr 21 = fx ∧ fr 23 = .int .i64 e ∧ Below w23.heap.size w23 w') ((gi NA i).toNat)
        ⟨0, rfl, Nat.zero_le _, rfl, rfl, rfl, rfl, rfl, rfl, rfl, rfl, hbB3⟩ ?_
      rintro kk fr w24 ⟨e, rfl, he, f3, f4, f8, f16, f18, f20, f21, f23, hbB3⟩
      have sw24 := hbB3.size
      have hcl := hcl_b3.below hbB3
      have hv := hv_b3.below hbB3
      have hc3 := cell_below hc3_b3 hbB3
      have hA := hA_b3.below hbB3
      have hc4 := cell_below hc4_b3 hbB3
      have hw := hw_b3.below hbB3
      have hLa := hLa_b3.below hbB3
      have hLb := hLb_b3.below hbB3
      have hF := hF_b3.below hbB3
      refine know (t := 3) f3 ?_; refine know (t := 4) f4 ?_; refine know (t := 8) f8 ?_; refine know (t := 16) f16 ?_; refine know (t := 18) f18 ?_; refine know (t := 20) f20 ?_; refine know (t := 21) f21 ?_; refine know (t := 23) f23 ?_
      refine go ?_
      refine cond_dec rfl (fun hlte => ?_) (fun hgee => ?_)
      · have kin : decide ((e : Int) ∈ facM K ms (halfL (nf ms)) i) = true := decide_eq_true (a8 e (by omega) (by omega))
        refine go ?_
        refine s_call2 (wn rfl) rfl rfl rfl (hasInt_any _ _ (e : Int) _ hF.il) ?_
        rintro _ w25 ⟨rfl, hb25⟩
        have sw25 := hb25.size
        replace hcl := hcl.below hb25
        replace hv := hv.below hb25
        replace hc3 := cell_below hc3 hb25
        replace hA := hA.below hb25
        replace hc4 := cell_below hc4 hb25
        replace hw := hw.below hb25
        replace hLa := hLa.below hb25
        replace hLb := hLb.below hb25
        replace hF := hF.below hb25
        replace hbB3 := hbB3.trans (hb25.mono hbB3.size)
        rw [kin]
        refine go ?_
        refine ⟨(gi NA i).toNat - (e + 1), by omega, e + 1, rfl, by omega, rfl, rfl, rfl, rfl, rfl, rfl, rfl, rfl, hbB3⟩
      obtain rfl : e = (gi NA i).toNat := by omega
      replace hbB2 := hbB2.trans (hbB3.mono hbB2.size)
      refine go ?_
      refine ⟨ms.length - (i + 1), by omega, i + 1, rfl, by omega, rfl, rfl, rfl, rfl, rfl, rfl, hbB2⟩
    have h3i : ¬ ((ms.length : Int) = 3) := by omega
    refine go ?_
    refine region_q mixed (by kernel_rfl) ?_
    refine qo ?_
    refine q_p (wy rfl rfl rfl rfl rfl known) rfl (fun _ _ => y_mul rfl rfl (by constructor <;> omega)) ?_
    refine qo ?_
    refine q_nil ?_
    intro w26 hb26
    have sw26 := hb26.size
    replace hcl := hcl.below hb26
    replace hv := hv.below hb26
    replace hc3 := cell_below hc3 hb26
    replace hA := hA.below hb26
    replace hc4 := cell_below hc4 hb26
    replace hw := hw.below hb26
    replace hLa := hLa.below hb26
    replace hLb := hLb.below hb26
    replace hbB2 := hbB2.trans (hb26.mono hbB2.size)
    refine go ?_
    refine s_call4 (wn rfl) rfl rfl rfl rfl rfl (implFaceMap_any _ _ _ _ _ _ (i : Int) _ hA.rl hv hw.il) ?_
    rintro _ w27 ⟨fx, rfl, hF, hb27⟩
    have sw27 := hb27.size
    replace hcl := hcl.below hb27
    replace hv := hv.below hb27
    replace hc3 := cell_below hc3 hb27
    replace hA := hA.below hb27
    replace hc4 := cell_below hc4 hb27
    replace hw := hw.below hb27
    replace hLa := hLa.below hb27
    replace hLb := hLb.below hb27
    replace hbB2 := hbB2.trans (hb27.mono hbB2.size)
    rw [a6]
    have k5 : ¬ (((facM K ms (halfL (nf ms)) i).length : Int) ≠ gi NB i) := fun h => h a7
    have sF := hF.sv
    refine go ?_
    have sbs3 := hbB2.size
    have hcl_b3 := hcl
    have hv_b3 := hv
    have hc3_b3 := hc3
    have hA_b3 := hA
    have hc4_b3 := hc4
    have hw_b3 := hw
    have hLa_b3 := hLa
    have hLb_b3 := hLb
    have hF_b3 := hF
    have hbB3 := Below.refl w27.heap.size w27
    refine go ?_
    refine w_loop (fun kk fr w' => ∃ (e : Nat), kk = (gi NA i).toNat - e ∧ e ≤ (gi NA i).toNat ∧ fr 3 = .pointer (some p3) ∧ fr 4 = .pointer (some p4) ∧ fr 8 = ob ∧ fr 16 = la ∧ fr 18 = lb ∧ fr 20 = .int .i64 i ∧ fr 21 = fx ∧ fr 23 = .int .i64 e ∧ Below w27.heap.size w27 w') ((gi NA i).toNat)
      ⟨0, rfl, Nat.zero_le _, rfl, rfl, rfl, rfl, rfl, rfl, rfl, rfl, hbB3⟩ ?_
    rintro kk fr w28 ⟨e, rfl, he, f3, f4, f8, f16, f18, f20, f21, f23, hbB3⟩
    have sw28 := hbB3.size
    have hcl := hcl_b3.below hbB3
    have hv := hv_b3.below hbB3
    have hc3 := cell_below hc3_b3 hbB3
    have hA := hA_b3.below hbB3
    have hc4 := cell_below hc4_b3 hbB3
    have hw := hw_b3.below hbB3
    have hLa := hLa_b3.below hbB3
    have hLb := hLb_b3.below hbB3
    have hF := hF_b3.below hbB3
    refine know (t := 3) f3 ?_; refine know (t := 4) f4 ?_; refine know (t := 8) f8 ?_; refine know (t := 16) f16 ?_; refine know (t := 18) f18 ?_; refine know (t := 20) f20 ?_; refine know (t := 21) f21 ?_; refine know (t := 23) f23 ?_
    refine go ?_
    refine cond_dec rfl (fun hlte => ?_) (fun hgee => ?_)
    · have kin : decide ((e : Int) ∈ facM K ms (halfL (nf ms)) i) = true := decide_eq_true (a8 e (by omega) (by omega))
      refine go ?_
      refine s_call2 (wn rfl) rfl rfl rfl (hasInt_any _ _ (e : Int) _ hF.il) ?_
      rintro _ w29 ⟨rfl, hb29⟩
      have sw29 := hb29.size
      replace hcl := hcl.below hb29
      replace hv := hv.below hb29
      replace hc3 := cell_below hc3 hb29
      replace hA := hA.below hb29
      replace hc4 := cell_below hc4 hb29
      replace hw := hw.below hb29
      replace hLa := hLa.below hb29
      replace hLb := hLb.below hb29
      replace hF := hF.below hb29
      replace hbB3 := hbB3.trans (hb29.mono hbB3.size)
      rw [kin]
      refine go ?_
      refine ⟨(gi NA i).toNat - (e + 1), by omega, e + 1, rfl, by omega, rfl, rfl, rfl, rfl, rfl, rfl, rfl, rfl, hbB3⟩
    obtain rfl : e = (gi NA i).toNat := by omega
    replace hbB2 := hbB2.trans (hbB3.mono hbB2.size)
    refine go ?_
    refine ⟨ms.length - (i + 1), by omega, i + 1, rfl, by omega, rfl, rfl, rfl, rfl, rfl, rfl, hbB2⟩
  obtain rfl : i = ms.length := by omega
  refine go ?_
  exact end_one Try.results4 rfl ⟨rfl, ((hb.trans (hbB1.mono hb.size)).trans (hbB2.mono (hb.trans (hbB1.mono hb.size)).size))⟩


set_option maxRecDepth 100000 in
theorem liftedDoubleCovers (os : Os) (started : os.Started) (H : Type) (enc : TypeId × Value → H) :
    ReturnsInHanded {} Try.checked os 4 .any (Rows.fnDoubleCoversSpec.pre6 enc Try.prog Try.f4 Rows.fnDoubleCoversRow.domain false) (Rows.fnDoubleCoversSpec.post enc Try.prog Try.f4 false true false false) := by
  refine returnsInHanded_of_change (C := Try.checked) own started (by kernel_rfl) Try.func4
    (ChangeSpec.witness6 (enc := enc) (C := Try.checked) false ⟨#[], #[.slice none 0 0], []⟩ 8 (by kernel_rfl) (by kernel_rfl) (by kernel_rfl) (by kernel_rfl)) ?_
  intro W base args ds gs before hval0 hW hcnd _
  have hval : ∀ (j : Nat) t v, Try.f4.params[j]? = some t → args[j]? = some v → Value.okWide Try.prog W .any base t v := hval0
  have hW' := hW
  obtain ⟨p, q, hA0, hV, rfl, hfz, hnd⟩ := hW
  have hA : DataW.TrodAll enc Try.prog W 0 (fun _ => true) true Try.f4.params.toList args.toList ds p := hA0
  rw [Try.params4] at hA hval
  obtain ⟨v0, vs0, d0, ds0, p0, q0, hargs, rfl, rfl, h0, r0⟩ := trodAll_cons hA
  obtain ⟨rfl, rfl, rfl⟩ := trodAll_nil r0
  obtain rfl : args = #[v0] := by cases args; simp_all
  obtain ⟨rfl, rfl⟩ := trodVars_none hV
  have lt0 : ∀ x ∈ p0, x.block < W.heap.size := by obtain ⟨m, hm⟩ := h0; exact DataW.trod_lt m _ _ _ hm
  obtain ⟨xs0, hu0⟩ := open_arg_B (hval 0 22 v0 rfl rfl) h0
  clear hA0 hval0
  refine Calls.mono (lawDoubleCovers_any v0 xs0 W hu0) fun e W' ⟨v, he, hv, bel⟩ => ?_
  subst he
  subst hv
  exact ⟨_, rfl, _, _, _, [], _, [], hW', trodAll_mk1 (shut_bool Try.underlying4 _), (trodAll_cons_mk (Below.trod laidOut (by kernel_rfl) (of_decide_eq_true (by kernel_rfl)) h0 bel lt0) trodAll_mk0), rfl, bel.frame _, fun h => by cases h⟩

theorem provedDoubleCovers : Rows.FnDoubleCoversSaid :=
  OpenClaim.holds_of_wide 4 Try.f4 rfl rfl rfl rfl rfl rfl rfl ⟨rfl, rfl, rfl, rfl, rfl⟩ rfl rfl rfl rfl rfl (by kernel_rfl) Try.func4 (by kernel_rfl)
    (of_decide_eq_true (by kernel_rfl)) (by unfold Func.isWrapper; first | (rw [if_pos (by decide +kernel)]; kernel_rfl) | (rw [if_neg (by decide +kernel)]; exact ⟨rfl, rfl⟩))
    (fun os started H enc _ => liftedDoubleCovers os started H enc)

end Go.Proofs.Ytmdimdbfgibflaa
