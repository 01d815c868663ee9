/- The general law of Spheres, for every code: its walk and its row. No conditions. -/
import Derived.Test.YtablpijnjkncfaaGreatFS
import Derived.Test.YtablpijnjkncfaaGreatLD
import Derived.Test.YtablpijnjkncfaaGreatFI
import Derived.Test.YtablpijnjkncfaaGreatRA
import Derived.WalkKit
import Derived.ShutString
namespace Go.Proofs.YtablpijnjkncfaaGreat
open Go.Mem Go.ChangeShapes Go.WideShapes Go.ChangeAt Go.RowKit
set_option linter.unusedVariables false
set_option linter.unusedSimpArgs false

set_option maxHeartbeats 32000000 in
set_option maxRecDepth 100000 in
theorem lawSpheres_any (c : Value) (bs : List Int) (w : World) (hcl : CL w c bs) :
    Ret Tryz.prog 4 #[c] w fun r w' => r = .bool true ∧ Below w.heap.size w w' := by
  have shcl := hcl.sv
  have hb := Below.refl w.heap.size w
  refine enter1 162 Tryz.func4 rfl Tryz.ntmps4 rfl (fun fr => ?_)
  refine go ?_
  refine s_call1 (wn rfl) rfl rfl (big_any _ _ _ hcl) ?_
  rintro _ _ ⟨rfl, rfl⟩
  refine go ?_
  refine cond_dec rfl (fun hbig => ?_) (fun hbig => ?_)
  · refine go ?_
    exact end_one Tryz.results4 rfl ⟨rfl, hb⟩
  refine go ?_
  refine s_call1 (wn rfl) rfl rfl (DrawIsLocallySpherical_any _ _ _ hcl) ?_
  rintro _ w1 ⟨x, ms, rfl, hv, hb1⟩
  have sw1 := hb1.size
  replace hcl := hcl.below hb1
  replace hb := hb.trans (hb1.mono hb.size)
  have shv := hv.sv
  refine go ?_
  refine go ?_
  refine s_alloc (B := w1.heap.size) (wn rfl) rfl (Nat.le_refl _) (fun w2 p3 hx3 hg2 hpp3 => ?_)
  have hb2 := below_of_grownBy hg2
  refine go ?_
  refine s_storeBox (wn rfl) rfl rfl shv.one hx3 (fun w3 hx3b hg3 => ?_)
  have hbq3 := hb2.trans (hx3.below_of hg3 hb2.size)
  have sw3 := hbq3.size
  replace hcl := hcl.below hbq3
  replace hv := hv.below hbq3
  replace hb := hb.trans (hbq3.mono hb.size)
  have hc3 := hx3b.cell
  refine go ?_
  refine s_call1 (wn rfl) rfl rfl (implIsLocallySpherical_any _ _ _ hv) ?_
  rintro _ w4 ⟨rfl, hb4⟩
  have sw4 := hb4.size
  replace hcl := hcl.below hb4
  replace hv := hv.below hb4
  replace hc3 := cell_below hc3 hb4
  replace hb := hb.trans (hb4.mono hb.size)
  refine go ?_
  refine s_call1 (wn rfl) rfl rfl (specIsLocallySpherical_any _ _ _ hv) ?_
  rintro _ w5 ⟨rfl, hb5⟩
  have sw5 := hb5.size
  replace hcl := hcl.below hb5
  replace hv := hv.below hb5
  replace hc3 := cell_below hc3 hb5
  replace hb := hb.trans (hb5.mono hb.size)
  have hn1 : ¬ (sphC ms ≠ sphC ms) := fun h => h rfl
  have hn2 : ¬ (isSph ms ≠ isSph ms) := fun h => h rfl
  refine go ?_
  by_cases hm : IsMan ms
  rotate_left
  · have k := (sph_1 hm).2
    refine go ?_
    exact end_one Tryz.results4 rfl ⟨rfl, hb⟩
  have k : ¬ sphC ms = 1 := by
    by_cases h3 : ms.length < 3
    · rw [(sph_2 hm h3).2]; decide
    · rw [sph_c hm h3]; decide
  have r1 := hm.m0.r1
  have r5 := hm.m0.r5
  have f2 := hm.m0.f2
  have f4 := hm.m0.f400
  have kz : ¬ ((0 : Int) ≠ 0) := by decide
  have hn3 : ¬ (((ms.length - 1 : Nat) : Int) ≠ ((ms.length - 1 : Nat) : Int)) := fun h => h rfl
  have hn4 : ¬ (((ms.length - 1 : Nat) : Int) ≠ (ms.length : Int) - 1) := fun h => h (by omega)
  have hTl := typL_len ms (ms.length - 1)
  have hSl := smL_len ms (ms.length - 1)
  refine go ?_
  refine s_call1 (wn rfl) rfl rfl (SmallestPolygons_good _ _ _ hv hm) ?_
  rintro _ w6 ⟨sx, rfl, hS, hb6⟩
  have sw6 := hb6.size
  replace hcl := hcl.below hb6
  replace hv := hv.below hb6
  replace hc3 := cell_below hc3 hb6
  replace hb := hb.trans (hb6.mono hb.size)
  refine go ?_
  refine s_call1 (wn rfl) rfl rfl (TypeOf_good _ _ _ hv hm) ?_
  rintro _ w7 ⟨ty, rfl, hT, hb7⟩
  have sw7 := hb7.size
  replace hcl := hcl.below hb7
  replace hv := hv.below hb7
  replace hc3 := cell_below hc3 hb7
  replace hS := hS.below hb7
  replace hb := hb.trans (hb7.mono hb.size)
  have sS := hS.sv
  have sT := hT.sv
  rw [hSl] at sS
  rw [hTl] at sT
  refine go ?_
  have sbs1 := hb.size
  have hcl_b1 := hcl
  have hv_b1 := hv
  have hc3_b1 := hc3
  have hS_b1 := hS
  have hT_b1 := hT
  have hbB1 := Below.refl w7.heap.size w7
  refine go ?_
  refine w_loop (fun kk fr w' => ∃ (i : Nat), kk = ms.length - 1 - i ∧ i ≤ ms.length - 1 ∧ fr 3 = .pointer (some p3) ∧ fr 4 = .bool (isSph ms) ∧ fr 5 = .int .i64 (sphC ms) ∧ fr 12 = .int .i64 ms.length ∧ fr 8 = sx ∧ fr 10 = ty ∧ fr 13 = .int .i64 i ∧ Below w7.heap.size w7 w') (ms.length - 1)
    ⟨0, rfl, Nat.zero_le _, rfl, rfl, rfl, rfl, rfl, rfl, rfl, hbB1⟩ ?_
  rintro kk fr w8 ⟨i, rfl, hi, f3, f4, f5, f12, f8, f10, f13, hbB1⟩
  have sw8 := hbB1.size
  have hcl := hcl_b1.below hbB1
  have hv := hv_b1.below hbB1
  have hc3 := cell_below hc3_b1 hbB1
  have hS := hS_b1.below hbB1
  have hT := hT_b1.below hbB1
  refine know (t := 3) f3 ?_; refine know (t := 4) f4 ?_; refine know (t := 5) f5 ?_; refine know (t := 12) f12 ?_; refine know (t := 8) f8 ?_; refine know (t := 10) f10 ?_; refine know (t := 13) f13 ?_
  refine go ?_
  refine cond_dec rfl (fun hlt => ?_) (fun hge => ?_)
  · have hpos := typR_pos hm (i := i) (by omega)
    obtain ⟨u, hu, hcu⟩ := hT.rl.row (j := (i : Int)) (by omega) (by omega)
    rw [gr_typL (by omega)] at hu
    have su := hu.sv
    have hSi := hS.il
    have hge := gi_smL (ms := ms) (k := ms.length - 1) (i := i) (by omega)
    have kp : ¬ (((typR ms i).length : Int) = 0) := by omega
    have kq : ¬ (gi (smL ms (ms.length - 1)) i ≠ gi (typR ms i) 0) := fun h => h hge
    refine go ?_
    refine region_q mixed (by kernel_rfl) ?_
    refine qo ?_
    refine q_nil ?_
    intro w9 hb9
    have sw9 := hb9.size
    replace hcl := hcl.below hb9
    replace hv := hv.below hb9
    replace hc3 := cell_below hc3 hb9
    replace hS := hS.below hb9
    replace hT := hT.below hb9
    replace hu := hu.below hb9
    replace hcu := cell_below hcu hb9
    replace hSi := hSi.below hb9
    replace hbB1 := hbB1.trans (hb9.mono hbB1.size)
    refine go ?_
    refine ⟨ms.length - 1 - (i + 1), by omega, i + 1, rfl, by omega, rfl, rfl, rfl, rfl, rfl, rfl, rfl, hbB1⟩
  obtain rfl : i = ms.length - 1 := by omega
  refine go ?_
  refine cond_dec rfl (fun hl4 => ?_) (fun hl4 => ?_)
  · by_cases h3 : ms.length < 3
    · have e := sph_2 hm h3
      have g1 : ¬ ((ms.length : Int) = 3) := by omega
      have g2 : (ms.length : Int) < 3 := by omega
      refine go ?_
      exact end_one Tryz.results4 rfl ⟨by rw [e.2]; rfl, (hb.trans (hbB1.mono hb.size))⟩
    have e1 := sph_yes hm h3 (fun h => absurd h (by omega))
    have e2 := sph_c hm h3
    have e3 : isSph ms = !false := e1
    have g1 : (ms.length : Int) = 3 := by omega
    refine go ?_
    refine s_no (wu rfl rfl rfl rfl rfl) rfl ?_
    refine s_no (wu rfl rfl rfl rfl rfl) rfl ?_
    refine go ?_
    exact end_one Tryz.results4 rfl ⟨rfl, (hb.trans (hbB1.mono hb.size))⟩
  have h4 : 3 < ms.length := by omega
  have h3 : ¬ ms.length < 3 := by omega
  refine go ?_
  have sbs2 := hbB1.size
  have hcl_b2 := hcl
  have hv_b2 := hv
  have hc3_b2 := hc3
  have hS_b2 := hS
  have hT_b2 := hT
  have hbB2 := Below.refl w8.heap.size w8
  refine go ?_
  refine w_loop (fun kk fr w' => ∃ (i : Nat) (due : Bool), kk = ms.length - 2 - i ∧ i ≤ ms.length - 2 ∧ fr 3 = .pointer (some p3) ∧ fr 4 = .bool (isSph ms) ∧ fr 12 = .int .i64 ms.length ∧ fr 14 = .bool due ∧ fr 15 = .int .i64 i ∧ (due = true ↔ ∀ j : Nat, j < i → SphAt ms j) ∧ Below w8.heap.size w8 w') (ms.length - 2)
    ⟨0, true, rfl, Nat.zero_le _, rfl, rfl, rfl, rfl, rfl, ⟨fun _ j h => absurd h (by omega), fun _ => rfl⟩, hbB2⟩ ?_
  rintro kk fr w10 ⟨i, due, rfl, hi, f3, f4, f12, f14, f15, hd, hbB2⟩
  have sw10 := hbB2.size
  have hcl := hcl_b2.below hbB2
  have hv := hv_b2.below hbB2
  have hc3 := cell_below hc3_b2 hbB2
  have hS := hS_b2.below hbB2
  have hT := hT_b2.below hbB2
  refine know (t := 3) f3 ?_; refine know (t := 4) f4 ?_; refine know (t := 12) f12 ?_; refine know (t := 14) f14 ?_; refine know (t := 15) f15 ?_
  refine go ?_
  refine cond_dec rfl (fun hlt => ?_) (fun hge => ?_)
  · have hok := sec_ok hm (i := i) (by omega)
    have e3 := (sk_3 hm hok).2
    have eF := sf_yes hm hok
    have hsecs := secF_ok hm hok
    refine go ?_
    refine s_call3 (wn rfl) rfl rfl rfl rfl (implSectionForms_any _ _ (i : Int) ((i : Int) + 2) _ hv) ?_
    rintro _ w11 ⟨lx, rfl, hG0, hb11⟩
    have sw11 := hb11.size
    replace hcl := hcl.below hb11
    replace hv := hv.below hb11
    replace hc3 := cell_below hc3 hb11
    replace hS := hS.below hb11
    replace hT := hT.below hb11
    replace hbB2 := hbB2.trans (hb11.mono hbB2.size)
    have hG := hG0.rs
    clear hG0
    rw [eF] at hG
    rw [e3]
    generalize hFg : secF (nf ms) (secA ms i ((i : Int) + 2)) = F at *
    have sG := hG.sv
    refine go ?_
    have sbs3 := hbB2.size
    have hcl_b3 := hcl
    have hv_b3 := hv
    have hc3_b3 := hc3
    have hS_b3 := hS
    have hT_b3 := hT
    have hG_b3 := hG
    have hbB3 := Below.refl w11.heap.size w11
    refine go ?_
    refine w_loop (fun kk fr w' => ∃ (t : Nat) (due2 : Bool), kk = F.length - t ∧ t ≤ F.length ∧ fr 3 = .pointer (some p3) ∧ fr 4 = .bool (isSph ms) ∧ fr 12 = .int .i64 ms.length ∧ fr 14 = .bool due2 ∧ fr 15 = .int .i64 i ∧ fr 16 = lx ∧ fr 18 = .int .i64 t ∧ (due2 = true ↔ (due = true ∧ ∀ j : Nat, j < t → chi (F.getD j []) = 2)) ∧ Below w11.heap.size w11 w') (F.length)
      ⟨0, due, rfl, Nat.zero_le _, rfl, rfl, rfl, rfl, rfl, rfl, rfl, ⟨fun h => ⟨h, fun j h2 => absurd h2 (by omega)⟩, fun h => h.1⟩, hbB3⟩ ?_
    rintro kk fr w12 ⟨t, due2, rfl, ht, f3, f4, f12, f14, f15, f16, f18, hd2, hbB3⟩
    have sw12 := hbB3.size
    have hcl := hcl_b3.below hbB3
    have hv := hv_b3.below hbB3
    have hc3 := cell_below hc3_b3 hbB3
    have hS := hS_b3.below hbB3
    have hT := hT_b3.below hbB3
    have hG := hG_b3.below hbB3
    refine know (t := 3) f3 ?_; refine know (t := 4) f4 ?_; refine know (t := 12) f12 ?_; refine know (t := 14) f14 ?_; refine know (t := 15) f15 ?_; refine know (t := 16) f16 ?_; refine know (t := 18) f18 ?_
    refine go ?_
    refine cond_dec rfl (fun hlt2 => ?_) (fun hge2 => ?_)
    · obtain ⟨u, hu, hcu⟩ := hG.el (j := t) (by omega)
      have hnn : ((t : Int)).toNat = t := by omega
      rw [← hnn] at hcu
      have hin : F.getD t [] ∈ F := by rw [List.getD, List.getElem?_eq_getElem (by omega), Option.getD_some]; exact List.getElem_mem _
      have hmK := hsecs.2 _ hin
      have hsT : ∀ d : Nat, d = t → chi (F.getD d []) = chi (F.getD t []) := fun d h => by rw [h]
      generalize F.getD t [] = K at *
      have suK := hu.sv
      refine go ?_
      refine s_p (wn rfl) rfl (y_idxSE rfl rfl sG (by omega) (by omega)) ?_
      refine go ?_
      refine s_call1 (wn rfl) rfl rfl (EulerCharacteristic_good _ _ _ hu hmK) ?_
      rintro _ w13 ⟨rfl, hb13⟩
      have sw13 := hb13.size
      replace hcl := hcl.below hb13
      replace hv := hv.below hb13
      replace hc3 := cell_below hc3 hb13
      replace hS := hS.below hb13
      replace hT := hT.below hb13
      replace hG := hG.below hb13
      replace hu := hu.below hb13
      replace hcu := cell_below hcu hb13
      replace hbB3 := hbB3.trans (hb13.mono hbB3.size)
      refine go ?_
      cases due2
      · have kk : (false : Bool) = false := rfl
        refine go ?_
        refine ⟨F.length - (t + 1), by omega, t + 1, false, rfl, by omega, rfl, rfl, rfl, rfl, rfl, rfl, rfl, ⟨fun h => (by cases h), fun h => hd2.2 ⟨h.1, fun j hj => h.2 j (by omega)⟩⟩, hbB3⟩
      have hd3 := hd2.1 rfl
      refine go ?_
      refine ⟨F.length - (t + 1), by omega, t + 1, decide (chi K = 2), rfl, by omega, rfl, rfl, rfl, rfl, rfl, rfl, rfl, ⟨fun h => ⟨hd3.1, fun j hj => by
                    by_cases e : j = t
                    · rw [hsT j e]; exact of_decide_eq_true h
                    · exact hd3.2 j (by omega)⟩, fun h => decide_eq_true (by rw [← hsT t rfl]; exact h.2 t (by omega))⟩, hbB3⟩
    obtain rfl : t = F.length := by omega
    replace hbB2 := hbB2.trans (hbB3.mono hbB2.size)
    have hAt : SphAt ms i ↔ ∀ j : Nat, j < F.length → chi (F.getD j []) = 2 := by
      unfold SphAt
      rw [hFg]
      constructor
      · intro h j hj
        exact h _ (by rw [List.getD, List.getElem?_eq_getElem hj, Option.getD_some]; exact List.getElem_mem _)
      · intro h K hK
        obtain ⟨j, hj, rfl⟩ := List.mem_iff_getElem.1 hK
        have := h j hj
        rwa [List.getD, List.getElem?_eq_getElem hj, Option.getD_some] at this
    refine go ?_
    refine ⟨ms.length - 2 - (i + 1), by omega, i + 1, due2, rfl, by omega, rfl, rfl, rfl, rfl, rfl, hd2.trans ⟨fun h j hj => by
                by_cases e : j = i
                · rw [e]; exact hAt.2 h.2
                · exact hd.1 h.1 j (by omega), fun h => ⟨hd.2 fun j hj => h j (by omega), hAt.1 (h i (by omega))⟩⟩, hbB2⟩
  have hfin : isSph ms = due := by
    have h1 : isSph ms = true ↔ due = true := by
      constructor
      · intro h
        have hS := (@of_decide_eq_true _ (Classical.propDecidable _) h).2.2
        exact hd.2 fun j hj => hS h4 j (by omega)
      · intro h
        exact sph_yes hm h3 fun _ j hj => hd.1 h j (by omega)
    cases due <;> cases h : isSph ms <;> simp_all
  have e0 := decide_eq_true hfin
  refine go ?_
  exact end_one Tryz.results4 rfl ⟨by rw [e0], ((hb.trans (hbB1.mono hb.size)).trans (hbB2.mono (hb.trans (hbB1.mono hb.size)).size))⟩


set_option maxRecDepth 100000 in
theorem liftedSpheres (os : Os) (started : os.Started) (H : Type) (enc : TypeId × Value → H) :
    ReturnsInHanded {} Tryz.checked os 4 .any (Rows.fnSpheresSpec.pre6 enc Tryz.prog Tryz.f4 Rows.fnSpheresRow.domain false) (Rows.fnSpheresSpec.post enc Tryz.prog Tryz.f4 false true false false) := by
  refine returnsInHanded_of_change (C := Tryz.checked) own started (by kernel_rfl) Tryz.func4
    (ChangeSpec.witness6 (enc := enc) (C := Tryz.checked) false ⟨#[], #[.slice none 0 0], []⟩ 8 (by kernel_rfl) (by kernel_rfl) (by kernel_rfl) (by kernel_rfl)) ?_
  intro W base args ds gs before hval0 hW hcnd _
  have hval : ∀ (j : Nat) t v, Tryz.f4.params[j]? = some t → args[j]? = some v → Value.okWide Tryz.prog W .any base t v := hval0
  have hW' := hW
  obtain ⟨p, q, hA0, hV, rfl, hfz, hnd⟩ := hW
  have hA : DataW.TrodAll enc Tryz.prog W 0 (fun _ => true) true Tryz.f4.params.toList args.toList ds p := hA0
  rw [Tryz.params4] at hA hval
  obtain ⟨v0, vs0, d0, ds0, p0, q0, hargs, rfl, rfl, h0, r0⟩ := trodAll_cons hA
  obtain ⟨rfl, rfl, rfl⟩ := trodAll_nil r0
  obtain rfl : args = #[v0] := by cases args; simp_all
  obtain ⟨rfl, rfl⟩ := trodVars_none hV
  have lt0 : ∀ x ∈ p0, x.block < W.heap.size := by obtain ⟨m, hm⟩ := h0; exact DataW.trod_lt m _ _ _ hm
  obtain ⟨xs0, hu0⟩ := open_arg_B (hval 0 22 v0 rfl rfl) h0
  clear hA0 hval0
  refine Calls.mono (lawSpheres_any v0 xs0 W hu0) fun e W' ⟨v, he, hv, bel⟩ => ?_
  subst he
  subst hv
  exact ⟨_, rfl, _, _, _, [], _, [], hW', trodAll_mk1 (shut_bool Tryz.underlying4 _), (trodAll_cons_mk (Below.trod laidOut (by kernel_rfl) (of_decide_eq_true (by kernel_rfl)) h0 bel lt0) trodAll_mk0), rfl, bel.frame _, fun h => by cases h⟩

theorem provedSpheres : Rows.FnSpheresSaid :=
  OpenClaim.holds_of_wide 4 Tryz.f4 rfl rfl rfl rfl rfl rfl rfl ⟨rfl, rfl, rfl, rfl, rfl⟩ rfl rfl rfl rfl rfl (by kernel_rfl) Tryz.func4 (by kernel_rfl)
    (of_decide_eq_true (by kernel_rfl)) (by unfold Func.isWrapper; first | (rw [if_pos (by decide +kernel)]; kernel_rfl) | (rw [if_neg (by decide +kernel)]; exact ⟨rfl, rfl⟩))
    (fun os started H enc _ => liftedSpheres os started H enc)

end Go.Proofs.YtablpijnjkncfaaGreat
