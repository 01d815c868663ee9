/- The law of IsNormalCovering, for all arguments: its walk and its row. No conditions. -/
import Derived.Test.YtmfegkjjfmmoaaaF26
import Derived.Test.YtmfegkjjfmmoaaaFB
import Derived.Test.YtmfegkjjfmmoaaaRA
import Derived.WalkKit
import Derived.ShutString
namespace Go.Proofs.Ytmfegkjjfmmoaaa
open Go.Mem Go.ChangeShapes Go.WideShapes Go.ChangeAt Go.RowKit
set_option linter.unusedVariables false
set_option linter.unusedSimpArgs false

set_option maxHeartbeats 16000000 in
set_option maxRecDepth 100000 in
theorem lawIsNormalCovering_any (v0 v1 v2 : Value) (a0 : List (List Int)) (a1 : List (List Int)) (a2 : List Int) (w : World) (hv0 : RL w v0 a0) (hv1 : RL w v1 a1) (hv2 : IL w v2 a2) :
    Ret Try.prog 8 #[.agg #[v0], .agg #[v1], v2] w fun r w' => r = .bool true ∧ Below w.heap.size w w' := by
  have sv0 := hv0.sv
  have sv1 := hv1.sv
  have sv2 := hv2.sv
  have hb := Below.refl w.heap.size w
  refine enter3 74 Try.func8 rfl Try.ntmps8 rfl (fun fr => ?_)
  refine go ?_
  refine s_box (wn rfl) rfl rfl (agg_cells sv0) (fun w1 hbx0 _ hp hg => ?_)
  have hb1 := below_of_grownBy hg
  have sz1 := hb1.size
  replace hv0 := hv0.below hb1
  replace hv1 := hv1.below hb1
  replace hv2 := hv2.below hb1
  replace hb := hb.trans (hb1.mono hb.size)
  clear hg hp hb1
  generalize (⟨w.heap.size, 0, none⟩ : Addr) = p0 at *
  refine go ?_
  refine s_box (wn rfl) rfl rfl (agg_cells sv1) (fun w2 hbx1 _ hp hg => ?_)
  have hb2 := below_of_grownBy hg
  have sz2 := hb2.size
  replace hv0 := hv0.below hb2
  replace hv1 := hv1.below hb2
  replace hv2 := hv2.below hb2
  replace hbx0 := cell_below hbx0 hb2
  replace hb := hb.trans (hb2.mono hb.size)
  clear hg hp hb2
  generalize (⟨w1.heap.size, 0, none⟩ : Addr) = p1 at *
  refine go ?_
  refine cond_dec rfl (fun h => ?_) (fun h => ?_)
  · refine go ?_
    exact end_one Try.results8 rfl ⟨rfl, hb⟩
  have hl2 : a2.length ≤ 1048576 := by omega
  clear h
  refine go ?_
  refine s_call2 (wn rfl) rfl rfl rfl (szManiplex_any _ _ _ _ hv0 (by omega)) ?_
  rintro _ w3 ⟨⟨z1, rfl, hz1⟩, hb3⟩
  have sz3 := hb3.size
  replace hv0 := hv0.below hb3
  replace hv1 := hv1.below hb3
  replace hv2 := hv2.below hb3
  replace hbx0 := cell_below hbx0 hb3
  replace hbx1 := cell_below hbx1 hb3
  replace hb := hb.trans (hb3.mono hb.size)
  refine go ?_
  refine cond_dec rfl (fun h => ?_) (fun h => ?_)
  · refine go ?_
    exact end_one Try.results8 rfl ⟨rfl, hb⟩
  have hz1a := hz1.hi
  have hz1b : 0 ≤ z1 := by omega
  obtain ⟨hl0', hr0'⟩ := hz1.all (by omega)
  have hl0 : a0.length ≤ 1048576 := by omega
  have hr0 : ∀ xs ∈ a0, xs.length ≤ 1048576 := fun xs hx => by have := hr0' xs hx; omega
  clear hl0' hr0' h
  refine go ?_
  refine s_call2 (wn rfl) rfl rfl rfl (szManiplex_any _ _ _ _ hv1 (by omega)) ?_
  rintro _ w4 ⟨⟨z2, rfl, hz2⟩, hb4⟩
  have sz4 := hb4.size
  replace hv0 := hv0.below hb4
  replace hv1 := hv1.below hb4
  replace hv2 := hv2.below hb4
  replace hbx0 := cell_below hbx0 hb4
  replace hbx1 := cell_below hbx1 hb4
  replace hb := hb.trans (hb4.mono hb.size)
  refine go ?_
  refine cond_dec rfl (fun h => ?_) (fun h => ?_)
  · refine go ?_
    exact end_one Try.results8 rfl ⟨rfl, hb⟩
  have hz2a := hz2.hi
  have hz2b : 0 ≤ z2 := by omega
  obtain ⟨hl1', hr1'⟩ := hz2.all (by omega)
  have hl1 : a1.length ≤ 1048576 := by omega
  have hr1 : ∀ xs ∈ a1, xs.length ≤ 1048576 := fun xs hx => by have := hr1' xs hx; omega
  clear hl1' hr1' h
  refine go ?_
  refine region_h mixed (fun w5 hc5 => ?_)
  refine h_p 0 hc5 ?_
  refine h_p 2 hc5 ?_
  refine h_p 4 hc5 ?_
  refine h_one 1 ?_
  refine s_call1 (wn rfl) rfl rfl (toManiplex_any _ _ _ (hv0.below hc5) hl0 hr0) ?_
  rintro _ w6 ⟨t0, rfl, ht0, hb6⟩
  have hc6 := hc5.trans (hb6.mono hc5.size)
  refine w_nil ?_
  refine h_on ⟨hc6, ?_⟩
  refine h_one 3 ?_
  refine s_call1 (wn rfl) rfl rfl (toManiplex_any _ _ _ (hv1.below hc6) hl1 hr1) ?_
  rintro _ w7 ⟨t1, rfl, ht1, hb7⟩
  have hc7 := hc6.trans (hb7.mono hc6.size)
  replace ht0 := ht0.below hb7
  refine w_nil ?_
  refine h_on ⟨hc7, ?_⟩
  refine h_one 5 ?_
  refine s_call1 (wn rfl) rfl rfl (toInt64S_any _ _ _ (hv2.below hc7) hl2) ?_
  rintro t2 w8 ⟨ht2, hb8⟩
  have hc8 := hc7.trans (hb8.mono hc7.size)
  replace ht0 := ht0.below hb8
  replace ht1 := ht1.below hb8
  refine w_nil ?_
  refine h_on ⟨hc8, ?_⟩
  refine h_one 6 ?_
  refine s_call3 (wn rfl) rfl rfl rfl rfl (specIsNormalCovering_any _ _ _ _ _ _ _ ht0.rl ht1.rl ht2.il) ?_
  rintro _ w9 ⟨rfl, hb9⟩
  have hc9 := hc8.trans (hb9.mono hc8.size)
  replace ht0 := ht0.below hb9
  replace ht1 := ht1.below hb9
  replace ht2 := ht2.below hb9
  refine w_nil ?_
  refine h_on ⟨hc9, ?_⟩
  refine h_p 7 hc9 ?_
  refine h_p 8 hc9 ?_
  refine h_p 9 hc9 ?_
  refine h_p 10 hc9 ?_
  refine h_p 11 hc9 ?_
  refine h_nil ?_
  have sz9 := hc9.size
  replace hv0 := hv0.below hc9
  replace hv1 := hv1.below hc9
  replace hv2 := hv2.below hc9
  replace hbx0 := cell_below hbx0 hc9
  replace hbx1 := cell_below hbx1 hc9
  replace hb := hb.trans (hc9.mono hb.size)
  clear ht0
  clear ht1
  clear ht2
  have hn0 : ¬ (isNorm a0 a1 a2 ≠ isNorm a0 a1 a2) := fun h => h rfl
  have hn1 : ¬ (covC a0 a1 a2 ≠ covC a0 a1 a2) := fun h => h rfl
  have hq0 : decide (a0 = a0) = true := decide_eq_true rfl
  have hq1 : decide (a1 = a1) = true := decide_eq_true rfl
  have hq2 : decide (a2 = a2) = true := decide_eq_true rfl
  refine go ?_
  refine s_call1 (wn rfl) rfl rfl (toManiplex_any _ _ _ hv0 hl0 hr0) ?_
  rintro _ w10 ⟨x0, rfl, hx0, hb10⟩
  have sz10 := hb10.size
  replace hv0 := hv0.below hb10
  replace hv1 := hv1.below hb10
  replace hv2 := hv2.below hb10
  replace hbx0 := cell_below hbx0 hb10
  replace hbx1 := cell_below hbx1 hb10
  replace hb := hb.trans (hb10.mono hb.size)
  refine s_alloc (B := w10.heap.size) (wn rfl) rfl (Nat.le_refl _) (fun w11 px0 hxa hga hpa => ?_)
  have hba := below_of_grownBy hga
  refine go ?_
  refine s_storeBox (wn rfl) rfl rfl hx0.sv.one hxa (fun w12 hxb hgb => ?_)
  have hb12 := hba.trans (hxa.below_of hgb hba.size)
  have sz12 := hb12.size
  replace hv0 := hv0.below hb12
  replace hv1 := hv1.below hb12
  replace hv2 := hv2.below hb12
  replace hbx0 := cell_below hbx0 hb12
  replace hbx1 := cell_below hbx1 hb12
  replace hx0 := hx0.below hb12
  replace hb := hb.trans (hb12.mono hb.size)
  have hc0x := hxb.cell
  have hlow0 := hxb.low
  clear hxa hxb hga hgb hpa hba hb12
  refine go ?_
  refine s_call1 (wn rfl) rfl rfl (toManiplex_any _ _ _ hv1 hl1 hr1) ?_
  rintro _ w13 ⟨x1, rfl, hx1, hb13⟩
  have sz13 := hb13.size
  replace hv0 := hv0.below hb13
  replace hv1 := hv1.below hb13
  replace hv2 := hv2.below hb13
  replace hbx0 := cell_below hbx0 hb13
  replace hbx1 := cell_below hbx1 hb13
  replace hx0 := hx0.below hb13
  replace hc0x := cell_below hc0x hb13
  replace hb := hb.trans (hb13.mono hb.size)
  refine s_alloc (B := w13.heap.size) (wn rfl) rfl (Nat.le_refl _) (fun w14 px1 hxa hga hpa => ?_)
  have hba := below_of_grownBy hga
  refine go ?_
  refine s_storeBox (wn rfl) rfl rfl hx1.sv.one hxa (fun w15 hxb hgb => ?_)
  have hb15 := hba.trans (hxa.below_of hgb hba.size)
  have sz15 := hb15.size
  replace hv0 := hv0.below hb15
  replace hv1 := hv1.below hb15
  replace hv2 := hv2.below hb15
  replace hbx0 := cell_below hbx0 hb15
  replace hbx1 := cell_below hbx1 hb15
  replace hx0 := hx0.below hb15
  replace hc0x := cell_below hc0x hb15
  replace hx1 := hx1.below hb15
  replace hb := hb.trans (hb15.mono hb.size)
  have hc1x := hxb.cell
  have hlow1 := hxb.low
  clear hxa hxb hga hgb hpa hba hb15
  refine go ?_
  refine s_call1 (wn rfl) rfl rfl (toInt64S_any _ _ _ hv2 hl2) ?_
  rintro x2 w16 ⟨hx2, hb16⟩
  have sz16 := hb16.size
  replace hv0 := hv0.below hb16
  replace hv1 := hv1.below hb16
  replace hv2 := hv2.below hb16
  replace hbx0 := cell_below hbx0 hb16
  replace hbx1 := cell_below hbx1 hb16
  replace hx0 := hx0.below hb16
  replace hc0x := cell_below hc0x hb16
  replace hx1 := hx1.below hb16
  replace hc1x := cell_below hc1x hb16
  replace hb := hb.trans (hb16.mono hb.size)
  have hxlt2 := hx2.lt
  refine go ?_
  refine s_call3 (wn rfl) rfl rfl rfl rfl (implIsNormalCovering_any _ _ _ _ _ _ _ hx0.rl hx1.rl hx2.il) ?_
  rintro _ w17 ⟨rfl, hb17⟩
  have sz17 := hb17.size
  replace hv0 := hv0.below hb17
  replace hv1 := hv1.below hb17
  replace hv2 := hv2.below hb17
  replace hbx0 := cell_below hbx0 hb17
  replace hbx1 := cell_below hbx1 hb17
  replace hx0 := hx0.below hb17
  replace hc0x := cell_below hc0x hb17
  replace hx1 := hx1.below hb17
  replace hc1x := cell_below hc1x hb17
  replace hx2 := hx2.below hb17
  replace hb := hb.trans (hb17.mono hb.size)
  refine go ?_
  refine region_h mixed (fun w18 hc18 => ?_)
  refine h_p 0 hc18 ?_
  refine h_p 1 hc18 ?_
  refine h_one 2 ?_
  refine s_call1 (wn rfl) rfl rfl (toManiplex_any _ _ _ (hv0.below hc18) hl0 hr0) ?_
  rintro _ w19 ⟨e0, rfl, he0, hb19⟩
  have hc19 := hc18.trans (hb19.mono hc18.size)
  refine w_nil ?_
  refine h_on ⟨hc19, ?_⟩
  refine h_one 3 ?_
  refine s_call2 (wn rfl) rfl rfl rfl (eqManiplex_any _ _ _ _ _ (hx0.below hc19).rl he0.rl) ?_
  rintro _ w20 ⟨rfl, hb20⟩
  have hc20 := hc19.trans (hb20.mono hc19.size)
  replace he0 := he0.below hb20
  refine w_nil ?_
  refine h_on ⟨hc20, ?_⟩
  refine h_p 4 hc20 ?_
  refine h_nil ?_
  have sz20 := hc20.size
  replace hv0 := hv0.below hc20
  replace hv1 := hv1.below hc20
  replace hv2 := hv2.below hc20
  replace hbx0 := cell_below hbx0 hc20
  replace hbx1 := cell_below hbx1 hc20
  replace hx0 := hx0.below hc20
  replace hc0x := cell_below hc0x hc20
  replace hx1 := hx1.below hc20
  replace hc1x := cell_below hc1x hc20
  replace hx2 := hx2.below hc20
  replace hb := hb.trans (hc20.mono hb.size)
  refine go ?_
  refine region_h mixed (fun w21 hc21 => ?_)
  refine h_p 0 hc21 ?_
  refine h_p 1 hc21 ?_
  refine h_one 2 ?_
  refine s_call1 (wn rfl) rfl rfl (toManiplex_any _ _ _ (hv1.below hc21) hl1 hr1) ?_
  rintro _ w22 ⟨e1, rfl, he1, hb22⟩
  have hc22 := hc21.trans (hb22.mono hc21.size)
  refine w_nil ?_
  refine h_on ⟨hc22, ?_⟩
  refine h_one 3 ?_
  refine s_call2 (wn rfl) rfl rfl rfl (eqManiplex_any _ _ _ _ _ (hx1.below hc22).rl he1.rl) ?_
  rintro _ w23 ⟨rfl, hb23⟩
  have hc23 := hc22.trans (hb23.mono hc22.size)
  replace he1 := he1.below hb23
  refine w_nil ?_
  refine h_on ⟨hc23, ?_⟩
  refine h_p 4 hc23 ?_
  refine h_nil ?_
  have sz23 := hc23.size
  replace hv0 := hv0.below hc23
  replace hv1 := hv1.below hc23
  replace hv2 := hv2.below hc23
  replace hbx0 := cell_below hbx0 hc23
  replace hbx1 := cell_below hbx1 hc23
  replace hx0 := hx0.below hc23
  replace hc0x := cell_below hc0x hc23
  replace hx1 := hx1.below hc23
  replace hc1x := cell_below hc1x hc23
  replace hx2 := hx2.below hc23
  replace hb := hb.trans (hc23.mono hb.size)
  refine go ?_
  refine s_call1 (wn rfl) rfl rfl (toInt64S_any _ _ _ hv2 hl2) ?_
  rintro e2 w24 ⟨he2, hb24⟩
  have sz24 := hb24.size
  replace hv0 := hv0.below hb24
  replace hv1 := hv1.below hb24
  replace hv2 := hv2.below hb24
  replace hbx0 := cell_below hbx0 hb24
  replace hbx1 := cell_below hbx1 hb24
  replace hx0 := hx0.below hb24
  replace hc0x := cell_below hc0x hb24
  replace hx1 := hx1.below hb24
  replace hc1x := cell_below hc1x hb24
  replace hx2 := hx2.below hb24
  replace hb := hb.trans (hb24.mono hb.size)
  refine go ?_
  refine s_call2 (wn rfl) rfl rfl rfl (eqInt64S_any _ _ _ _ _ hx2.il he2.il) ?_
  rintro _ w25 ⟨rfl, hb25⟩
  have sz25 := hb25.size
  replace hv0 := hv0.below hb25
  replace hv1 := hv1.below hb25
  replace hv2 := hv2.below hb25
  replace hbx0 := cell_below hbx0 hb25
  replace hbx1 := cell_below hbx1 hb25
  replace hx0 := hx0.below hb25
  replace hc0x := cell_below hc0x hb25
  replace hx1 := hx1.below hb25
  replace hc1x := cell_below hc1x hb25
  replace hx2 := hx2.below hb25
  replace he2 := he2.below hb25
  replace hb := hb.trans (hb25.mono hb.size)
  refine go ?_
  exact end_one Try.results8 rfl ⟨rfl, hb⟩

set_option maxRecDepth 100000 in
theorem liftedIsNormalCovering (os : Os) (started : os.Started) (H : Type) (enc : TypeId × Value → H) :
    ReturnsInHanded {} Try.checked os 8 .any (Rows.fnExactIsNormalCoveringSpec.pre6 enc Try.prog Try.f8 Rows.fnExactIsNormalCoveringRow.domain false) (Rows.fnExactIsNormalCoveringSpec.post enc Try.prog Try.f8 false true false false) := by
  refine returnsInHanded_of_change (C := Try.checked) own started (by kernel_rfl) Try.func8
    (ChangeSpec.witness6 (enc := enc) (C := Try.checked) false ⟨#[], #[.agg #[.slice none 0 0], .agg #[.slice none 0 0], .slice none 0 0], []⟩ 8 (by kernel_rfl) (by kernel_rfl) (by kernel_rfl) (by kernel_rfl)) ?_
  intro W base args ds gs before hval0 hW hcnd _
  have hval : ∀ (j : Nat) t v, Try.f8.params[j]? = some t → args[j]? = some v → Value.okWide Try.prog W .any base t v := hval0
  have hW' := hW
  obtain ⟨p, q, hA0, hV, rfl, hfz, hnd⟩ := hW
  have hA : DataW.TrodAll enc Try.prog W 0 (fun _ => true) true Try.f8.params.toList args.toList ds p := hA0
  rw [Try.params8] at hA hval
  obtain ⟨v0, vs0, d0, ds0, p0, q0, hargs, rfl, rfl, h0, r0⟩ := trodAll_cons hA
  obtain ⟨v1, vs1, d1, ds1, p1, q1, rfl, rfl, rfl, h1, r1⟩ := trodAll_cons r0
  obtain ⟨v2, vs2, d2, ds2, p2, q2, rfl, rfl, rfl, h2, r2⟩ := trodAll_cons r1
  obtain ⟨rfl, rfl, rfl⟩ := trodAll_nil r2
  obtain rfl : args = #[v0, v1, v2] := by cases args; simp_all
  obtain ⟨rfl, rfl⟩ := trodVars_none hV
  have lt0 : ∀ x ∈ p0, x.block < W.heap.size := by obtain ⟨m, hm⟩ := h0; exact DataW.trod_lt m _ _ _ hm
  have lt1 : ∀ x ∈ p1, x.block < W.heap.size := by obtain ⟨m, hm⟩ := h1; exact DataW.trod_lt m _ _ _ hm
  have lt2 : ∀ x ∈ p2, x.block < W.heap.size := by obtain ⟨m, hm⟩ := h2; exact DataW.trod_lt m _ _ _ hm
  obtain ⟨u0, xss0, rfl, hu0⟩ := open_arg (hval 0 24 v0 rfl rfl) h0
  obtain ⟨u1, xss1, rfl, hu1⟩ := open_arg (hval 1 24 v1 rfl rfl) h1
  obtain ⟨xss2, hu2⟩ := open_arg_I (hval 2 26 v2 rfl rfl) h2
  clear hA0 hval0
  refine Calls.mono (lawIsNormalCovering_any u0 u1 v2 xss0 xss1 xss2 W hu0 hu1 hu2) fun e W' ⟨v, he, hv, bel⟩ => ?_
  subst he
  subst hv
  exact ⟨_, rfl, _, _, _, [], _, [], hW', trodAll_mk1 (shut_bool Try.underlying4 _), (trodAll_cons_mk (Below.trod laidOut (by kernel_rfl) (of_decide_eq_true (by kernel_rfl)) h0 bel lt0) (trodAll_cons_mk (Below.trod laidOut (by kernel_rfl) (of_decide_eq_true (by kernel_rfl)) h1 bel lt1) (trodAll_cons_mk (Below.trod laidOut (by kernel_rfl) (of_decide_eq_true (by kernel_rfl)) h2 bel lt2) trodAll_mk0))), rfl, bel.frame _, fun h => by cases h⟩

theorem provedIsNormalCovering : Rows.FnExactIsNormalCoveringSaid :=
  OpenClaim.holds_of_wide 8 Try.f8 rfl rfl rfl rfl rfl rfl rfl ⟨rfl, rfl, rfl, rfl, rfl⟩ rfl rfl rfl rfl rfl (by kernel_rfl) Try.func8 (by kernel_rfl)
    (of_decide_eq_true (by kernel_rfl)) (by unfold Func.isWrapper; first | (rw [if_pos (by decide +kernel)]; kernel_rfl) | (rw [if_neg (by decide +kernel)]; exact ⟨rfl, rfl⟩))
    (fun os started H enc _ => liftedIsNormalCovering os started H enc)
end Go.Proofs.Ytmfegkjjfmmoaaa
