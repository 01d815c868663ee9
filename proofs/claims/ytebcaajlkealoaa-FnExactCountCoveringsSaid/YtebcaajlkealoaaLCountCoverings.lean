/- The law of CountCoverings, for all arguments: its walk and its row. No conditions. -/
import Derived.Test.YtebcaajlkealoaaF15
import Derived.Test.YtebcaajlkealoaaF14
import Derived.Test.YtebcaajlkealoaaRow
import Derived.WalkKit
import Derived.ShutString
namespace Go.Proofs.Ytebcaajlkealoaa
open Go.Mem Go.ChangeShapes Go.WideShapes Go.ChangeAt Go.RowKit
set_option linter.unusedVariables false
set_option linter.unusedSimpArgs false

set_option maxHeartbeats 16000000 in
set_option maxRecDepth 100000 in
theorem lawCountCoverings_any (v0 v1 : Value) (a0 : List (List Int)) (a1 : List (List Int)) (w : World) (hv0 : RL w v0 a0) (hv1 : RL w v1 a1) :
    Ret Try.prog 4 #[.agg #[v0], .agg #[v1]] w fun r w' => r = .bool true ∧ Below w.heap.size w w' := by
  have sv0 := hv0.sv
  have sv1 := hv1.sv
  have hb := Below.refl w.heap.size w
  refine enter2 58 Try.func4 rfl Try.ntmps4 rfl (fun fr => ?_)
  refine go ?_
  refine s_box (wn rfl) rfl rfl (agg_cells sv0) (fun w1 hbx0 _ hp hg => ?_)
  have hb1 := below_of_grownBy hg
  have sz1 := hb1.size
  replace hv0 := hv0.below hb1
  replace hv1 := hv1.below hb1
  replace hb := hb.trans (hb1.mono hb.size)
  clear hg hp hb1
  generalize (⟨w.heap.size, 0, none⟩ : Addr) = p0 at *
  refine go ?_
  refine s_box (wn rfl) rfl rfl (agg_cells sv1) (fun w2 hbx1 _ hp hg => ?_)
  have hb2 := below_of_grownBy hg
  have sz2 := hb2.size
  replace hv0 := hv0.below hb2
  replace hv1 := hv1.below hb2
  replace hbx0 := cell_below hbx0 hb2
  replace hb := hb.trans (hb2.mono hb.size)
  clear hg hp hb2
  generalize (⟨w1.heap.size, 0, none⟩ : Addr) = p1 at *
  refine go ?_
  refine s_call2 (wn rfl) rfl rfl rfl (szManiplex_any _ _ _ _ hv0 (by omega)) ?_
  rintro _ w3 ⟨⟨z1, rfl, hz1⟩, hb3⟩
  have sz3 := hb3.size
  replace hv0 := hv0.below hb3
  replace hv1 := hv1.below hb3
  replace hbx0 := cell_below hbx0 hb3
  replace hbx1 := cell_below hbx1 hb3
  replace hb := hb.trans (hb3.mono hb.size)
  refine go ?_
  refine cond_dec rfl (fun h => ?_) (fun h => ?_)
  · refine go ?_
    exact end_one Try.results4 rfl ⟨rfl, hb⟩
  have hz1a := hz1.hi
  have hz1b : 0 ≤ z1 := by omega
  obtain ⟨hl0', hr0'⟩ := hz1.all (by omega)
  have hl0 : a0.length ≤ 1048576 := by omega
  have hr0 : ∀ xs ∈ a0, xs.length ≤ 1048576 := fun xs hx => by have := hr0' xs hx; omega
  clear hl0' hr0' h
  refine go ?_
  refine s_call2 (wn rfl) rfl rfl rfl (szManiplex_any _ _ _ _ hv1 (by omega)) ?_
  rintro _ w4 ⟨⟨z2, rfl, hz2⟩, hb4⟩
  have sz4 := hb4.size
  replace hv0 := hv0.below hb4
  replace hv1 := hv1.below hb4
  replace hbx0 := cell_below hbx0 hb4
  replace hbx1 := cell_below hbx1 hb4
  replace hb := hb.trans (hb4.mono hb.size)
  refine go ?_
  refine cond_dec rfl (fun h => ?_) (fun h => ?_)
  · refine go ?_
    exact end_one Try.results4 rfl ⟨rfl, hb⟩
  have hz2a := hz2.hi
  have hz2b : 0 ≤ z2 := by omega
  obtain ⟨hl1', hr1'⟩ := hz2.all (by omega)
  have hl1 : a1.length ≤ 1048576 := by omega
  have hr1 : ∀ xs ∈ a1, xs.length ≤ 1048576 := fun xs hx => by have := hr1' xs hx; omega
  clear hl1' hr1' h
  refine go ?_
  refine region_h mixed (fun w5 hc5 => ?_)
  refine h_p 0 hc5 ?_
  refine h_p 2 hc5 ?_
  refine h_one 1 ?_
  refine s_call1 (wn rfl) rfl rfl (toManiplex_any _ _ _ (hv0.below hc5) hl0 hr0) ?_
  rintro _ w6 ⟨t0, rfl, ht0, hb6⟩
  have hc6 := hc5.trans (hb6.mono hc5.size)
  refine w_nil ?_
  refine h_on ⟨hc6, ?_⟩
  refine h_one 3 ?_
  refine s_call1 (wn rfl) rfl rfl (toManiplex_any _ _ _ (hv1.below hc6) hl1 hr1) ?_
  rintro _ w7 ⟨t1, rfl, ht1, hb7⟩
  have hc7 := hc6.trans (hb7.mono hc6.size)
  replace ht0 := ht0.below hb7
  refine w_nil ?_
  refine h_on ⟨hc7, ?_⟩
  refine h_one 4 ?_
  refine s_call2 (wn rfl) rfl rfl rfl (specCountCoverings_any _ _ _ _ _ ht0.rl ht1.rl) ?_
  rintro _ w8 ⟨rfl, hb8⟩
  have hc8 := hc7.trans (hb8.mono hc7.size)
  replace ht0 := ht0.below hb8
  replace ht1 := ht1.below hb8
  refine w_nil ?_
  refine h_on ⟨hc8, ?_⟩
  refine h_p 5 hc8 ?_
  refine h_p 6 hc8 ?_
  refine h_p 7 hc8 ?_
  refine h_p 8 hc8 ?_
  refine h_p 9 hc8 ?_
  refine h_nil ?_
  have sz8 := hc8.size
  replace hv0 := hv0.below hc8
  replace hv1 := hv1.below hc8
  replace hbx0 := cell_below hbx0 hc8
  replace hbx1 := cell_below hbx1 hc8
  replace hb := hb.trans (hc8.mono hb.size)
  clear ht0
  clear ht1
  have hn0 : ¬ (cntCov a0 a1 ≠ cntCov a0 a1) := fun h => h rfl
  have hn1 : ¬ (manCode2 a0 a1 ≠ manCode2 a0 a1) := fun h => h rfl
  have hq0 : decide (a0 = a0) = true := decide_eq_true rfl
  have hq1 : decide (a1 = a1) = true := decide_eq_true rfl
  refine go ?_
  refine s_call1 (wn rfl) rfl rfl (toManiplex_any _ _ _ hv0 hl0 hr0) ?_
  rintro _ w9 ⟨x0, rfl, hx0, hb9⟩
  have sz9 := hb9.size
  replace hv0 := hv0.below hb9
  replace hv1 := hv1.below hb9
  replace hbx0 := cell_below hbx0 hb9
  replace hbx1 := cell_below hbx1 hb9
  replace hb := hb.trans (hb9.mono hb.size)
  refine s_alloc (B := w9.heap.size) (wn rfl) rfl (Nat.le_refl _) (fun w10 px0 hxa hga hpa => ?_)
  have hba := below_of_grownBy hga
  refine go ?_
  refine s_storeBox (wn rfl) rfl rfl hx0.sv.one hxa (fun w11 hxb hgb => ?_)
  have hb11 := hba.trans (hxa.below_of hgb hba.size)
  have sz11 := hb11.size
  replace hv0 := hv0.below hb11
  replace hv1 := hv1.below hb11
  replace hbx0 := cell_below hbx0 hb11
  replace hbx1 := cell_below hbx1 hb11
  replace hx0 := hx0.below hb11
  replace hb := hb.trans (hb11.mono hb.size)
  have hc0x := hxb.cell
  have hlow0 := hxb.low
  clear hxa hxb hga hgb hpa hba hb11
  refine go ?_
  refine s_call1 (wn rfl) rfl rfl (toManiplex_any _ _ _ hv1 hl1 hr1) ?_
  rintro _ w12 ⟨x1, rfl, hx1, hb12⟩
  have sz12 := hb12.size
  replace hv0 := hv0.below hb12
  replace hv1 := hv1.below hb12
  replace hbx0 := cell_below hbx0 hb12
  replace hbx1 := cell_below hbx1 hb12
  replace hx0 := hx0.below hb12
  replace hc0x := cell_below hc0x hb12
  replace hb := hb.trans (hb12.mono hb.size)
  refine s_alloc (B := w12.heap.size) (wn rfl) rfl (Nat.le_refl _) (fun w13 px1 hxa hga hpa => ?_)
  have hba := below_of_grownBy hga
  refine go ?_
  refine s_storeBox (wn rfl) rfl rfl hx1.sv.one hxa (fun w14 hxb hgb => ?_)
  have hb14 := hba.trans (hxa.below_of hgb hba.size)
  have sz14 := hb14.size
  replace hv0 := hv0.below hb14
  replace hv1 := hv1.below hb14
  replace hbx0 := cell_below hbx0 hb14
  replace hbx1 := cell_below hbx1 hb14
  replace hx0 := hx0.below hb14
  replace hc0x := cell_below hc0x hb14
  replace hx1 := hx1.below hb14
  replace hb := hb.trans (hb14.mono hb.size)
  have hc1x := hxb.cell
  have hlow1 := hxb.low
  clear hxa hxb hga hgb hpa hba hb14
  refine go ?_
  refine s_call2 (wn rfl) rfl rfl rfl (implCountCoverings_any _ _ _ _ _ hx0.rl hx1.rl) ?_
  rintro _ w15 ⟨rfl, hb15⟩
  have sz15 := hb15.size
  replace hv0 := hv0.below hb15
  replace hv1 := hv1.below hb15
  replace hbx0 := cell_below hbx0 hb15
  replace hbx1 := cell_below hbx1 hb15
  replace hx0 := hx0.below hb15
  replace hc0x := cell_below hc0x hb15
  replace hx1 := hx1.below hb15
  replace hc1x := cell_below hc1x hb15
  replace hb := hb.trans (hb15.mono hb.size)
  refine go ?_
  refine region_h mixed (fun w16 hc16 => ?_)
  refine h_p 0 hc16 ?_
  refine h_p 1 hc16 ?_
  refine h_one 2 ?_
  refine s_call1 (wn rfl) rfl rfl (toManiplex_any _ _ _ (hv0.below hc16) hl0 hr0) ?_
  rintro _ w17 ⟨e0, rfl, he0, hb17⟩
  have hc17 := hc16.trans (hb17.mono hc16.size)
  refine w_nil ?_
  refine h_on ⟨hc17, ?_⟩
  refine h_one 3 ?_
  refine s_call2 (wn rfl) rfl rfl rfl (eqManiplex_any _ _ _ _ _ (hx0.below hc17).rl he0.rl) ?_
  rintro _ w18 ⟨rfl, hb18⟩
  have hc18 := hc17.trans (hb18.mono hc17.size)
  replace he0 := he0.below hb18
  refine w_nil ?_
  refine h_on ⟨hc18, ?_⟩
  refine h_p 4 hc18 ?_
  refine h_nil ?_
  have sz18 := hc18.size
  replace hv0 := hv0.below hc18
  replace hv1 := hv1.below hc18
  replace hbx0 := cell_below hbx0 hc18
  replace hbx1 := cell_below hbx1 hc18
  replace hx0 := hx0.below hc18
  replace hc0x := cell_below hc0x hc18
  replace hx1 := hx1.below hc18
  replace hc1x := cell_below hc1x hc18
  replace hb := hb.trans (hc18.mono hb.size)
  refine go ?_
  refine region_h mixed (fun w19 hc19 => ?_)
  refine h_p 0 hc19 ?_
  refine h_p 1 hc19 ?_
  refine h_one 2 ?_
  refine s_call1 (wn rfl) rfl rfl (toManiplex_any _ _ _ (hv1.below hc19) hl1 hr1) ?_
  rintro _ w20 ⟨e1, rfl, he1, hb20⟩
  have hc20 := hc19.trans (hb20.mono hc19.size)
  refine w_nil ?_
  refine h_on ⟨hc20, ?_⟩
  refine h_one 3 ?_
  refine s_call2 (wn rfl) rfl rfl rfl (eqManiplex_any _ _ _ _ _ (hx1.below hc20).rl he1.rl) ?_
  rintro _ w21 ⟨rfl, hb21⟩
  have hc21 := hc20.trans (hb21.mono hc20.size)
  replace he1 := he1.below hb21
  refine w_nil ?_
  refine h_on ⟨hc21, ?_⟩
  refine h_p 4 hc21 ?_
  refine h_nil ?_
  have sz21 := hc21.size
  replace hv0 := hv0.below hc21
  replace hv1 := hv1.below hc21
  replace hbx0 := cell_below hbx0 hc21
  replace hbx1 := cell_below hbx1 hc21
  replace hx0 := hx0.below hc21
  replace hc0x := cell_below hc0x hc21
  replace hx1 := hx1.below hc21
  replace hc1x := cell_below hc1x hc21
  replace hb := hb.trans (hc21.mono hb.size)
  refine go ?_
  exact end_one Try.results4 rfl ⟨rfl, hb⟩

set_option maxRecDepth 100000 in
theorem liftedCountCoverings (os : Os) (started : os.Started) (H : Type) (enc : TypeId × Value → H) :
    ReturnsInHanded {} Try.checked os 4 .any (Rows.fnExactCountCoveringsSpec.pre6 enc Try.prog Try.f4 Rows.fnExactCountCoveringsRow.domain false) (Rows.fnExactCountCoveringsSpec.post enc Try.prog Try.f4 false true false false) := by
  refine returnsInHanded_of_change (C := Try.checked) own started (by kernel_rfl) Try.func4
    (ChangeSpec.witness6 (enc := enc) (C := Try.checked) false ⟨#[], #[.agg #[.slice none 0 0], .agg #[.slice none 0 0]], []⟩ 8 (by kernel_rfl) (by kernel_rfl) (by kernel_rfl) (by kernel_rfl)) ?_
  intro W base args ds gs before hval0 hW hcnd _
  have hval : ∀ (j : Nat) t v, Try.f4.params[j]? = some t → args[j]? = some v → Value.okWide Try.prog W .any base t v := hval0
  have hW' := hW
  obtain ⟨p, q, hA0, hV, rfl, hfz, hnd⟩ := hW
  have hA : DataW.TrodAll enc Try.prog W 0 (fun _ => true) true Try.f4.params.toList args.toList ds p := hA0
  rw [Try.params4] at hA hval
  obtain ⟨v0, vs0, d0, ds0, p0, q0, hargs, rfl, rfl, h0, r0⟩ := trodAll_cons hA
  obtain ⟨v1, vs1, d1, ds1, p1, q1, rfl, rfl, rfl, h1, r1⟩ := trodAll_cons r0
  obtain ⟨rfl, rfl, rfl⟩ := trodAll_nil r1
  obtain rfl : args = #[v0, v1] := by cases args; simp_all
  obtain ⟨rfl, rfl⟩ := trodVars_none hV
  have lt0 : ∀ x ∈ p0, x.block < W.heap.size := by obtain ⟨m, hm⟩ := h0; exact DataW.trod_lt m _ _ _ hm
  have lt1 : ∀ x ∈ p1, x.block < W.heap.size := by obtain ⟨m, hm⟩ := h1; exact DataW.trod_lt m _ _ _ hm
  obtain ⟨u0, xss0, rfl, hu0⟩ := open_arg (hval 0 24 v0 rfl rfl) h0
  obtain ⟨u1, xss1, rfl, hu1⟩ := open_arg (hval 1 24 v1 rfl rfl) h1
  clear hA0 hval0
  refine Calls.mono (lawCountCoverings_any u0 u1 xss0 xss1 W hu0 hu1) fun e W' ⟨v, he, hv, bel⟩ => ?_
  subst he
  subst hv
  exact ⟨_, rfl, _, _, _, [], _, [], hW', trodAll_mk1 (shut_bool Try.underlying4 _), (trodAll_cons_mk (Below.trod laidOut (by kernel_rfl) (of_decide_eq_true (by kernel_rfl)) h0 bel lt0) (trodAll_cons_mk (Below.trod laidOut (by kernel_rfl) (of_decide_eq_true (by kernel_rfl)) h1 bel lt1) trodAll_mk0)), rfl, bel.frame _, fun h => by cases h⟩

theorem provedCountCoverings : Rows.FnExactCountCoveringsSaid :=
  OpenClaim.holds_of_wide 4 Try.f4 rfl rfl rfl rfl rfl rfl rfl ⟨rfl, rfl, rfl, rfl, rfl⟩ rfl rfl rfl rfl rfl (by kernel_rfl) Try.func4 (by kernel_rfl)
    (of_decide_eq_true (by kernel_rfl)) (by unfold Func.isWrapper; first | (rw [if_pos (by decide +kernel)]; kernel_rfl) | (rw [if_neg (by decide +kernel)]; exact ⟨rfl, rfl⟩))
    (fun os started H enc _ => liftedCountCoverings os started H enc)
end Go.Proofs.Ytebcaajlkealoaa
