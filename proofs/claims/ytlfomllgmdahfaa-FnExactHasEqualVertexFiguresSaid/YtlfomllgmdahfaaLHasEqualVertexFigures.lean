/- The law of HasEqualVertexFigures, for all arguments: its walk and its row. No conditions. -/
import Derived.Test.YtlfomllgmdahfaaF103
import Derived.Test.YtlfomllgmdahfaaFB
import Derived.Test.YtlfomllgmdahfaaRA
import Derived.WalkKit
import Derived.ShutString
namespace Go.Proofs.Ytlfomllgmdahfaa
open Go.Mem Go.ChangeShapes Go.WideShapes Go.ChangeAt Go.RowKit
set_option linter.unusedVariables false
set_option linter.unusedSimpArgs false

set_option maxHeartbeats 16000000 in
set_option maxRecDepth 100000 in
theorem lawHasEqualVertexFigures_any (v0 : Value) (a0 : List (List Int)) (w : World) (hv0 : RL w v0 a0) :
    Ret Try.prog 3 #[.agg #[v0]] w fun r w' => r = .bool true ∧ Below w.heap.size w w' := by
  have sv0 := hv0.sv
  have hb := Below.refl w.heap.size w
  refine enter1 40 Try.func3 rfl Try.ntmps3 rfl (fun fr => ?_)
  refine go ?_
  refine s_box (wn rfl) rfl rfl (agg_cells sv0) (fun w1 hbx0 _ hp hg => ?_)
  have hb1 := below_of_grownBy hg
  have sz1 := hb1.size
  replace hv0 := hv0.below hb1
  replace hb := hb.trans (hb1.mono hb.size)
  clear hg hp hb1
  generalize (⟨w.heap.size, 0, none⟩ : Addr) = p0 at *
  refine go ?_
  refine s_call2 (wn rfl) rfl rfl rfl (szManiplex_any _ _ _ _ hv0 (by omega)) ?_
  rintro _ w2 ⟨⟨z1, rfl, hz1⟩, hb2⟩
  have sz2 := hb2.size
  replace hv0 := hv0.below hb2
  replace hbx0 := cell_below hbx0 hb2
  replace hb := hb.trans (hb2.mono hb.size)
  refine go ?_
  refine cond_dec rfl (fun h => ?_) (fun h => ?_)
  · refine go ?_
    exact end_one Try.results3 rfl ⟨rfl, hb⟩
  have hz1a := hz1.hi
  have hz1b : 0 ≤ z1 := by omega
  obtain ⟨hl0', hr0'⟩ := hz1.all (by omega)
  have hl0 : a0.length ≤ 1048576 := by omega
  have hr0 : ∀ xs ∈ a0, xs.length ≤ 1048576 := fun xs hx => by have := hr0' xs hx; omega
  clear hl0' hr0' h
  refine go ?_
  refine s_call1 (wn rfl) rfl rfl (toManiplex_any _ _ _ hv0 hl0 hr0) ?_
  rintro _ w3 ⟨t0, rfl, ht0, hb3⟩
  have sz3 := hb3.size
  replace hv0 := hv0.below hb3
  replace hbx0 := cell_below hbx0 hb3
  replace hb := hb.trans (hb3.mono hb.size)
  refine go ?_
  refine s_call1 (wn rfl) rfl rfl (specHasEqualVertexFigures_any _ _ _ ht0.rl) ?_
  rintro _ w4 ⟨rfl, hb4⟩
  have sz4 := hb4.size
  replace hv0 := hv0.below hb4
  replace hbx0 := cell_below hbx0 hb4
  replace ht0 := ht0.below hb4
  replace hb := hb.trans (hb4.mono hb.size)
  clear ht0
  have hn0 : ¬ (heB a0 ≠ heB a0) := fun h => h rfl
  have hn1 : ¬ (heC a0 ≠ heC a0) := fun h => h rfl
  have hq0 : decide (a0 = a0) = true := decide_eq_true rfl
  refine go ?_
  refine s_call1 (wn rfl) rfl rfl (toManiplex_any _ _ _ hv0 hl0 hr0) ?_
  rintro _ w5 ⟨x0, rfl, hx0, hb5⟩
  have sz5 := hb5.size
  replace hv0 := hv0.below hb5
  replace hbx0 := cell_below hbx0 hb5
  replace hb := hb.trans (hb5.mono hb.size)
  refine s_alloc (B := w5.heap.size) (wn rfl) rfl (Nat.le_refl _) (fun w6 px0 hxa hga hpa => ?_)
  have hba := below_of_grownBy hga
  refine go ?_
  refine s_storeBox (wn rfl) rfl rfl hx0.sv.one hxa (fun w7 hxb hgb => ?_)
  have hb7 := hba.trans (hxa.below_of hgb hba.size)
  have sz7 := hb7.size
  replace hv0 := hv0.below hb7
  replace hbx0 := cell_below hbx0 hb7
  replace hx0 := hx0.below hb7
  replace hb := hb.trans (hb7.mono hb.size)
  have hc0x := hxb.cell
  have hlow0 := hxb.low
  clear hxa hxb hga hgb hpa hba hb7
  refine go ?_
  refine s_call1 (wn rfl) rfl rfl (implHasEqualVertexFigures_any _ _ _ hx0.rl) ?_
  rintro _ w8 ⟨rfl, hb8⟩
  have sz8 := hb8.size
  replace hv0 := hv0.below hb8
  replace hbx0 := cell_below hbx0 hb8
  replace hx0 := hx0.below hb8
  replace hc0x := cell_below hc0x hb8
  replace hb := hb.trans (hb8.mono hb.size)
  refine go ?_
  refine region_h mixed (fun w9 hc9 => ?_)
  refine h_p 0 hc9 ?_
  refine h_p 1 hc9 ?_
  refine h_one 2 ?_
  refine s_call1 (wn rfl) rfl rfl (toManiplex_any _ _ _ (hv0.below hc9) hl0 hr0) ?_
  rintro _ w10 ⟨e0, rfl, he0, hb10⟩
  have hc10 := hc9.trans (hb10.mono hc9.size)
  refine w_nil ?_
  refine h_on ⟨hc10, ?_⟩
  refine h_one 3 ?_
  refine s_call2 (wn rfl) rfl rfl rfl (eqManiplex_any _ _ _ _ _ (hx0.below hc10).rl he0.rl) ?_
  rintro _ w11 ⟨rfl, hb11⟩
  have hc11 := hc10.trans (hb11.mono hc10.size)
  replace he0 := he0.below hb11
  refine w_nil ?_
  refine h_on ⟨hc11, ?_⟩
  refine h_p 4 hc11 ?_
  refine h_nil ?_
  have sz11 := hc11.size
  replace hv0 := hv0.below hc11
  replace hbx0 := cell_below hbx0 hc11
  replace hx0 := hx0.below hc11
  replace hc0x := cell_below hc0x hc11
  replace hb := hb.trans (hc11.mono hb.size)
  refine go ?_
  exact end_one Try.results3 rfl ⟨rfl, hb⟩

set_option maxRecDepth 100000 in
theorem liftedHasEqualVertexFigures (os : Os) (started : os.Started) (H : Type) (enc : TypeId × Value → H) :
    ReturnsInHanded {} Try.checked os 3 .any (Rows.fnExactHasEqualVertexFiguresSpec.pre6 enc Try.prog Try.f3 Rows.fnExactHasEqualVertexFiguresRow.domain false) (Rows.fnExactHasEqualVertexFiguresSpec.post enc Try.prog Try.f3 false true false false) := by
  refine returnsInHanded_of_change (C := Try.checked) own started (by kernel_rfl) Try.func3
    (ChangeSpec.witness6 (enc := enc) (C := Try.checked) false ⟨#[], #[.agg #[.slice none 0 0]], []⟩ 8 (by kernel_rfl) (by kernel_rfl) (by kernel_rfl) (by kernel_rfl)) ?_
  intro W base args ds gs before hval0 hW hcnd _
  have hval : ∀ (j : Nat) t v, Try.f3.params[j]? = some t → args[j]? = some v → Value.okWide Try.prog W .any base t v := hval0
  have hW' := hW
  obtain ⟨p, q, hA0, hV, rfl, hfz, hnd⟩ := hW
  have hA : DataW.TrodAll enc Try.prog W 0 (fun _ => true) true Try.f3.params.toList args.toList ds p := hA0
  rw [Try.params3] at hA hval
  obtain ⟨v0, vs0, d0, ds0, p0, q0, hargs, rfl, rfl, h0, r0⟩ := trodAll_cons hA
  obtain ⟨rfl, rfl, rfl⟩ := trodAll_nil r0
  obtain rfl : args = #[v0] := by cases args; simp_all
  obtain ⟨rfl, rfl⟩ := trodVars_none hV
  have lt0 : ∀ x ∈ p0, x.block < W.heap.size := by obtain ⟨m, hm⟩ := h0; exact DataW.trod_lt m _ _ _ hm
  obtain ⟨u0, xss0, rfl, hu0⟩ := open_arg (hval 0 24 v0 rfl rfl) h0
  clear hA0 hval0
  refine Calls.mono (lawHasEqualVertexFigures_any u0 xss0 W hu0) fun e W' ⟨v, he, hv, bel⟩ => ?_
  subst he
  subst hv
  exact ⟨_, rfl, _, _, _, [], _, [], hW', trodAll_mk1 (shut_bool Try.underlying4 _), (trodAll_cons_mk (Below.trod laidOut (by kernel_rfl) (of_decide_eq_true (by kernel_rfl)) h0 bel lt0) trodAll_mk0), rfl, bel.frame _, fun h => by cases h⟩

theorem provedHasEqualVertexFigures : Rows.FnExactHasEqualVertexFiguresSaid :=
  OpenClaim.holds_of_wide 3 Try.f3 rfl rfl rfl rfl rfl rfl rfl ⟨rfl, rfl, rfl, rfl, rfl⟩ rfl rfl rfl rfl rfl (by kernel_rfl) Try.func3 (by kernel_rfl)
    (of_decide_eq_true (by kernel_rfl)) (by unfold Func.isWrapper; first | (rw [if_pos (by decide +kernel)]; kernel_rfl) | (rw [if_neg (by decide +kernel)]; exact ⟨rfl, rfl⟩))
    (fun os started H enc _ => liftedHasEqualVertexFigures os started H enc)
end Go.Proofs.Ytlfomllgmdahfaa
