/- The law of WordPeriod, for all arguments: its walk and its row. No conditions. -/
import Derived.Test.YtdmjpbmhohanbaaF46
import Derived.Test.YtdmjpbmhohanbaaFB
import Derived.Test.YtdmjpbmhohanbaaRA
import Derived.WalkKit
import Derived.ShutString
namespace Go.Proofs.Ytdmjpbmhohanbaa
open Go.Mem Go.ChangeShapes Go.WideShapes Go.ChangeAt Go.RowKit
set_option linter.unusedVariables false
set_option linter.unusedSimpArgs false

set_option maxHeartbeats 16000000 in
set_option maxRecDepth 100000 in
theorem lawWordPeriod_any (v0 v1 : Value) (a0 : List (List Int)) (a1 : List Int) (w : World) (hv0 : RL w v0 a0) (hv1 : IL w v1 a1) :
    Ret Try.prog 13 #[.agg #[v0], v1] w fun r w' => r = .bool true ∧ Below w.heap.size w w' := by
  have sv0 := hv0.sv
  have sv1 := hv1.sv
  have hb := Below.refl w.heap.size w
  refine enter2 56 Try.func13 rfl Try.ntmps13 rfl (fun fr => ?_)
  refine go ?_
  refine s_box (wn rfl) rfl rfl (agg_cells sv0) (fun w1 hbx0 _ hp hg => ?_)
  have hb1 := below_of_grownBy hg
  have sz1 := hb1.size
  replace hv0 := hv0.below hb1
  replace hv1 := hv1.below hb1
  replace hb := hb.trans (hb1.mono hb.size)
  clear hg hp hb1
  generalize (⟨w.heap.size, 0, none⟩ : Addr) = p0 at *
  refine go ?_
  refine cond_dec rfl (fun h => ?_) (fun h => ?_)
  · refine go ?_
    exact end_one Try.results13 rfl ⟨rfl, hb⟩
  have hl1 : a1.length ≤ 1048576 := by omega
  clear h
  refine go ?_
  refine s_call2 (wn rfl) rfl rfl rfl (szManiplex_any _ _ _ _ hv0 (by omega)) ?_
  rintro _ w2 ⟨⟨z1, rfl, hz1⟩, hb2⟩
  have sz2 := hb2.size
  replace hv0 := hv0.below hb2
  replace hv1 := hv1.below hb2
  replace hbx0 := cell_below hbx0 hb2
  replace hb := hb.trans (hb2.mono hb.size)
  refine go ?_
  refine cond_dec rfl (fun h => ?_) (fun h => ?_)
  · refine go ?_
    exact end_one Try.results13 rfl ⟨rfl, hb⟩
  have hz1a := hz1.hi
  have hz1b : 0 ≤ z1 := by omega
  obtain ⟨hl0', hr0'⟩ := hz1.all (by omega)
  have hl0 : a0.length ≤ 1048576 := by omega
  have hr0 : ∀ xs ∈ a0, xs.length ≤ 1048576 := fun xs hx => by have := hr0' xs hx; omega
  clear hl0' hr0' h
  refine go ?_
  refine s_call1 (wn rfl) rfl rfl (toManiplex_any _ _ _ hv0 hl0 hr0) ?_
  rintro _ w3 ⟨t0, rfl, ht0, hb3⟩
  have sz3 := hb3.size
  replace hv0 := hv0.below hb3
  replace hv1 := hv1.below hb3
  replace hbx0 := cell_below hbx0 hb3
  replace hb := hb.trans (hb3.mono hb.size)
  refine go ?_
  refine s_call1 (wn rfl) rfl rfl (toInt64S_any _ _ _ hv1 hl1) ?_
  rintro t1 w4 ⟨ht1, hb4⟩
  have sz4 := hb4.size
  replace hv0 := hv0.below hb4
  replace hv1 := hv1.below hb4
  replace hbx0 := cell_below hbx0 hb4
  replace ht0 := ht0.below hb4
  replace hb := hb.trans (hb4.mono hb.size)
  refine go ?_
  refine s_call2 (wn rfl) rfl rfl rfl (specWordPeriod_any _ _ _ _ _ ht0.rl ht1.il) ?_
  rintro _ w5 ⟨rfl, hb5⟩
  have sz5 := hb5.size
  replace hv0 := hv0.below hb5
  replace hv1 := hv1.below hb5
  replace hbx0 := cell_below hbx0 hb5
  replace ht0 := ht0.below hb5
  replace ht1 := ht1.below hb5
  replace hb := hb.trans (hb5.mono hb.size)
  clear ht0
  clear ht1
  have hn0 : ¬ (wpN a0 a1 ≠ wpN a0 a1) := fun h => h rfl
  have hn1 : ¬ (wpC a0 a1 ≠ wpC a0 a1) := fun h => h rfl
  have hq0 : decide (a0 = a0) = true := decide_eq_true rfl
  have hq1 : decide (a1 = a1) = true := decide_eq_true rfl
  refine go ?_
  refine s_call1 (wn rfl) rfl rfl (toManiplex_any _ _ _ hv0 hl0 hr0) ?_
  rintro _ w6 ⟨x0, rfl, hx0, hb6⟩
  have sz6 := hb6.size
  replace hv0 := hv0.below hb6
  replace hv1 := hv1.below hb6
  replace hbx0 := cell_below hbx0 hb6
  replace hb := hb.trans (hb6.mono hb.size)
  refine s_alloc (B := w6.heap.size) (wn rfl) rfl (Nat.le_refl _) (fun w7 px0 hxa hga hpa => ?_)
  have hba := below_of_grownBy hga
  refine go ?_
  refine s_storeBox (wn rfl) rfl rfl hx0.sv.one hxa (fun w8 hxb hgb => ?_)
  have hb8 := hba.trans (hxa.below_of hgb hba.size)
  have sz8 := hb8.size
  replace hv0 := hv0.below hb8
  replace hv1 := hv1.below hb8
  replace hbx0 := cell_below hbx0 hb8
  replace hx0 := hx0.below hb8
  replace hb := hb.trans (hb8.mono hb.size)
  have hc0x := hxb.cell
  have hlow0 := hxb.low
  clear hxa hxb hga hgb hpa hba hb8
  refine go ?_
  refine s_call1 (wn rfl) rfl rfl (toInt64S_any _ _ _ hv1 hl1) ?_
  rintro x1 w9 ⟨hx1, hb9⟩
  have sz9 := hb9.size
  replace hv0 := hv0.below hb9
  replace hv1 := hv1.below hb9
  replace hbx0 := cell_below hbx0 hb9
  replace hx0 := hx0.below hb9
  replace hc0x := cell_below hc0x hb9
  replace hb := hb.trans (hb9.mono hb.size)
  have hxlt1 := hx1.lt
  refine go ?_
  refine s_call2 (wn rfl) rfl rfl rfl (implWordPeriod_any _ _ _ _ _ hx0.rl hx1.il) ?_
  rintro _ w10 ⟨rfl, hb10⟩
  have sz10 := hb10.size
  replace hv0 := hv0.below hb10
  replace hv1 := hv1.below hb10
  replace hbx0 := cell_below hbx0 hb10
  replace hx0 := hx0.below hb10
  replace hc0x := cell_below hc0x hb10
  replace hx1 := hx1.below hb10
  replace hb := hb.trans (hb10.mono hb.size)
  refine go ?_
  refine region_h mixed (fun w11 hc11 => ?_)
  refine h_p 0 hc11 ?_
  refine h_p 1 hc11 ?_
  refine h_one 2 ?_
  refine s_call1 (wn rfl) rfl rfl (toManiplex_any _ _ _ (hv0.below hc11) hl0 hr0) ?_
  rintro _ w12 ⟨e0, rfl, he0, hb12⟩
  have hc12 := hc11.trans (hb12.mono hc11.size)
  refine w_nil ?_
  refine h_on ⟨hc12, ?_⟩
  refine h_one 3 ?_
  refine s_call2 (wn rfl) rfl rfl rfl (eqManiplex_any _ _ _ _ _ (hx0.below hc12).rl he0.rl) ?_
  rintro _ w13 ⟨rfl, hb13⟩
  have hc13 := hc12.trans (hb13.mono hc12.size)
  replace he0 := he0.below hb13
  refine w_nil ?_
  refine h_on ⟨hc13, ?_⟩
  refine h_p 4 hc13 ?_
  refine h_nil ?_
  have sz13 := hc13.size
  replace hv0 := hv0.below hc13
  replace hv1 := hv1.below hc13
  replace hbx0 := cell_below hbx0 hc13
  replace hx0 := hx0.below hc13
  replace hc0x := cell_below hc0x hc13
  replace hx1 := hx1.below hc13
  replace hb := hb.trans (hc13.mono hb.size)
  refine go ?_
  refine s_call1 (wn rfl) rfl rfl (toInt64S_any _ _ _ hv1 hl1) ?_
  rintro e1 w14 ⟨he1, hb14⟩
  have sz14 := hb14.size
  replace hv0 := hv0.below hb14
  replace hv1 := hv1.below hb14
  replace hbx0 := cell_below hbx0 hb14
  replace hx0 := hx0.below hb14
  replace hc0x := cell_below hc0x hb14
  replace hx1 := hx1.below hb14
  replace hb := hb.trans (hb14.mono hb.size)
  refine go ?_
  refine s_call2 (wn rfl) rfl rfl rfl (eqInt64S_any _ _ _ _ _ hx1.il he1.il) ?_
  rintro _ w15 ⟨rfl, hb15⟩
  have sz15 := hb15.size
  replace hv0 := hv0.below hb15
  replace hv1 := hv1.below hb15
  replace hbx0 := cell_below hbx0 hb15
  replace hx0 := hx0.below hb15
  replace hc0x := cell_below hc0x hb15
  replace hx1 := hx1.below hb15
  replace he1 := he1.below hb15
  replace hb := hb.trans (hb15.mono hb.size)
  refine go ?_
  exact end_one Try.results13 rfl ⟨rfl, hb⟩

set_option maxRecDepth 100000 in
theorem liftedWordPeriod (os : Os) (started : os.Started) (H : Type) (enc : TypeId × Value → H) :
    ReturnsInHanded {} Try.checked os 13 .any (Rows.fnExactWordPeriodSpec.pre6 enc Try.prog Try.f13 Rows.fnExactWordPeriodRow.domain false) (Rows.fnExactWordPeriodSpec.post enc Try.prog Try.f13 false true false false) := by
  refine returnsInHanded_of_change (C := Try.checked) own started (by kernel_rfl) Try.func13
    (ChangeSpec.witness6 (enc := enc) (C := Try.checked) false ⟨#[], #[.agg #[.slice none 0 0], .slice none 0 0], []⟩ 8 (by kernel_rfl) (by kernel_rfl) (by kernel_rfl) (by kernel_rfl)) ?_
  intro W base args ds gs before hval0 hW hcnd _
  have hval : ∀ (j : Nat) t v, Try.f13.params[j]? = some t → args[j]? = some v → Value.okWide Try.prog W .any base t v := hval0
  have hW' := hW
  obtain ⟨p, q, hA0, hV, rfl, hfz, hnd⟩ := hW
  have hA : DataW.TrodAll enc Try.prog W 0 (fun _ => true) true Try.f13.params.toList args.toList ds p := hA0
  rw [Try.params13] at hA hval
  obtain ⟨v0, vs0, d0, ds0, p0, q0, hargs, rfl, rfl, h0, r0⟩ := trodAll_cons hA
  obtain ⟨v1, vs1, d1, ds1, p1, q1, rfl, rfl, rfl, h1, r1⟩ := trodAll_cons r0
  obtain ⟨rfl, rfl, rfl⟩ := trodAll_nil r1
  obtain rfl : args = #[v0, v1] := by cases args; simp_all
  obtain ⟨rfl, rfl⟩ := trodVars_none hV
  have lt0 : ∀ x ∈ p0, x.block < W.heap.size := by obtain ⟨m, hm⟩ := h0; exact DataW.trod_lt m _ _ _ hm
  have lt1 : ∀ x ∈ p1, x.block < W.heap.size := by obtain ⟨m, hm⟩ := h1; exact DataW.trod_lt m _ _ _ hm
  obtain ⟨u0, xss0, rfl, hu0⟩ := open_arg (hval 0 24 v0 rfl rfl) h0
  obtain ⟨xss1, hu1⟩ := open_arg_I (hval 1 42 v1 rfl rfl) h1
  clear hA0 hval0
  refine Calls.mono (lawWordPeriod_any u0 v1 xss0 xss1 W hu0 hu1) fun e W' ⟨v, he, hv, bel⟩ => ?_
  subst he
  subst hv
  exact ⟨_, rfl, _, _, _, [], _, [], hW', trodAll_mk1 (shut_bool Try.underlying4 _), (trodAll_cons_mk (Below.trod laidOut (by kernel_rfl) (of_decide_eq_true (by kernel_rfl)) h0 bel lt0) (trodAll_cons_mk (Below.trod laidOut (by kernel_rfl) (of_decide_eq_true (by kernel_rfl)) h1 bel lt1) trodAll_mk0)), rfl, bel.frame _, fun h => by cases h⟩

theorem provedWordPeriod : Rows.FnExactWordPeriodSaid :=
  OpenClaim.holds_of_wide 13 Try.f13 rfl rfl rfl rfl rfl rfl rfl ⟨rfl, rfl, rfl, rfl, rfl⟩ rfl rfl rfl rfl rfl (by kernel_rfl) Try.func13 (by kernel_rfl)
    (of_decide_eq_true (by kernel_rfl)) (by unfold Func.isWrapper; first | (rw [if_pos (by decide +kernel)]; kernel_rfl) | (rw [if_neg (by decide +kernel)]; exact ⟨rfl, rfl⟩))
    (fun os started H enc _ => liftedWordPeriod os started H enc)
end Go.Proofs.Ytdmjpbmhohanbaa
