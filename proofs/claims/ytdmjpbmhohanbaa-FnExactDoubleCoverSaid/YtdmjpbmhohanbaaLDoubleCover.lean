/- The law of DoubleCover, for all arguments: its walk and its row. No conditions. -/
import Derived.Test.YtdmjpbmhohanbaaF40
import Derived.Test.YtdmjpbmhohanbaaFB
import Derived.Test.YtdmjpbmhohanbaaF34
import Derived.Test.YtdmjpbmhohanbaaRA
import Derived.WalkKit
import Derived.ShutString
namespace Go.Proofs.Ytdmjpbmhohanbaa
open Go.Mem Go.ChangeShapes Go.WideShapes Go.ChangeAt Go.RowKit
set_option linter.unusedVariables false
set_option linter.unusedSimpArgs false

set_option maxHeartbeats 16000000 in
set_option maxRecDepth 100000 in
theorem lawDoubleCover_any (v0 : Value) (a0 : List (List Int)) (w : World) (hv0 : RL w v0 a0) :
    Ret Try.prog 8 #[.agg #[v0]] w fun r w' => r = .bool true ∧ Below w.heap.size w w' := by
  have sv0 := hv0.sv
  have hb := Below.refl w.heap.size w
  refine enter1 96 Try.func8 rfl Try.ntmps8 rfl (fun fr => ?_)
  refine go ?_
  refine s_box (wn rfl) rfl rfl (agg_cells sv0) (fun w1 hbx0 _ hp hg => ?_)
  have hb1 := below_of_grownBy hg
  have sz1 := hb1.size
  replace hv0 := hv0.below hb1
  replace hb := hb.trans (hb1.mono hb.size)
  clear hg hp hb1
  generalize (⟨w.heap.size, 0, none⟩ : Addr) = p0 at *
  refine go ?_
  refine s_call2 (wn rfl) rfl rfl rfl (szManiplex_any _ _ _ _ hv0 (by omega)) ?_
  rintro _ w2 ⟨⟨z1, rfl, hz1⟩, hb2⟩
  have sz2 := hb2.size
  replace hv0 := hv0.below hb2
  replace hbx0 := cell_below hbx0 hb2
  replace hb := hb.trans (hb2.mono hb.size)
  refine go ?_
  refine cond_dec rfl (fun h => ?_) (fun h => ?_)
  · refine go ?_
    exact end_one Try.results8 rfl ⟨rfl, hb⟩
  have hz1a := hz1.hi
  have hz1b : 0 ≤ z1 := by omega
  obtain ⟨hl0', hr0'⟩ := hz1.all (by omega)
  have hl0 : a0.length ≤ 1048576 := by omega
  have hr0 : ∀ xs ∈ a0, xs.length ≤ 1048576 := fun xs hx => by have := hr0' xs hx; omega
  clear hl0' hr0' h
  refine go ?_
  refine s_call1 (wn rfl) rfl rfl (toManiplex_any _ _ _ hv0 hl0 hr0) ?_
  rintro _ w3 ⟨t0, rfl, ht0, hb3⟩
  have sz3 := hb3.size
  replace hv0 := hv0.below hb3
  replace hbx0 := cell_below hbx0 hb3
  replace hb := hb.trans (hb3.mono hb.size)
  refine go ?_
  refine s_call1 (wn rfl) rfl rfl (specDoubleCover_any _ _ _ ht0.rl) ?_
  rintro _ w4 ⟨w0, rfl, hw0, hb4⟩
  have sz4 := hb4.size
  replace hv0 := hv0.below hb4
  replace hbx0 := cell_below hbx0 hb4
  replace ht0 := ht0.below hb4
  replace hb := hb.trans (hb4.mono hb.size)
  refine go ?_
  refine s_alloc (B := w4.heap.size) (wn rfl) rfl (Nat.le_refl _) (fun w5 pvw0 hxa hga hpa => ?_)
  have hba := below_of_grownBy hga
  refine go ?_
  refine s_storeBox (wn rfl) rfl rfl hw0.sv.one hxa (fun w6 hxb hgb => ?_)
  have hb6 := hba.trans (hxa.below_of hgb hba.size)
  have sz6 := hb6.size
  replace hv0 := hv0.below hb6
  replace hbx0 := cell_below hbx0 hb6
  replace ht0 := ht0.below hb6
  replace hw0 := hw0.below hb6
  replace hb := hb.trans (hb6.mono hb.size)
  have hcw0 := hxb.cell
  have hloww0 := hxb.low
  clear hxa hxb hga hgb hpa hba hb6
  clear ht0
  have he0 : decide (dcL a0 = dcL a0) = true := decide_eq_true rfl
  have hn1 : ¬ (dcC a0 ≠ dcC a0) := fun h => h rfl
  have hq0 : decide (a0 = a0) = true := decide_eq_true rfl
  replace hw0 := hw0.rl
  have hbS := Below.refl w6.heap.size w6
  have hvS0 := hv0
  have hbxS0 := hbx0
  have hwS0 := hw0
  have hcwS0 := hcw0
  refine go ?_
  refine s_call1 (wn rfl) rfl rfl (toManiplex_any _ _ _ hv0 hl0 hr0) ?_
  rintro _ w7 ⟨x0, rfl, hx0, hb7⟩
  have sz7 := hb7.size
  replace hv0 := hv0.below hb7
  replace hbx0 := cell_below hbx0 hb7
  replace hw0 := hw0.below hb7
  replace hcw0 := cell_below hcw0 hb7
  replace hbS := hbS.trans (hb7.mono hbS.size)
  refine s_alloc (B := w7.heap.size) (wn rfl) rfl (Nat.le_refl _) (fun w8 px0 hxa hga hpa => ?_)
  have hba := below_of_grownBy hga
  refine go ?_
  refine s_storeBox (wn rfl) rfl rfl hx0.sv.one hxa (fun w9 hxb hgb => ?_)
  have hb9 := hba.trans (hxa.below_of hgb hba.size)
  have sz9 := hb9.size
  replace hv0 := hv0.below hb9
  replace hbx0 := cell_below hbx0 hb9
  replace hw0 := hw0.below hb9
  replace hcw0 := cell_below hcw0 hb9
  replace hx0 := hx0.below hb9
  replace hbS := hbS.trans (hb9.mono hbS.size)
  have hc0x := hxb.cell
  have hlow0 := hxb.low
  clear hxa hxb hga hgb hpa hba hb9
  refine go ?_
  refine s_call1 (wn rfl) rfl rfl (implDoubleCover_any _ _ _ hx0.rl) ?_
  rintro _ w10 ⟨g0, rfl, hg0, hb10⟩
  have sz10 := hb10.size
  replace hv0 := hv0.below hb10
  replace hbx0 := cell_below hbx0 hb10
  replace hw0 := hw0.below hb10
  replace hcw0 := cell_below hcw0 hb10
  replace hx0 := hx0.below hb10
  replace hc0x := cell_below hc0x hb10
  replace hbS := hbS.trans (hb10.mono hbS.size)
  refine go ?_
  refine s_alloc (B := w10.heap.size) (wn rfl) rfl (Nat.le_refl _) (fun w11 pvg0 hxa hga hpa => ?_)
  have hba := below_of_grownBy hga
  refine go ?_
  refine s_storeBox (wn rfl) rfl rfl hg0.sv.one hxa (fun w12 hxb hgb => ?_)
  have hb12 := hba.trans (hxa.below_of hgb hba.size)
  have sz12 := hb12.size
  replace hv0 := hv0.below hb12
  replace hbx0 := cell_below hbx0 hb12
  replace hw0 := hw0.below hb12
  replace hcw0 := cell_below hcw0 hb12
  replace hx0 := hx0.below hb12
  replace hc0x := cell_below hc0x hb12
  replace hg0 := hg0.below hb12
  replace hbS := hbS.trans (hb12.mono hbS.size)
  have hcg0 := hxb.cell
  have hlowg0 := hxb.low
  clear hxa hxb hga hgb hpa hba hb12
  refine go ?_
  refine s_call2 (wn rfl) rfl rfl rfl (eqManiplex_any _ _ _ _ _ hg0.rl hw0) ?_
  rintro _ w13 ⟨rfl, hb13⟩
  have sz13 := hb13.size
  replace hv0 := hv0.below hb13
  replace hbx0 := cell_below hbx0 hb13
  replace hw0 := hw0.below hb13
  replace hcw0 := cell_below hcw0 hb13
  replace hx0 := hx0.below hb13
  replace hc0x := cell_below hc0x hb13
  replace hg0 := hg0.below hb13
  replace hcg0 := cell_below hcg0 hb13
  replace hbS := hbS.trans (hb13.mono hbS.size)
  refine go ?_
  refine region_h mixed (fun w14 hc14 => ?_)
  refine h_p 0 hc14 ?_
  refine h_p 1 hc14 ?_
  refine h_one 2 ?_
  refine s_call1 (wn rfl) rfl rfl (toManiplex_any _ _ _ (hv0.below hc14) hl0 hr0) ?_
  rintro _ w15 ⟨e0, rfl, he0, hb15⟩
  have hc15 := hc14.trans (hb15.mono hc14.size)
  refine w_nil ?_
  refine h_on ⟨hc15, ?_⟩
  refine h_one 3 ?_
  refine s_call2 (wn rfl) rfl rfl rfl (eqManiplex_any _ _ _ _ _ (hx0.below hc15).rl he0.rl) ?_
  rintro _ w16 ⟨rfl, hb16⟩
  have hc16 := hc15.trans (hb16.mono hc15.size)
  replace he0 := he0.below hb16
  refine w_nil ?_
  refine h_on ⟨hc16, ?_⟩
  refine h_p 4 hc16 ?_
  refine h_nil ?_
  have sz16 := hc16.size
  replace hv0 := hv0.below hc16
  replace hbx0 := cell_below hbx0 hc16
  replace hw0 := hw0.below hc16
  replace hcw0 := cell_below hcw0 hc16
  replace hx0 := hx0.below hc16
  replace hc0x := cell_below hc0x hc16
  replace hg0 := hg0.below hc16
  replace hcg0 := cell_below hcg0 hc16
  replace hbS := hbS.trans (hc16.mono hbS.size)
  refine go ?_
  have htot0 := tot_le (c := 1048576) (fun xs hx => by have := hr0 xs hx; omega)
  have htn0 := tot_nonneg a0
  have hml0 : (a0.length : Int) * 1048576 ≤ 1048576 * 1048576 := Int.mul_le_mul_of_nonneg_right (by omega) (by omega)
  refine s_call2 (wn rfl) rfl rfl rfl (markManiplex_any _ _ _ _ _ _ hx0 (by omega) (by omega)) ?_
  rintro _ w17 ⟨rfl, hxm0, hbt⟩
  have sz17 := hbt.size
  clear hxm0 hx0
  replace hbS := hbS.trans ((hbt.below (by omega)).mono (by omega))
  replace hv0 := hvS0.below hbS
  replace hbx0 := cell_below hbxS0 hbS
  replace hw0 := hwS0.below hbS
  replace hg0 := hg0.btw hbt (by omega)
  replace hcw0 := cell_below hcwS0 hbS
  replace hcg0 := cell_btw hcg0 hbt (.inr (by omega))
  clear hbt
  have htt0 := tot_nonneg a0
  have hk0 : ¬ (1 + tot a0 < 0) := by omega
  refine go ?_
  refine s_call2 (wy rfl rfl rfl rfl rfl known) rfl rfl rfl (eqManiplex_any _ _ _ _ _ hg0.rl hw0) ?_
  rintro _ w18 ⟨rfl, hb18⟩
  have sz18 := hb18.size
  replace hv0 := hv0.below hb18
  replace hbx0 := cell_below hbx0 hb18
  replace hw0 := hw0.below hb18
  replace hcw0 := cell_below hcw0 hb18
  replace hg0 := hg0.below hb18
  replace hcg0 := cell_below hcg0 hb18
  replace hbS := hbS.trans (hb18.mono hbS.size)
  refine go ?_
  have hlen0 : 1 + tot (dcL a0) ≤ 4000000000000000000 := dcL_len a0
  have htn_0 := tot_nonneg (dcL a0)
  refine s_call2 (wn rfl) rfl rfl rfl (markManiplex_any _ _ _ _ _ _ hg0 (by omega) hlen0) ?_
  rintro _ w19 ⟨rfl, hgm0, hbt⟩
  have sz19 := hbt.size
  replace hbS := hbS.trans ((hbt.below (by omega)).mono (by omega))
  replace hv0 := hvS0.below hbS
  replace hbx0 := cell_below hbxS0 hbS
  replace hw0 := hwS0.below hbS
  replace hcw0 := cell_below hcwS0 hbS
  replace hcg0 := cell_btw hcg0 hbt (.inr (by omega))
  clear hbt hg0
  have hm0 : ¬ (1 + tot (dcL a0) < 0) := by omega
  have hm1 : ¬ (1 + tot (dcL a0) ≠ 1 + tot (dcL a0)) := fun h => h rfl
  refine go ?_
  refine s_call2 (wn rfl) rfl rfl rfl (heldManiplex_any _ _ _ _ hgm0.rl (by omega) hlen0) ?_
  rintro _ w20 ⟨rfl, hb20⟩
  have sz20 := hb20.size
  replace hv0 := hv0.below hb20
  replace hbx0 := cell_below hbx0 hb20
  replace hw0 := hw0.below hb20
  replace hcw0 := cell_below hcw0 hb20
  replace hcg0 := cell_below hcg0 hb20
  replace hgm0 := hgm0.below hb20
  replace hbS := hbS.trans (hb20.mono hbS.size)
  refine go ?_
  refine s_call1 (wn rfl) rfl rfl (toManiplex_any _ _ _ hv0 hl0 hr0) ?_
  rintro _ w21 ⟨y0, rfl, hy0, hb21⟩
  have sz21 := hb21.size
  replace hv0 := hv0.below hb21
  replace hbx0 := cell_below hbx0 hb21
  replace hw0 := hw0.below hb21
  replace hcw0 := cell_below hcw0 hb21
  replace hcg0 := cell_below hcg0 hb21
  replace hgm0 := hgm0.below hb21
  replace hbS := hbS.trans (hb21.mono hbS.size)
  refine go ?_
  refine s_call1 (wn rfl) rfl rfl (implDoubleCover_any _ _ _ hy0.rl) ?_
  rintro _ w22 ⟨h0, rfl, hh0, hb22⟩
  have sz22 := hb22.size
  replace hv0 := hv0.below hb22
  replace hbx0 := cell_below hbx0 hb22
  replace hw0 := hw0.below hb22
  replace hcw0 := cell_below hcw0 hb22
  replace hcg0 := cell_below hcg0 hb22
  replace hgm0 := hgm0.below hb22
  replace hy0 := hy0.below hb22
  replace hbS := hbS.trans (hb22.mono hbS.size)
  refine go ?_
  refine s_alloc (B := w22.heap.size) (wn rfl) rfl (Nat.le_refl _) (fun w23 pvh0 hxa hga hpa => ?_)
  have hba := below_of_grownBy hga
  refine go ?_
  refine s_storeBox (wn rfl) rfl rfl hh0.sv.one hxa (fun w24 hxb hgb => ?_)
  have hb24 := hba.trans (hxa.below_of hgb hba.size)
  have sz24 := hb24.size
  replace hv0 := hv0.below hb24
  replace hbx0 := cell_below hbx0 hb24
  replace hw0 := hw0.below hb24
  replace hcw0 := cell_below hcw0 hb24
  replace hcg0 := cell_below hcg0 hb24
  replace hgm0 := hgm0.below hb24
  replace hy0 := hy0.below hb24
  replace hh0 := hh0.below hb24
  replace hbS := hbS.trans (hb24.mono hbS.size)
  have hch0 := hxb.cell
  have hlowh0 := hxb.low
  clear hxa hxb hga hgb hpa hba hb24
  refine go ?_
  refine s_call2 (wn rfl) rfl rfl rfl (eqManiplex_any _ _ _ _ _ hh0.rl hw0) ?_
  rintro _ w25 ⟨rfl, hb25⟩
  have sz25 := hb25.size
  replace hv0 := hv0.below hb25
  replace hbx0 := cell_below hbx0 hb25
  replace hw0 := hw0.below hb25
  replace hcw0 := cell_below hcw0 hb25
  replace hcg0 := cell_below hcg0 hb25
  replace hgm0 := hgm0.below hb25
  replace hy0 := hy0.below hb25
  replace hh0 := hh0.below hb25
  replace hch0 := cell_below hch0 hb25
  replace hbS := hbS.trans (hb25.mono hbS.size)
  refine go ?_
  refine s_call2 (wn rfl) rfl rfl rfl (heldManiplex_any _ _ _ _ hgm0.rl (by omega) hlen0) ?_
  rintro _ w26 ⟨rfl, hb26⟩
  have sz26 := hb26.size
  replace hv0 := hv0.below hb26
  replace hbx0 := cell_below hbx0 hb26
  replace hw0 := hw0.below hb26
  replace hcw0 := cell_below hcw0 hb26
  replace hcg0 := cell_below hcg0 hb26
  replace hgm0 := hgm0.below hb26
  replace hy0 := hy0.below hb26
  replace hh0 := hh0.below hb26
  replace hch0 := cell_below hch0 hb26
  replace hbS := hbS.trans (hb26.mono hbS.size)
  refine go ?_
  exact end_one Try.results8 rfl ⟨rfl, hb.trans (hbS.mono hb.size)⟩

set_option maxRecDepth 100000 in
theorem liftedDoubleCover (os : Os) (started : os.Started) (H : Type) (enc : TypeId × Value → H) :
    ReturnsInHanded {} Try.checked os 8 .any (Rows.fnExactDoubleCoverSpec.pre6 enc Try.prog Try.f8 Rows.fnExactDoubleCoverRow.domain false) (Rows.fnExactDoubleCoverSpec.post enc Try.prog Try.f8 false true false false) := by
  refine returnsInHanded_of_change (C := Try.checked) own started (by kernel_rfl) Try.func8
    (ChangeSpec.witness6 (enc := enc) (C := Try.checked) false ⟨#[], #[.agg #[.slice none 0 0]], []⟩ 8 (by kernel_rfl) (by kernel_rfl) (by kernel_rfl) (by kernel_rfl)) ?_
  intro W base args ds gs before hval0 hW hcnd _
  have hval : ∀ (j : Nat) t v, Try.f8.params[j]? = some t → args[j]? = some v → Value.okWide Try.prog W .any base t v := hval0
  have hW' := hW
  obtain ⟨p, q, hA0, hV, rfl, hfz, hnd⟩ := hW
  have hA : DataW.TrodAll enc Try.prog W 0 (fun _ => true) true Try.f8.params.toList args.toList ds p := hA0
  rw [Try.params8] at hA hval
  obtain ⟨v0, vs0, d0, ds0, p0, q0, hargs, rfl, rfl, h0, r0⟩ := trodAll_cons hA
  obtain ⟨rfl, rfl, rfl⟩ := trodAll_nil r0
  obtain rfl : args = #[v0] := by cases args; simp_all
  obtain ⟨rfl, rfl⟩ := trodVars_none hV
  have lt0 : ∀ x ∈ p0, x.block < W.heap.size := by obtain ⟨m, hm⟩ := h0; exact DataW.trod_lt m _ _ _ hm
  obtain ⟨u0, xss0, rfl, hu0⟩ := open_arg (hval 0 24 v0 rfl rfl) h0
  clear hA0 hval0
  refine Calls.mono (lawDoubleCover_any u0 xss0 W hu0) fun e W' ⟨v, he, hv, bel⟩ => ?_
  subst he
  subst hv
  exact ⟨_, rfl, _, _, _, [], _, [], hW', trodAll_mk1 (shut_bool Try.underlying4 _), (trodAll_cons_mk (Below.trod laidOut (by kernel_rfl) (of_decide_eq_true (by kernel_rfl)) h0 bel lt0) trodAll_mk0), rfl, bel.frame _, fun h => by cases h⟩

theorem provedDoubleCover : Rows.FnExactDoubleCoverSaid :=
  OpenClaim.holds_of_wide 8 Try.f8 rfl rfl rfl rfl rfl rfl rfl ⟨rfl, rfl, rfl, rfl, rfl⟩ rfl rfl rfl rfl rfl (by kernel_rfl) Try.func8 (by kernel_rfl)
    (of_decide_eq_true (by kernel_rfl)) (by unfold Func.isWrapper; first | (rw [if_pos (by decide +kernel)]; kernel_rfl) | (rw [if_neg (by decide +kernel)]; exact ⟨rfl, rfl⟩))
    (fun os started H enc _ => liftedDoubleCover os started H enc)
end Go.Proofs.Ytdmjpbmhohanbaa
