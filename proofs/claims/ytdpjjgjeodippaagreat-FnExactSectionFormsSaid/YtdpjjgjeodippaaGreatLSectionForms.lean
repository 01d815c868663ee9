/- The law of SectionForms, for all arguments: its walk and its row. No conditions. -/
import Derived.Test.YtdpjjgjeodippaaGreatF108
import Derived.Test.YtdpjjgjeodippaaGreatFB
import Derived.Test.YtdpjjgjeodippaaGreatRA
import Derived.WalkKit
import Derived.ShutString
namespace Go.Proofs.YtdpjjgjeodippaaGreat
open Go.Mem Go.ChangeShapes Go.WideShapes Go.ChangeAt Go.RowKit
set_option linter.unusedVariables false
set_option linter.unusedSimpArgs false

set_option maxHeartbeats 16000000 in
set_option maxRecDepth 100000 in
theorem lawSectionForms_any (v0 : Value) (a0 : List (List Int)) (a1 : Int) (a2 : Int) (w : World) (hv0 : RL w v0 a0) :
    Ret Tryz.prog 3 #[.agg #[v0], .int .i64 a1, .int .i64 a2] w fun r w' => r = .bool true ∧ Below w.heap.size w w' := by
  have sv0 := hv0.sv
  have hb := Below.refl w.heap.size w
  refine enter3 106 Tryz.func3 rfl Tryz.ntmps3 rfl (fun fr => ?_)
  refine go ?_
  refine s_box (wn rfl) rfl rfl (agg_cells sv0) (fun w1 hbx0 _ hp hg => ?_)
  have hb1 := below_of_grownBy hg
  have sz1 := hb1.size
  replace hv0 := hv0.below hb1
  replace hb := hb.trans (hb1.mono hb.size)
  clear hg hp hb1
  generalize (⟨w.heap.size, 0, none⟩ : Addr) = p0 at *
  refine go ?_
  refine s_call2 (wn rfl) rfl rfl rfl (szManiplex_any _ _ _ _ hv0 (by omega)) ?_
  rintro _ w2 ⟨⟨z1, rfl, hz1⟩, hb2⟩
  have sz2 := hb2.size
  replace hv0 := hv0.below hb2
  replace hbx0 := cell_below hbx0 hb2
  replace hb := hb.trans (hb2.mono hb.size)
  refine go ?_
  refine cond_dec rfl (fun h => ?_) (fun h => ?_)
  · refine go ?_
    exact end_one Tryz.results3 rfl ⟨rfl, hb⟩
  have hz1a := hz1.hi
  have hz1b : 0 ≤ z1 := by omega
  obtain ⟨hl0', hr0'⟩ := hz1.all (by omega)
  have hl0 : a0.length ≤ 1048576 := by omega
  have hr0 : ∀ xs ∈ a0, xs.length ≤ 1048576 := fun xs hx => by have := hr0' xs hx; omega
  clear hl0' hr0' h
  refine go ?_
  refine s_call1 (wn rfl) rfl rfl (toManiplex_any _ _ _ hv0 hl0 hr0) ?_
  rintro _ w3 ⟨t0, rfl, ht0, hb3⟩
  have sz3 := hb3.size
  replace hv0 := hv0.below hb3
  replace hbx0 := cell_below hbx0 hb3
  replace hb := hb.trans (hb3.mono hb.size)
  refine go ?_
  refine s_call3 (wn rfl) rfl rfl rfl rfl (specSectionForms_any _ _ _ _ _ ht0.rl) ?_
  rintro _ w4 ⟨w0, rfl, hw0, hb4⟩
  have sz4 := hb4.size
  replace hv0 := hv0.below hb4
  replace hbx0 := cell_below hbx0 hb4
  replace ht0 := ht0.below hb4
  replace hb := hb.trans (hb4.mono hb.size)
  clear ht0
  have he0 : decide (sfL a0 a1 a2 = sfL a0 a1 a2) = true := decide_eq_true rfl
  have hn1 : ¬ (skC a0 a1 a2 ≠ skC a0 a1 a2) := fun h => h rfl
  have hq0 : decide (a0 = a0) = true := decide_eq_true rfl
  replace hw0 := hw0.rs
  have hbS := Below.refl w4.heap.size w4
  have hvS0 := hv0
  have hbxS0 := hbx0
  have hwS0 := hw0
  refine go ?_
  refine s_call1 (wn rfl) rfl rfl (toManiplex_any _ _ _ hv0 hl0 hr0) ?_
  rintro _ w5 ⟨x0, rfl, hx0, hb5⟩
  have sz5 := hb5.size
  replace hv0 := hv0.below hb5
  replace hbx0 := cell_below hbx0 hb5
  replace hw0 := hw0.below hb5
  replace hbS := hbS.trans (hb5.mono hbS.size)
  refine s_alloc (B := w5.heap.size) (wn rfl) rfl (Nat.le_refl _) (fun w6 px0 hxa hga hpa => ?_)
  have hba := below_of_grownBy hga
  refine go ?_
  refine s_storeBox (wn rfl) rfl rfl hx0.sv.one hxa (fun w7 hxb hgb => ?_)
  have hb7 := hba.trans (hxa.below_of hgb hba.size)
  have sz7 := hb7.size
  replace hv0 := hv0.below hb7
  replace hbx0 := cell_below hbx0 hb7
  replace hw0 := hw0.below hb7
  replace hx0 := hx0.below hb7
  replace hbS := hbS.trans (hb7.mono hbS.size)
  have hc0x := hxb.cell
  have hlow0 := hxb.low
  clear hxa hxb hga hgb hpa hba hb7
  refine go ?_
  refine s_call3 (wn rfl) rfl rfl rfl rfl (implSectionForms_any _ _ _ _ _ hx0.rl) ?_
  rintro _ w8 ⟨g0, rfl, hg0, hb8⟩
  have sz8 := hb8.size
  replace hv0 := hv0.below hb8
  replace hbx0 := cell_below hbx0 hb8
  replace hw0 := hw0.below hb8
  replace hx0 := hx0.below hb8
  replace hc0x := cell_below hc0x hb8
  replace hbS := hbS.trans (hb8.mono hbS.size)
  refine go ?_
  refine s_call2 (wn rfl) rfl rfl rfl (eqManiplexS_any _ _ _ _ _ hg0.rs hw0) ?_
  rintro _ w9 ⟨rfl, hb9⟩
  have sz9 := hb9.size
  replace hv0 := hv0.below hb9
  replace hbx0 := cell_below hbx0 hb9
  replace hw0 := hw0.below hb9
  replace hx0 := hx0.below hb9
  replace hc0x := cell_below hc0x hb9
  replace hg0 := hg0.below hb9
  replace hbS := hbS.trans (hb9.mono hbS.size)
  refine go ?_
  refine region_h mixed (fun w10 hc10 => ?_)
  refine h_p 0 hc10 ?_
  refine h_p 1 hc10 ?_
  refine h_one 2 ?_
  refine s_call1 (wn rfl) rfl rfl (toManiplex_any _ _ _ (hv0.below hc10) hl0 hr0) ?_
  rintro _ w11 ⟨e0, rfl, he0, hb11⟩
  have hc11 := hc10.trans (hb11.mono hc10.size)
  refine w_nil ?_
  refine h_on ⟨hc11, ?_⟩
  refine h_one 3 ?_
  refine s_call2 (wn rfl) rfl rfl rfl (eqManiplex_any _ _ _ _ _ (hx0.below hc11).rl he0.rl) ?_
  rintro _ w12 ⟨rfl, hb12⟩
  have hc12 := hc11.trans (hb12.mono hc11.size)
  replace he0 := he0.below hb12
  refine w_nil ?_
  refine h_on ⟨hc12, ?_⟩
  refine h_p 4 hc12 ?_
  refine h_nil ?_
  have sz12 := hc12.size
  replace hv0 := hv0.below hc12
  replace hbx0 := cell_below hbx0 hc12
  replace hw0 := hw0.below hc12
  replace hx0 := hx0.below hc12
  replace hc0x := cell_below hc0x hc12
  replace hg0 := hg0.below hc12
  replace hbS := hbS.trans (hc12.mono hbS.size)
  refine go ?_
  have htot0 := tot_le (c := 1048576) (fun xs hx => by have := hr0 xs hx; omega)
  have htn0 := tot_nonneg a0
  have hml0 : (a0.length : Int) * 1048576 ≤ 1048576 * 1048576 := Int.mul_le_mul_of_nonneg_right (by omega) (by omega)
  refine s_call2 (wn rfl) rfl rfl rfl (markManiplex_any _ _ _ _ _ _ hx0 (by omega) (by omega)) ?_
  rintro _ w13 ⟨rfl, hxm0, hbt⟩
  have sz13 := hbt.size
  clear hxm0 hx0
  replace hbS := hbS.trans ((hbt.below (by omega)).mono (by omega))
  replace hv0 := hvS0.below hbS
  replace hbx0 := cell_below hbxS0 hbS
  replace hw0 := hwS0.below hbS
  replace hg0 := hg0.btw hbt (by omega)
  clear hbt
  have htt0 := tot_nonneg a0
  have hk0 : ¬ (1 + tot a0 < 0) := by omega
  refine go ?_
  refine s_call2 (wy rfl rfl rfl rfl rfl known) rfl rfl rfl (eqManiplexS_any _ _ _ _ _ hg0.rs hw0) ?_
  rintro _ w14 ⟨rfl, hb14⟩
  have sz14 := hb14.size
  replace hv0 := hv0.below hb14
  replace hbx0 := cell_below hbx0 hb14
  replace hw0 := hw0.below hb14
  replace hg0 := hg0.below hb14
  replace hbS := hbS.trans (hb14.mono hbS.size)
  refine go ?_
  have hlen0 : 1 + totS (sfL a0 a1 a2) ≤ 4000000000000000000 := sfL_len a0 a1 a2
  have htn_0 := totS_nonneg (sfL a0 a1 a2)
  refine s_call2 (wn rfl) rfl rfl rfl (markManiplexS_any _ _ _ _ _ _ hg0 (by omega) hlen0) ?_
  rintro _ w15 ⟨rfl, hgm0, hbt⟩
  have sz15 := hbt.size
  replace hbS := hbS.trans ((hbt.below (by omega)).mono (by omega))
  replace hv0 := hvS0.below hbS
  replace hbx0 := cell_below hbxS0 hbS
  replace hw0 := hwS0.below hbS
  clear hbt hg0
  have hm0 : ¬ (1 + totS (sfL a0 a1 a2) < 0) := by omega
  have hm1 : ¬ (1 + totS (sfL a0 a1 a2) ≠ 1 + totS (sfL a0 a1 a2)) := fun h => h rfl
  refine go ?_
  refine s_call2 (wn rfl) rfl rfl rfl (heldManiplexS_any _ _ _ _ hgm0.rs (by omega) hlen0) ?_
  rintro _ _ ⟨rfl, rfl⟩
  refine go ?_
  refine s_call1 (wn rfl) rfl rfl (toManiplex_any _ _ _ hv0 hl0 hr0) ?_
  rintro _ w16 ⟨y0, rfl, hy0, hb16⟩
  have sz16 := hb16.size
  replace hv0 := hv0.below hb16
  replace hbx0 := cell_below hbx0 hb16
  replace hw0 := hw0.below hb16
  replace hgm0 := hgm0.below hb16
  replace hbS := hbS.trans (hb16.mono hbS.size)
  refine go ?_
  refine s_call3 (wn rfl) rfl rfl rfl rfl (implSectionForms_any _ _ _ _ _ hy0.rl) ?_
  rintro _ w17 ⟨h0, rfl, hh0, hb17⟩
  have sz17 := hb17.size
  replace hv0 := hv0.below hb17
  replace hbx0 := cell_below hbx0 hb17
  replace hw0 := hw0.below hb17
  replace hgm0 := hgm0.below hb17
  replace hy0 := hy0.below hb17
  replace hbS := hbS.trans (hb17.mono hbS.size)
  refine go ?_
  refine s_call2 (wn rfl) rfl rfl rfl (eqManiplexS_any _ _ _ _ _ hh0.rs hw0) ?_
  rintro _ w18 ⟨rfl, hb18⟩
  have sz18 := hb18.size
  replace hv0 := hv0.below hb18
  replace hbx0 := cell_below hbx0 hb18
  replace hw0 := hw0.below hb18
  replace hgm0 := hgm0.below hb18
  replace hy0 := hy0.below hb18
  replace hh0 := hh0.below hb18
  replace hbS := hbS.trans (hb18.mono hbS.size)
  refine go ?_
  refine s_call2 (wn rfl) rfl rfl rfl (heldManiplexS_any _ _ _ _ hgm0.rs (by omega) hlen0) ?_
  rintro _ _ ⟨rfl, rfl⟩
  refine go ?_
  exact end_one Tryz.results3 rfl ⟨rfl, hb.trans (hbS.mono hb.size)⟩

set_option maxRecDepth 100000 in
theorem liftedSectionForms (os : Os) (started : os.Started) (H : Type) (enc : TypeId × Value → H) :
    ReturnsInHanded {} Tryz.checked os 3 .any (Rows.fnExactSectionFormsSpec.pre6 enc Tryz.prog Tryz.f3 Rows.fnExactSectionFormsRow.domain false) (Rows.fnExactSectionFormsSpec.post enc Tryz.prog Tryz.f3 false true false false) := by
  refine returnsInHanded_of_change (C := Tryz.checked) own started (by kernel_rfl) Tryz.func3
    (ChangeSpec.witness6 (enc := enc) (C := Tryz.checked) false ⟨#[], #[.agg #[.slice none 0 0], .int .i64 0, .int .i64 0], []⟩ 8 (by kernel_rfl) (by kernel_rfl) (by kernel_rfl) (by kernel_rfl)) ?_
  intro W base args ds gs before hval0 hW hcnd _
  have hval : ∀ (j : Nat) t v, Tryz.f3.params[j]? = some t → args[j]? = some v → Value.okWide Tryz.prog W .any base t v := hval0
  have hW' := hW
  obtain ⟨p, q, hA0, hV, rfl, hfz, hnd⟩ := hW
  have hA : DataW.TrodAll enc Tryz.prog W 0 (fun _ => true) true Tryz.f3.params.toList args.toList ds p := hA0
  rw [Tryz.params3] at hA hval
  obtain ⟨v0, vs0, d0, ds0, p0, q0, hargs, rfl, rfl, h0, r0⟩ := trodAll_cons hA
  obtain ⟨v1, vs1, d1, ds1, p1, q1, rfl, rfl, rfl, h1, r1⟩ := trodAll_cons r0
  obtain ⟨v2, vs2, d2, ds2, p2, q2, rfl, rfl, rfl, h2, r2⟩ := trodAll_cons r1
  obtain ⟨rfl, rfl, rfl⟩ := trodAll_nil r2
  obtain rfl : args = #[v0, v1, v2] := by cases args; simp_all
  obtain ⟨rfl, rfl⟩ := trodVars_none hV
  have lt0 : ∀ x ∈ p0, x.block < W.heap.size := by obtain ⟨m, hm⟩ := h0; exact DataW.trod_lt m _ _ _ hm
  have lt1 : ∀ x ∈ p1, x.block < W.heap.size := by obtain ⟨m, hm⟩ := h1; exact DataW.trod_lt m _ _ _ hm
  have lt2 : ∀ x ∈ p2, x.block < W.heap.size := by obtain ⟨m, hm⟩ := h2; exact DataW.trod_lt m _ _ _ hm
  obtain ⟨u0, xss0, rfl, hu0⟩ := open_arg (hval 0 24 v0 rfl rfl) h0
  obtain ⟨xss1, rfl⟩ := open_arg_n (hval 1 2 v1 rfl rfl)
  obtain ⟨xss2, rfl⟩ := open_arg_n (hval 2 2 v2 rfl rfl)
  clear hA0 hval0
  refine Calls.mono (lawSectionForms_any u0 xss0 xss1 xss2 W hu0) fun e W' ⟨v, he, hv, bel⟩ => ?_
  subst he
  subst hv
  exact ⟨_, rfl, _, _, _, [], _, [], hW', trodAll_mk1 (shut_bool Tryz.underlying4 _), (trodAll_cons_mk (Below.trod laidOut (by kernel_rfl) (of_decide_eq_true (by kernel_rfl)) h0 bel lt0) (trodAll_cons_mk (Below.trod laidOut (by kernel_rfl) (of_decide_eq_true (by kernel_rfl)) h1 bel lt1) (trodAll_cons_mk (Below.trod laidOut (by kernel_rfl) (of_decide_eq_true (by kernel_rfl)) h2 bel lt2) trodAll_mk0))), rfl, bel.frame _, fun h => by cases h⟩

theorem provedSectionForms : Rows.FnExactSectionFormsSaid :=
  OpenClaim.holds_of_wide 3 Tryz.f3 rfl rfl rfl rfl rfl rfl rfl ⟨rfl, rfl, rfl, rfl, rfl⟩ rfl rfl rfl rfl rfl (by kernel_rfl) Tryz.func3 (by kernel_rfl)
    (of_decide_eq_true (by kernel_rfl)) (by unfold Func.isWrapper; first | (rw [if_pos (by decide +kernel)]; kernel_rfl) | (rw [if_neg (by decide +kernel)]; exact ⟨rfl, rfl⟩))
    (fun os started H enc _ => liftedSectionForms os started H enc)
end Go.Proofs.YtdpjjgjeodippaaGreat
