/- The law of DeckMoves, for all arguments: its walk and its row. No conditions. -/
import Derived.Test.YtbamhgicdladkaaF28
import Derived.Test.YtbamhgicdladkaaFB
import Derived.Test.YtbamhgicdladkaaRA
import Derived.WalkKit
import Derived.ShutString
namespace Go.Proofs.Ytbamhgicdladkaa
open Go.Mem Go.ChangeShapes Go.WideShapes Go.ChangeAt Go.RowKit
set_option linter.unusedVariables false
set_option linter.unusedSimpArgs false

set_option maxHeartbeats 16000000 in
set_option maxRecDepth 100000 in
theorem lawDeckMoves_any (v0 v1 v2 : Value) (a0 : List (List Int)) (a1 : List (List Int)) (a2 : List Int) (w : World) (hv0 : RL w v0 a0) (hv1 : RL w v1 a1) (hv2 : IL w v2 a2) :
    Ret Try.prog 14 #[.agg #[v0], .agg #[v1], v2] w fun r w' => r = .bool true ∧ Below w.heap.size w w' := by
  have sv0 := hv0.sv
  have sv1 := hv1.sv
  have sv2 := hv2.sv
  have hb := Below.refl w.heap.size w
  refine enter3 140 Try.func14 rfl Try.ntmps14 rfl (fun fr => ?_)
  refine go ?_
  refine s_box (wn rfl) rfl rfl (agg_cells sv0) (fun w1 hbx0 _ hp hg => ?_)
  have hb1 := below_of_grownBy hg
  have sz1 := hb1.size
  replace hv0 := hv0.below hb1
  replace hv1 := hv1.below hb1
  replace hv2 := hv2.below hb1
  replace hb := hb.trans (hb1.mono hb.size)
  clear hg hp hb1
  generalize (⟨w.heap.size, 0, none⟩ : Addr) = p0 at *
  refine go ?_
  refine s_box (wn rfl) rfl rfl (agg_cells sv1) (fun w2 hbx1 _ hp hg => ?_)
  have hb2 := below_of_grownBy hg
  have sz2 := hb2.size
  replace hv0 := hv0.below hb2
  replace hv1 := hv1.below hb2
  replace hv2 := hv2.below hb2
  replace hbx0 := cell_below hbx0 hb2
  replace hb := hb.trans (hb2.mono hb.size)
  clear hg hp hb2
  generalize (⟨w1.heap.size, 0, none⟩ : Addr) = p1 at *
  refine go ?_
  refine cond_dec rfl (fun h => ?_) (fun h => ?_)
  · refine go ?_
    exact end_one Try.results14 rfl ⟨rfl, hb⟩
  have hl2 : a2.length ≤ 1048576 := by omega
  clear h
  refine go ?_
  refine s_call2 (wn rfl) rfl rfl rfl (szManiplex_any _ _ _ _ hv0 (by omega)) ?_
  rintro _ w3 ⟨⟨z1, rfl, hz1⟩, hb3⟩
  have sz3 := hb3.size
  replace hv0 := hv0.below hb3
  replace hv1 := hv1.below hb3
  replace hv2 := hv2.below hb3
  replace hbx0 := cell_below hbx0 hb3
  replace hbx1 := cell_below hbx1 hb3
  replace hb := hb.trans (hb3.mono hb.size)
  refine go ?_
  refine cond_dec rfl (fun h => ?_) (fun h => ?_)
  · refine go ?_
    exact end_one Try.results14 rfl ⟨rfl, hb⟩
  have hz1a := hz1.hi
  have hz1b : 0 ≤ z1 := by omega
  obtain ⟨hl0', hr0'⟩ := hz1.all (by omega)
  have hl0 : a0.length ≤ 1048576 := by omega
  have hr0 : ∀ xs ∈ a0, xs.length ≤ 1048576 := fun xs hx => by have := hr0' xs hx; omega
  clear hl0' hr0' h
  refine go ?_
  refine s_call2 (wn rfl) rfl rfl rfl (szManiplex_any _ _ _ _ hv1 (by omega)) ?_
  rintro _ w4 ⟨⟨z2, rfl, hz2⟩, hb4⟩
  have sz4 := hb4.size
  replace hv0 := hv0.below hb4
  replace hv1 := hv1.below hb4
  replace hv2 := hv2.below hb4
  replace hbx0 := cell_below hbx0 hb4
  replace hbx1 := cell_below hbx1 hb4
  replace hb := hb.trans (hb4.mono hb.size)
  refine go ?_
  refine cond_dec rfl (fun h => ?_) (fun h => ?_)
  · refine go ?_
    exact end_one Try.results14 rfl ⟨rfl, hb⟩
  have hz2a := hz2.hi
  have hz2b : 0 ≤ z2 := by omega
  obtain ⟨hl1', hr1'⟩ := hz2.all (by omega)
  have hl1 : a1.length ≤ 1048576 := by omega
  have hr1 : ∀ xs ∈ a1, xs.length ≤ 1048576 := fun xs hx => by have := hr1' xs hx; omega
  clear hl1' hr1' h
  refine go ?_
  refine region_h mixed (fun w5 hc5 => ?_)
  refine h_p 0 hc5 ?_
  refine h_p 2 hc5 ?_
  refine h_p 4 hc5 ?_
  refine h_one 1 ?_
  refine s_call1 (wn rfl) rfl rfl (toManiplex_any _ _ _ (hv0.below hc5) hl0 hr0) ?_
  rintro _ w6 ⟨t0, rfl, ht0, hb6⟩
  have hc6 := hc5.trans (hb6.mono hc5.size)
  refine w_nil ?_
  refine h_on ⟨hc6, ?_⟩
  refine h_one 3 ?_
  refine s_call1 (wn rfl) rfl rfl (toManiplex_any _ _ _ (hv1.below hc6) hl1 hr1) ?_
  rintro _ w7 ⟨t1, rfl, ht1, hb7⟩
  have hc7 := hc6.trans (hb7.mono hc6.size)
  replace ht0 := ht0.below hb7
  refine w_nil ?_
  refine h_on ⟨hc7, ?_⟩
  refine h_one 5 ?_
  refine s_call1 (wn rfl) rfl rfl (toInt64S_any _ _ _ (hv2.below hc7) hl2) ?_
  rintro t2 w8 ⟨ht2, hb8⟩
  have hc8 := hc7.trans (hb8.mono hc7.size)
  replace ht0 := ht0.below hb8
  replace ht1 := ht1.below hb8
  refine w_nil ?_
  refine h_on ⟨hc8, ?_⟩
  refine h_one 6 ?_
  refine s_call3 (wn rfl) rfl rfl rfl rfl (specDeckMoves_any _ _ _ _ _ _ _ ht0.rl ht1.rl ht2.il) ?_
  rintro _ w9 ⟨w0, rfl, hw0, hb9⟩
  have hc9 := hc8.trans (hb9.mono hc8.size)
  replace ht0 := ht0.below hb9
  replace ht1 := ht1.below hb9
  replace ht2 := ht2.below hb9
  refine w_nil ?_
  refine h_on ⟨hc9, ?_⟩
  refine h_p 7 hc9 ?_
  refine h_p 8 hc9 ?_
  refine h_p 9 hc9 ?_
  refine h_p 10 hc9 ?_
  refine h_p 11 hc9 ?_
  refine h_nil ?_
  have sz9 := hc9.size
  replace hv0 := hv0.below hc9
  replace hv1 := hv1.below hc9
  replace hv2 := hv2.below hc9
  replace hbx0 := cell_below hbx0 hc9
  replace hbx1 := cell_below hbx1 hc9
  replace hb := hb.trans (hc9.mono hb.size)
  clear ht0
  clear ht1
  clear ht2
  have he0 : decide (deckL a0 a1 a2 = deckL a0 a1 a2) = true := decide_eq_true rfl
  have hn1 : ¬ (covC a0 a1 a2 ≠ covC a0 a1 a2) := fun h => h rfl
  have hq0 : decide (a0 = a0) = true := decide_eq_true rfl
  have hq1 : decide (a1 = a1) = true := decide_eq_true rfl
  have hq2 : decide (a2 = a2) = true := decide_eq_true rfl
  replace hw0 := hw0.rl
  have hbS := Below.refl w9.heap.size w9
  have hvS0 := hv0
  have hbxS0 := hbx0
  have hvS1 := hv1
  have hbxS1 := hbx1
  have hvS2 := hv2
  have hwS0 := hw0
  refine go ?_
  refine s_call1 (wn rfl) rfl rfl (toManiplex_any _ _ _ hv0 hl0 hr0) ?_
  rintro _ w10 ⟨x0, rfl, hx0, hb10⟩
  have sz10 := hb10.size
  replace hv0 := hv0.below hb10
  replace hv1 := hv1.below hb10
  replace hv2 := hv2.below hb10
  replace hbx0 := cell_below hbx0 hb10
  replace hbx1 := cell_below hbx1 hb10
  replace hw0 := hw0.below hb10
  replace hbS := hbS.trans (hb10.mono hbS.size)
  refine s_alloc (B := w10.heap.size) (wn rfl) rfl (Nat.le_refl _) (fun w11 px0 hxa hga hpa => ?_)
  have hba := below_of_grownBy hga
  refine go ?_
  refine s_storeBox (wn rfl) rfl rfl hx0.sv.one hxa (fun w12 hxb hgb => ?_)
  have hb12 := hba.trans (hxa.below_of hgb hba.size)
  have sz12 := hb12.size
  replace hv0 := hv0.below hb12
  replace hv1 := hv1.below hb12
  replace hv2 := hv2.below hb12
  replace hbx0 := cell_below hbx0 hb12
  replace hbx1 := cell_below hbx1 hb12
  replace hw0 := hw0.below hb12
  replace hx0 := hx0.below hb12
  replace hbS := hbS.trans (hb12.mono hbS.size)
  have hc0x := hxb.cell
  have hlow0 := hxb.low
  clear hxa hxb hga hgb hpa hba hb12
  refine go ?_
  refine s_call1 (wn rfl) rfl rfl (toManiplex_any _ _ _ hv1 hl1 hr1) ?_
  rintro _ w13 ⟨x1, rfl, hx1, hb13⟩
  have sz13 := hb13.size
  replace hv0 := hv0.below hb13
  replace hv1 := hv1.below hb13
  replace hv2 := hv2.below hb13
  replace hbx0 := cell_below hbx0 hb13
  replace hbx1 := cell_below hbx1 hb13
  replace hw0 := hw0.below hb13
  replace hx0 := hx0.below hb13
  replace hc0x := cell_below hc0x hb13
  replace hbS := hbS.trans (hb13.mono hbS.size)
  refine s_alloc (B := w13.heap.size) (wn rfl) rfl (Nat.le_refl _) (fun w14 px1 hxa hga hpa => ?_)
  have hba := below_of_grownBy hga
  refine go ?_
  refine s_storeBox (wn rfl) rfl rfl hx1.sv.one hxa (fun w15 hxb hgb => ?_)
  have hb15 := hba.trans (hxa.below_of hgb hba.size)
  have sz15 := hb15.size
  replace hv0 := hv0.below hb15
  replace hv1 := hv1.below hb15
  replace hv2 := hv2.below hb15
  replace hbx0 := cell_below hbx0 hb15
  replace hbx1 := cell_below hbx1 hb15
  replace hw0 := hw0.below hb15
  replace hx0 := hx0.below hb15
  replace hc0x := cell_below hc0x hb15
  replace hx1 := hx1.below hb15
  replace hbS := hbS.trans (hb15.mono hbS.size)
  have hc1x := hxb.cell
  have hlow1 := hxb.low
  clear hxa hxb hga hgb hpa hba hb15
  refine go ?_
  refine s_call1 (wn rfl) rfl rfl (toInt64S_any _ _ _ hv2 hl2) ?_
  rintro x2 w16 ⟨hx2, hb16⟩
  have sz16 := hb16.size
  replace hv0 := hv0.below hb16
  replace hv1 := hv1.below hb16
  replace hv2 := hv2.below hb16
  replace hbx0 := cell_below hbx0 hb16
  replace hbx1 := cell_below hbx1 hb16
  replace hw0 := hw0.below hb16
  replace hx0 := hx0.below hb16
  replace hc0x := cell_below hc0x hb16
  replace hx1 := hx1.below hb16
  replace hc1x := cell_below hc1x hb16
  replace hbS := hbS.trans (hb16.mono hbS.size)
  have hxlt2 := hx2.lt
  refine go ?_
  refine s_call3 (wn rfl) rfl rfl rfl rfl (implDeckMoves_any _ _ _ _ _ _ _ hx0.rl hx1.rl hx2.il) ?_
  rintro _ w17 ⟨g0, rfl, hg0, hb17⟩
  have sz17 := hb17.size
  replace hv0 := hv0.below hb17
  replace hv1 := hv1.below hb17
  replace hv2 := hv2.below hb17
  replace hbx0 := cell_below hbx0 hb17
  replace hbx1 := cell_below hbx1 hb17
  replace hw0 := hw0.below hb17
  replace hx0 := hx0.below hb17
  replace hc0x := cell_below hc0x hb17
  replace hx1 := hx1.below hb17
  replace hc1x := cell_below hc1x hb17
  replace hx2 := hx2.below hb17
  replace hbS := hbS.trans (hb17.mono hbS.size)
  refine go ?_
  refine s_call2 (wn rfl) rfl rfl rfl (eqInt64SS_any _ _ _ _ _ hg0.rl hw0) ?_
  rintro _ w18 ⟨rfl, hb18⟩
  have sz18 := hb18.size
  replace hv0 := hv0.below hb18
  replace hv1 := hv1.below hb18
  replace hv2 := hv2.below hb18
  replace hbx0 := cell_below hbx0 hb18
  replace hbx1 := cell_below hbx1 hb18
  replace hw0 := hw0.below hb18
  replace hx0 := hx0.below hb18
  replace hc0x := cell_below hc0x hb18
  replace hx1 := hx1.below hb18
  replace hc1x := cell_below hc1x hb18
  replace hx2 := hx2.below hb18
  replace hg0 := hg0.below hb18
  replace hbS := hbS.trans (hb18.mono hbS.size)
  refine go ?_
  refine region_h mixed (fun w19 hc19 => ?_)
  refine h_p 0 hc19 ?_
  refine h_p 1 hc19 ?_
  refine h_one 2 ?_
  refine s_call1 (wn rfl) rfl rfl (toManiplex_any _ _ _ (hv0.below hc19) hl0 hr0) ?_
  rintro _ w20 ⟨e0, rfl, he0, hb20⟩
  have hc20 := hc19.trans (hb20.mono hc19.size)
  refine w_nil ?_
  refine h_on ⟨hc20, ?_⟩
  refine h_one 3 ?_
  refine s_call2 (wn rfl) rfl rfl rfl (eqManiplex_any _ _ _ _ _ (hx0.below hc20).rl he0.rl) ?_
  rintro _ w21 ⟨rfl, hb21⟩
  have hc21 := hc20.trans (hb21.mono hc20.size)
  replace he0 := he0.below hb21
  refine w_nil ?_
  refine h_on ⟨hc21, ?_⟩
  refine h_p 4 hc21 ?_
  refine h_nil ?_
  have sz21 := hc21.size
  replace hv0 := hv0.below hc21
  replace hv1 := hv1.below hc21
  replace hv2 := hv2.below hc21
  replace hbx0 := cell_below hbx0 hc21
  replace hbx1 := cell_below hbx1 hc21
  replace hw0 := hw0.below hc21
  replace hx0 := hx0.below hc21
  replace hc0x := cell_below hc0x hc21
  replace hx1 := hx1.below hc21
  replace hc1x := cell_below hc1x hc21
  replace hx2 := hx2.below hc21
  replace hg0 := hg0.below hc21
  replace hbS := hbS.trans (hc21.mono hbS.size)
  refine go ?_
  refine region_h mixed (fun w22 hc22 => ?_)
  refine h_p 0 hc22 ?_
  refine h_p 1 hc22 ?_
  refine h_one 2 ?_
  refine s_call1 (wn rfl) rfl rfl (toManiplex_any _ _ _ (hv1.below hc22) hl1 hr1) ?_
  rintro _ w23 ⟨e1, rfl, he1, hb23⟩
  have hc23 := hc22.trans (hb23.mono hc22.size)
  refine w_nil ?_
  refine h_on ⟨hc23, ?_⟩
  refine h_one 3 ?_
  refine s_call2 (wn rfl) rfl rfl rfl (eqManiplex_any _ _ _ _ _ (hx1.below hc23).rl he1.rl) ?_
  rintro _ w24 ⟨rfl, hb24⟩
  have hc24 := hc23.trans (hb24.mono hc23.size)
  replace he1 := he1.below hb24
  refine w_nil ?_
  refine h_on ⟨hc24, ?_⟩
  refine h_p 4 hc24 ?_
  refine h_nil ?_
  have sz24 := hc24.size
  replace hv0 := hv0.below hc24
  replace hv1 := hv1.below hc24
  replace hv2 := hv2.below hc24
  replace hbx0 := cell_below hbx0 hc24
  replace hbx1 := cell_below hbx1 hc24
  replace hw0 := hw0.below hc24
  replace hx0 := hx0.below hc24
  replace hc0x := cell_below hc0x hc24
  replace hx1 := hx1.below hc24
  replace hc1x := cell_below hc1x hc24
  replace hx2 := hx2.below hc24
  replace hg0 := hg0.below hc24
  replace hbS := hbS.trans (hc24.mono hbS.size)
  refine go ?_
  refine s_call1 (wn rfl) rfl rfl (toInt64S_any _ _ _ hv2 hl2) ?_
  rintro e2 w25 ⟨he2, hb25⟩
  have sz25 := hb25.size
  replace hv0 := hv0.below hb25
  replace hv1 := hv1.below hb25
  replace hv2 := hv2.below hb25
  replace hbx0 := cell_below hbx0 hb25
  replace hbx1 := cell_below hbx1 hb25
  replace hw0 := hw0.below hb25
  replace hx0 := hx0.below hb25
  replace hc0x := cell_below hc0x hb25
  replace hx1 := hx1.below hb25
  replace hc1x := cell_below hc1x hb25
  replace hx2 := hx2.below hb25
  replace hg0 := hg0.below hb25
  replace hbS := hbS.trans (hb25.mono hbS.size)
  refine go ?_
  refine s_call2 (wn rfl) rfl rfl rfl (eqInt64S_any _ _ _ _ _ hx2.il he2.il) ?_
  rintro _ w26 ⟨rfl, hb26⟩
  have sz26 := hb26.size
  replace hv0 := hv0.below hb26
  replace hv1 := hv1.below hb26
  replace hv2 := hv2.below hb26
  replace hbx0 := cell_below hbx0 hb26
  replace hbx1 := cell_below hbx1 hb26
  replace hw0 := hw0.below hb26
  replace hx0 := hx0.below hb26
  replace hc0x := cell_below hc0x hb26
  replace hx1 := hx1.below hb26
  replace hc1x := cell_below hc1x hb26
  replace hx2 := hx2.below hb26
  replace hg0 := hg0.below hb26
  replace he2 := he2.below hb26
  replace hbS := hbS.trans (hb26.mono hbS.size)
  refine go ?_
  have htot0 := tot_le (c := 1048576) (fun xs hx => by have := hr0 xs hx; omega)
  have htn0 := tot_nonneg a0
  have hml0 : (a0.length : Int) * 1048576 ≤ 1048576 * 1048576 := Int.mul_le_mul_of_nonneg_right (by omega) (by omega)
  refine s_call2 (wn rfl) rfl rfl rfl (markManiplex_any _ _ _ _ _ _ hx0 (by omega) (by omega)) ?_
  rintro _ w27 ⟨rfl, hxm0, hbt⟩
  have sz27 := hbt.size
  clear hxm0 hx0
  replace hbS := hbS.trans ((hbt.below (by omega)).mono (by omega))
  replace hv0 := hvS0.below hbS
  replace hbx0 := cell_below hbxS0 hbS
  replace hv1 := hvS1.below hbS
  replace hbx1 := cell_below hbxS1 hbS
  replace hx1 := hx1.btw hbt (by omega)
  replace hc1x := cell_btw hc1x hbt (.inr (by omega))
  replace hv2 := hvS2.below hbS
  replace hx2 := hx2.btw hbt (by omega)
  replace hw0 := hwS0.below hbS
  replace hg0 := hg0.btw hbt (by omega)
  clear hbt
  refine go ?_
  have htot1 := tot_le (c := 1048576) (fun xs hx => by have := hr1 xs hx; omega)
  have htn1 := tot_nonneg a1
  have hml1 : (a1.length : Int) * 1048576 ≤ 1048576 * 1048576 := Int.mul_le_mul_of_nonneg_right (by omega) (by omega)
  refine s_call2 (wn rfl) rfl rfl rfl (markManiplex_any _ _ _ _ _ _ hx1 (by omega) (by omega)) ?_
  rintro _ w28 ⟨rfl, hxm1, hbt⟩
  have sz28 := hbt.size
  clear hxm1 hx1
  replace hbS := hbS.trans ((hbt.below (by omega)).mono (by omega))
  replace hv0 := hvS0.below hbS
  replace hbx0 := cell_below hbxS0 hbS
  replace hv1 := hvS1.below hbS
  replace hbx1 := cell_below hbxS1 hbS
  replace hv2 := hvS2.below hbS
  replace hx2 := hx2.btw hbt (by omega)
  replace hw0 := hwS0.below hbS
  replace hg0 := hg0.btw hbt (by omega)
  clear hbt
  refine go ?_
  refine s_call2 (wn rfl) rfl rfl rfl (markInt64S_any _ _ _ _ _ hx2 (by omega) (by omega)) ?_
  rintro _ w29 ⟨rfl, hxm2, hgr2⟩
  have hbt := Btw.of_grown (B := w15.heap.size) (E := w16.heap.size) hgr2 hxlt2
  have sz29 := hbt.size
  clear hxm2 hx2
  replace hbS := hbS.trans ((hbt.below (by omega)).mono (by omega))
  replace hv0 := hvS0.below hbS
  replace hbx0 := cell_below hbxS0 hbS
  replace hv1 := hvS1.below hbS
  replace hbx1 := cell_below hbxS1 hbS
  replace hv2 := hvS2.below hbS
  replace hw0 := hwS0.below hbS
  replace hg0 := hg0.btw hbt (by omega)
  clear hbt
  have htt0 := tot_nonneg a0
  have htt1 := tot_nonneg a1
  have hk0 : ¬ (1 + tot a0 + tot a1 + (a2.length : Int) < 0) := by omega
  refine go ?_
  refine s_call2 (wy rfl rfl rfl rfl rfl known) rfl rfl rfl (eqInt64SS_any _ _ _ _ _ hg0.rl hw0) ?_
  rintro _ w30 ⟨rfl, hb30⟩
  have sz30 := hb30.size
  replace hv0 := hv0.below hb30
  replace hv1 := hv1.below hb30
  replace hv2 := hv2.below hb30
  replace hbx0 := cell_below hbx0 hb30
  replace hbx1 := cell_below hbx1 hb30
  replace hw0 := hw0.below hb30
  replace hg0 := hg0.below hb30
  replace hbS := hbS.trans (hb30.mono hbS.size)
  refine go ?_
  have hlen0 : 1 + tot (deckL a0 a1 a2) ≤ 4000000000000000000 := deckL_len a0 a1 a2
  have htn_0 := tot_nonneg (deckL a0 a1 a2)
  refine s_call2 (wn rfl) rfl rfl rfl (markInt64SS_any _ _ _ _ _ _ hg0 (by omega) hlen0) ?_
  rintro _ w31 ⟨rfl, hgm0, hbt⟩
  have sz31 := hbt.size
  replace hbS := hbS.trans ((hbt.below (by omega)).mono (by omega))
  replace hv0 := hvS0.below hbS
  replace hbx0 := cell_below hbxS0 hbS
  replace hv1 := hvS1.below hbS
  replace hbx1 := cell_below hbxS1 hbS
  replace hv2 := hvS2.below hbS
  replace hw0 := hwS0.below hbS
  clear hbt hg0
  have hm0 : ¬ (1 + tot (deckL a0 a1 a2) < 0) := by omega
  have hm1 : ¬ (1 + tot (deckL a0 a1 a2) ≠ 1 + tot (deckL a0 a1 a2)) := fun h => h rfl
  refine go ?_
  refine s_call2 (wn rfl) rfl rfl rfl (heldInt64SS_any _ _ _ _ hgm0.rl (by omega) hlen0) ?_
  rintro _ _ ⟨rfl, rfl⟩
  refine go ?_
  refine region_h mixed (fun w32 hc32 => ?_)
  refine h_p 0 hc32 ?_
  refine h_p 2 hc32 ?_
  refine h_p 4 hc32 ?_
  refine h_one 1 ?_
  refine s_call1 (wn rfl) rfl rfl (toManiplex_any _ _ _ (hv0.below hc32) hl0 hr0) ?_
  rintro _ w33 ⟨y0, rfl, hy0, hb33⟩
  have hc33 := hc32.trans (hb33.mono hc32.size)
  refine w_nil ?_
  refine h_on ⟨hc33, ?_⟩
  refine h_one 3 ?_
  refine s_call1 (wn rfl) rfl rfl (toManiplex_any _ _ _ (hv1.below hc33) hl1 hr1) ?_
  rintro _ w34 ⟨y1, rfl, hy1, hb34⟩
  have hc34 := hc33.trans (hb34.mono hc33.size)
  replace hy0 := hy0.below hb34
  refine w_nil ?_
  refine h_on ⟨hc34, ?_⟩
  refine h_one 5 ?_
  refine s_call1 (wn rfl) rfl rfl (toInt64S_any _ _ _ (hv2.below hc34) hl2) ?_
  rintro y2 w35 ⟨hy2, hb35⟩
  have hc35 := hc34.trans (hb35.mono hc34.size)
  replace hy0 := hy0.below hb35
  replace hy1 := hy1.below hb35
  refine w_nil ?_
  refine h_on ⟨hc35, ?_⟩
  refine h_one 6 ?_
  refine s_call3 (wn rfl) rfl rfl rfl rfl (implDeckMoves_any _ _ _ _ _ _ _ hy0.rl hy1.rl hy2.il) ?_
  rintro _ w36 ⟨h0, rfl, hh0, hb36⟩
  have hc36 := hc35.trans (hb36.mono hc35.size)
  replace hy0 := hy0.below hb36
  replace hy1 := hy1.below hb36
  replace hy2 := hy2.below hb36
  refine w_nil ?_
  refine h_on ⟨hc36, ?_⟩
  refine h_p 7 hc36 ?_
  refine h_p 8 hc36 ?_
  refine h_p 9 hc36 ?_
  refine h_p 10 hc36 ?_
  refine h_p 11 hc36 ?_
  refine h_nil ?_
  have sz36 := hc36.size
  replace hv0 := hv0.below hc36
  replace hv1 := hv1.below hc36
  replace hv2 := hv2.below hc36
  replace hbx0 := cell_below hbx0 hc36
  replace hbx1 := cell_below hbx1 hc36
  replace hw0 := hw0.below hc36
  replace hgm0 := hgm0.below hc36
  replace hbS := hbS.trans (hc36.mono hbS.size)
  refine go ?_
  refine s_call2 (wn rfl) rfl rfl rfl (eqInt64SS_any _ _ _ _ _ hh0.rl hw0) ?_
  rintro _ w37 ⟨rfl, hb37⟩
  have sz37 := hb37.size
  replace hv0 := hv0.below hb37
  replace hv1 := hv1.below hb37
  replace hv2 := hv2.below hb37
  replace hbx0 := cell_below hbx0 hb37
  replace hbx1 := cell_below hbx1 hb37
  replace hw0 := hw0.below hb37
  replace hgm0 := hgm0.below hb37
  replace hy0 := hy0.below hb37
  replace hy1 := hy1.below hb37
  replace hy2 := hy2.below hb37
  replace hh0 := hh0.below hb37
  replace hbS := hbS.trans (hb37.mono hbS.size)
  refine go ?_
  refine s_call2 (wn rfl) rfl rfl rfl (heldInt64SS_any _ _ _ _ hgm0.rl (by omega) hlen0) ?_
  rintro _ _ ⟨rfl, rfl⟩
  refine go ?_
  exact end_one Try.results14 rfl ⟨rfl, hb.trans (hbS.mono hb.size)⟩

set_option maxRecDepth 100000 in
theorem liftedDeckMoves (os : Os) (started : os.Started) (H : Type) (enc : TypeId × Value → H) :
    ReturnsInHanded {} Try.checked os 14 .any (Rows.fnExactDeckMovesSpec.pre6 enc Try.prog Try.f14 Rows.fnExactDeckMovesRow.domain false) (Rows.fnExactDeckMovesSpec.post enc Try.prog Try.f14 false true false false) := by
  refine returnsInHanded_of_change (C := Try.checked) own started (by kernel_rfl) Try.func14
    (ChangeSpec.witness6 (enc := enc) (C := Try.checked) false ⟨#[], #[.agg #[.slice none 0 0], .agg #[.slice none 0 0], .slice none 0 0], []⟩ 8 (by kernel_rfl) (by kernel_rfl) (by kernel_rfl) (by kernel_rfl)) ?_
  intro W base args ds gs before hval0 hW hcnd _
  have hval : ∀ (j : Nat) t v, Try.f14.params[j]? = some t → args[j]? = some v → Value.okWide Try.prog W .any base t v := hval0
  have hW' := hW
  obtain ⟨p, q, hA0, hV, rfl, hfz, hnd⟩ := hW
  have hA : DataW.TrodAll enc Try.prog W 0 (fun _ => true) true Try.f14.params.toList args.toList ds p := hA0
  rw [Try.params14] at hA hval
  obtain ⟨v0, vs0, d0, ds0, p0, q0, hargs, rfl, rfl, h0, r0⟩ := trodAll_cons hA
  obtain ⟨v1, vs1, d1, ds1, p1, q1, rfl, rfl, rfl, h1, r1⟩ := trodAll_cons r0
  obtain ⟨v2, vs2, d2, ds2, p2, q2, rfl, rfl, rfl, h2, r2⟩ := trodAll_cons r1
  obtain ⟨rfl, rfl, rfl⟩ := trodAll_nil r2
  obtain rfl : args = #[v0, v1, v2] := by cases args; simp_all
  obtain ⟨rfl, rfl⟩ := trodVars_none hV
  have lt0 : ∀ x ∈ p0, x.block < W.heap.size := by obtain ⟨m, hm⟩ := h0; exact DataW.trod_lt m _ _ _ hm
  have lt1 : ∀ x ∈ p1, x.block < W.heap.size := by obtain ⟨m, hm⟩ := h1; exact DataW.trod_lt m _ _ _ hm
  have lt2 : ∀ x ∈ p2, x.block < W.heap.size := by obtain ⟨m, hm⟩ := h2; exact DataW.trod_lt m _ _ _ hm
  obtain ⟨u0, xss0, rfl, hu0⟩ := open_arg (hval 0 24 v0 rfl rfl) h0
  obtain ⟨u1, xss1, rfl, hu1⟩ := open_arg (hval 1 24 v1 rfl rfl) h1
  obtain ⟨xss2, hu2⟩ := open_arg_I (hval 2 42 v2 rfl rfl) h2
  clear hA0 hval0
  refine Calls.mono (lawDeckMoves_any u0 u1 v2 xss0 xss1 xss2 W hu0 hu1 hu2) fun e W' ⟨v, he, hv, bel⟩ => ?_
  subst he
  subst hv
  exact ⟨_, rfl, _, _, _, [], _, [], hW', trodAll_mk1 (shut_bool Try.underlying4 _), (trodAll_cons_mk (Below.trod laidOut (by kernel_rfl) (of_decide_eq_true (by kernel_rfl)) h0 bel lt0) (trodAll_cons_mk (Below.trod laidOut (by kernel_rfl) (of_decide_eq_true (by kernel_rfl)) h1 bel lt1) (trodAll_cons_mk (Below.trod laidOut (by kernel_rfl) (of_decide_eq_true (by kernel_rfl)) h2 bel lt2) trodAll_mk0))), rfl, bel.frame _, fun h => by cases h⟩

theorem provedDeckMoves : Rows.FnExactDeckMovesSaid :=
  OpenClaim.holds_of_wide 14 Try.f14 rfl rfl rfl rfl rfl rfl rfl ⟨rfl, rfl, rfl, rfl, rfl⟩ rfl rfl rfl rfl rfl (by kernel_rfl) Try.func14 (by kernel_rfl)
    (of_decide_eq_true (by kernel_rfl)) (by unfold Func.isWrapper; first | (rw [if_pos (by decide +kernel)]; kernel_rfl) | (rw [if_neg (by decide +kernel)]; exact ⟨rfl, rfl⟩))
    (fun os started H enc _ => liftedDeckMoves os started H enc)
end Go.Proofs.Ytbamhgicdladkaa
