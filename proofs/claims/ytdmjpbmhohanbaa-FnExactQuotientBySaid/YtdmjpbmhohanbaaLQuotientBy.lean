/- The law of QuotientBy, for all arguments: its walk and its row. No conditions. -/
import Derived.Test.YtdmjpbmhohanbaaF41
import Derived.Test.YtdmjpbmhohanbaaFB
import Derived.Test.YtdmjpbmhohanbaaF34
import Derived.Test.YtdmjpbmhohanbaaRA
import Derived.WalkKit
import Derived.ShutString
namespace Go.Proofs.Ytdmjpbmhohanbaa
open Go.Mem Go.ChangeShapes Go.WideShapes Go.ChangeAt Go.RowKit
set_option linter.unusedVariables false
set_option linter.unusedSimpArgs false

set_option maxHeartbeats 16000000 in
set_option maxRecDepth 100000 in
theorem lawQuotientBy_any (v0 v1 : Value) (a0 : List (List Int)) (a1 : List (List Int)) (w : World) (hv0 : RL w v0 a0) (hv1 : RL w v1 a1) :
    Ret Try.prog 9 #[.agg #[v0], v1] w fun r w' => r = .bool true ∧ Below w.heap.size w w' := by
  have sv0 := hv0.sv
  have sv1 := hv1.sv
  have hb := Below.refl w.heap.size w
  refine enter2 119 Try.func9 rfl Try.ntmps9 rfl (fun fr => ?_)
  refine go ?_
  refine s_box (wn rfl) rfl rfl (agg_cells sv0) (fun w1 hbx0 _ hp hg => ?_)
  have hb1 := below_of_grownBy hg
  have sz1 := hb1.size
  replace hv0 := hv0.below hb1
  replace hv1 := hv1.below hb1
  replace hb := hb.trans (hb1.mono hb.size)
  clear hg hp hb1
  generalize (⟨w.heap.size, 0, none⟩ : Addr) = p0 at *
  refine go ?_
  refine s_call2 (wn rfl) rfl rfl rfl (szManiplex_any _ _ _ _ hv0 (by omega)) ?_
  rintro _ w2 ⟨⟨z1, rfl, hz1⟩, hb2⟩
  have sz2 := hb2.size
  replace hv0 := hv0.below hb2
  replace hv1 := hv1.below hb2
  replace hbx0 := cell_below hbx0 hb2
  replace hb := hb.trans (hb2.mono hb.size)
  refine go ?_
  refine cond_dec rfl (fun h => ?_) (fun h => ?_)
  · refine go ?_
    exact end_one Try.results9 rfl ⟨rfl, hb⟩
  have hz1a := hz1.hi
  have hz1b : 0 ≤ z1 := by omega
  obtain ⟨hl0', hr0'⟩ := hz1.all (by omega)
  have hl0 : a0.length ≤ 1048576 := by omega
  have hr0 : ∀ xs ∈ a0, xs.length ≤ 1048576 := fun xs hx => by have := hr0' xs hx; omega
  clear hl0' hr0' h
  refine go ?_
  refine s_call2 (wn rfl) rfl rfl rfl (szInt64SS_any _ _ _ _ hv1 (by omega)) ?_
  rintro _ _ ⟨⟨z2, rfl, hz2⟩, rfl⟩
  refine go ?_
  refine cond_dec rfl (fun h => ?_) (fun h => ?_)
  · refine go ?_
    exact end_one Try.results9 rfl ⟨rfl, hb⟩
  have hz2a := hz2.hi
  have hz2b : 0 ≤ z2 := by omega
  obtain ⟨hl1', hr1'⟩ := hz2.all (by omega)
  have hl1 : a1.length ≤ 1048576 := by omega
  have hr1 : ∀ xs ∈ a1, xs.length ≤ 1048576 := fun xs hx => by have := hr1' xs hx; omega
  clear hl1' hr1' h
  refine go ?_
  refine s_call1 (wn rfl) rfl rfl (toManiplex_any _ _ _ hv0 hl0 hr0) ?_
  rintro _ w3 ⟨t0, rfl, ht0, hb3⟩
  have sz3 := hb3.size
  replace hv0 := hv0.below hb3
  replace hv1 := hv1.below hb3
  replace hbx0 := cell_below hbx0 hb3
  replace hb := hb.trans (hb3.mono hb.size)
  refine go ?_
  refine s_call1 (wn rfl) rfl rfl (toInt64SS_any _ _ _ hv1 hl1 hr1) ?_
  rintro t1 w4 ⟨ht1, hb4⟩
  have sz4 := hb4.size
  replace hv0 := hv0.below hb4
  replace hv1 := hv1.below hb4
  replace hbx0 := cell_below hbx0 hb4
  replace ht0 := ht0.below hb4
  replace hb := hb.trans (hb4.mono hb.size)
  refine go ?_
  refine s_call2 (wn rfl) rfl rfl rfl (specQuotientBy_any _ _ _ _ _ ht0.rl ht1.rl) ?_
  rintro _ w5 ⟨w0, rfl, hw0, hb5⟩
  have sz5 := hb5.size
  replace hv0 := hv0.below hb5
  replace hv1 := hv1.below hb5
  replace hbx0 := cell_below hbx0 hb5
  replace ht0 := ht0.below hb5
  replace ht1 := ht1.below hb5
  replace hb := hb.trans (hb5.mono hb.size)
  refine go ?_
  refine s_alloc (B := w5.heap.size) (wn rfl) rfl (Nat.le_refl _) (fun w6 pvw0 hxa hga hpa => ?_)
  have hba := below_of_grownBy hga
  refine go ?_
  refine s_storeBox (wn rfl) rfl rfl hw0.sv.one hxa (fun w7 hxb hgb => ?_)
  have hb7 := hba.trans (hxa.below_of hgb hba.size)
  have sz7 := hb7.size
  replace hv0 := hv0.below hb7
  replace hv1 := hv1.below hb7
  replace hbx0 := cell_below hbx0 hb7
  replace ht0 := ht0.below hb7
  replace ht1 := ht1.below hb7
  replace hw0 := hw0.below hb7
  replace hb := hb.trans (hb7.mono hb.size)
  have hcw0 := hxb.cell
  have hloww0 := hxb.low
  clear hxa hxb hga hgb hpa hba hb7
  clear ht0
  clear ht1
  have he0 : decide (qbL a0 a1 = qbL a0 a1) = true := decide_eq_true rfl
  have hn1 : ¬ (qbC a0 a1 ≠ qbC a0 a1) := fun h => h rfl
  have hq0 : decide (a0 = a0) = true := decide_eq_true rfl
  have hq1 : decide (a1 = a1) = true := decide_eq_true rfl
  replace hw0 := hw0.rl
  have hbS := Below.refl w7.heap.size w7
  have hvS0 := hv0
  have hbxS0 := hbx0
  have hvS1 := hv1
  have hwS0 := hw0
  have hcwS0 := hcw0
  refine go ?_
  refine s_call1 (wn rfl) rfl rfl (toManiplex_any _ _ _ hv0 hl0 hr0) ?_
  rintro _ w8 ⟨x0, rfl, hx0, hb8⟩
  have sz8 := hb8.size
  replace hv0 := hv0.below hb8
  replace hv1 := hv1.below hb8
  replace hbx0 := cell_below hbx0 hb8
  replace hw0 := hw0.below hb8
  replace hcw0 := cell_below hcw0 hb8
  replace hbS := hbS.trans (hb8.mono hbS.size)
  refine s_alloc (B := w8.heap.size) (wn rfl) rfl (Nat.le_refl _) (fun w9 px0 hxa hga hpa => ?_)
  have hba := below_of_grownBy hga
  refine go ?_
  refine s_storeBox (wn rfl) rfl rfl hx0.sv.one hxa (fun w10 hxb hgb => ?_)
  have hb10 := hba.trans (hxa.below_of hgb hba.size)
  have sz10 := hb10.size
  replace hv0 := hv0.below hb10
  replace hv1 := hv1.below hb10
  replace hbx0 := cell_below hbx0 hb10
  replace hw0 := hw0.below hb10
  replace hcw0 := cell_below hcw0 hb10
  replace hx0 := hx0.below hb10
  replace hbS := hbS.trans (hb10.mono hbS.size)
  have hc0x := hxb.cell
  have hlow0 := hxb.low
  clear hxa hxb hga hgb hpa hba hb10
  refine go ?_
  refine s_call1 (wn rfl) rfl rfl (toInt64SS_any _ _ _ hv1 hl1 hr1) ?_
  rintro x1 w11 ⟨hx1, hb11⟩
  have sz11 := hb11.size
  replace hv0 := hv0.below hb11
  replace hv1 := hv1.below hb11
  replace hbx0 := cell_below hbx0 hb11
  replace hw0 := hw0.below hb11
  replace hcw0 := cell_below hcw0 hb11
  replace hx0 := hx0.below hb11
  replace hc0x := cell_below hc0x hb11
  replace hbS := hbS.trans (hb11.mono hbS.size)
  refine go ?_
  refine s_call2 (wn rfl) rfl rfl rfl (implQuotientBy_any _ _ _ _ _ hx0.rl hx1.rl) ?_
  rintro _ w12 ⟨g0, rfl, hg0, hb12⟩
  have sz12 := hb12.size
  replace hv0 := hv0.below hb12
  replace hv1 := hv1.below hb12
  replace hbx0 := cell_below hbx0 hb12
  replace hw0 := hw0.below hb12
  replace hcw0 := cell_below hcw0 hb12
  replace hx0 := hx0.below hb12
  replace hc0x := cell_below hc0x hb12
  replace hx1 := hx1.below hb12
  replace hbS := hbS.trans (hb12.mono hbS.size)
  refine go ?_
  refine s_alloc (B := w12.heap.size) (wn rfl) rfl (Nat.le_refl _) (fun w13 pvg0 hxa hga hpa => ?_)
  have hba := below_of_grownBy hga
  refine go ?_
  refine s_storeBox (wn rfl) rfl rfl hg0.sv.one hxa (fun w14 hxb hgb => ?_)
  have hb14 := hba.trans (hxa.below_of hgb hba.size)
  have sz14 := hb14.size
  replace hv0 := hv0.below hb14
  replace hv1 := hv1.below hb14
  replace hbx0 := cell_below hbx0 hb14
  replace hw0 := hw0.below hb14
  replace hcw0 := cell_below hcw0 hb14
  replace hx0 := hx0.below hb14
  replace hc0x := cell_below hc0x hb14
  replace hx1 := hx1.below hb14
  replace hg0 := hg0.below hb14
  replace hbS := hbS.trans (hb14.mono hbS.size)
  have hcg0 := hxb.cell
  have hlowg0 := hxb.low
  clear hxa hxb hga hgb hpa hba hb14
  refine go ?_
  refine s_call2 (wn rfl) rfl rfl rfl (eqManiplex_any _ _ _ _ _ hg0.rl hw0) ?_
  rintro _ w15 ⟨rfl, hb15⟩
  have sz15 := hb15.size
  replace hv0 := hv0.below hb15
  replace hv1 := hv1.below hb15
  replace hbx0 := cell_below hbx0 hb15
  replace hw0 := hw0.below hb15
  replace hcw0 := cell_below hcw0 hb15
  replace hx0 := hx0.below hb15
  replace hc0x := cell_below hc0x hb15
  replace hx1 := hx1.below hb15
  replace hg0 := hg0.below hb15
  replace hcg0 := cell_below hcg0 hb15
  replace hbS := hbS.trans (hb15.mono hbS.size)
  refine go ?_
  refine region_h mixed (fun w16 hc16 => ?_)
  refine h_p 0 hc16 ?_
  refine h_p 1 hc16 ?_
  refine h_one 2 ?_
  refine s_call1 (wn rfl) rfl rfl (toManiplex_any _ _ _ (hv0.below hc16) hl0 hr0) ?_
  rintro _ w17 ⟨e0, rfl, he0, hb17⟩
  have hc17 := hc16.trans (hb17.mono hc16.size)
  refine w_nil ?_
  refine h_on ⟨hc17, ?_⟩
  refine h_one 3 ?_
  refine s_call2 (wn rfl) rfl rfl rfl (eqManiplex_any _ _ _ _ _ (hx0.below hc17).rl he0.rl) ?_
  rintro _ w18 ⟨rfl, hb18⟩
  have hc18 := hc17.trans (hb18.mono hc17.size)
  replace he0 := he0.below hb18
  refine w_nil ?_
  refine h_on ⟨hc18, ?_⟩
  refine h_p 4 hc18 ?_
  refine h_nil ?_
  have sz18 := hc18.size
  replace hv0 := hv0.below hc18
  replace hv1 := hv1.below hc18
  replace hbx0 := cell_below hbx0 hc18
  replace hw0 := hw0.below hc18
  replace hcw0 := cell_below hcw0 hc18
  replace hx0 := hx0.below hc18
  replace hc0x := cell_below hc0x hc18
  replace hx1 := hx1.below hc18
  replace hg0 := hg0.below hc18
  replace hcg0 := cell_below hcg0 hc18
  replace hbS := hbS.trans (hc18.mono hbS.size)
  refine go ?_
  refine s_call1 (wn rfl) rfl rfl (toInt64SS_any _ _ _ hv1 hl1 hr1) ?_
  rintro e1 w19 ⟨he1, hb19⟩
  have sz19 := hb19.size
  replace hv0 := hv0.below hb19
  replace hv1 := hv1.below hb19
  replace hbx0 := cell_below hbx0 hb19
  replace hw0 := hw0.below hb19
  replace hcw0 := cell_below hcw0 hb19
  replace hx0 := hx0.below hb19
  replace hc0x := cell_below hc0x hb19
  replace hx1 := hx1.below hb19
  replace hg0 := hg0.below hb19
  replace hcg0 := cell_below hcg0 hb19
  replace hbS := hbS.trans (hb19.mono hbS.size)
  refine go ?_
  refine s_call2 (wn rfl) rfl rfl rfl (eqInt64SS_any _ _ _ _ _ hx1.rl he1.rl) ?_
  rintro _ w20 ⟨rfl, hb20⟩
  have sz20 := hb20.size
  replace hv0 := hv0.below hb20
  replace hv1 := hv1.below hb20
  replace hbx0 := cell_below hbx0 hb20
  replace hw0 := hw0.below hb20
  replace hcw0 := cell_below hcw0 hb20
  replace hx0 := hx0.below hb20
  replace hc0x := cell_below hc0x hb20
  replace hx1 := hx1.below hb20
  replace hg0 := hg0.below hb20
  replace hcg0 := cell_below hcg0 hb20
  replace he1 := he1.below hb20
  replace hbS := hbS.trans (hb20.mono hbS.size)
  refine go ?_
  have htot0 := tot_le (c := 1048576) (fun xs hx => by have := hr0 xs hx; omega)
  have htn0 := tot_nonneg a0
  have hml0 : (a0.length : Int) * 1048576 ≤ 1048576 * 1048576 := Int.mul_le_mul_of_nonneg_right (by omega) (by omega)
  refine s_call2 (wn rfl) rfl rfl rfl (markManiplex_any _ _ _ _ _ _ hx0 (by omega) (by omega)) ?_
  rintro _ w21 ⟨rfl, hxm0, hbt⟩
  have sz21 := hbt.size
  clear hxm0 hx0
  replace hbS := hbS.trans ((hbt.below (by omega)).mono (by omega))
  replace hv0 := hvS0.below hbS
  replace hbx0 := cell_below hbxS0 hbS
  replace hv1 := hvS1.below hbS
  replace hx1 := hx1.btw hbt (by omega)
  replace hw0 := hwS0.below hbS
  replace hg0 := hg0.btw hbt (by omega)
  replace hcw0 := cell_below hcwS0 hbS
  replace hcg0 := cell_btw hcg0 hbt (.inr (by omega))
  clear hbt
  refine go ?_
  have htot1 := tot_le (c := 1048576) (fun xs hx => by have := hr1 xs hx; omega)
  have htn1 := tot_nonneg a1
  have hml1 : (a1.length : Int) * 1048576 ≤ 1048576 * 1048576 := Int.mul_le_mul_of_nonneg_right (by omega) (by omega)
  refine s_call2 (wn rfl) rfl rfl rfl (markInt64SS_any _ _ _ _ _ _ hx1 (by omega) (by omega)) ?_
  rintro _ w22 ⟨rfl, hxm1, hbt⟩
  have sz22 := hbt.size
  clear hxm1 hx1
  replace hbS := hbS.trans ((hbt.below (by omega)).mono (by omega))
  replace hv0 := hvS0.below hbS
  replace hbx0 := cell_below hbxS0 hbS
  replace hv1 := hvS1.below hbS
  replace hw0 := hwS0.below hbS
  replace hg0 := hg0.btw hbt (by omega)
  replace hcw0 := cell_below hcwS0 hbS
  replace hcg0 := cell_btw hcg0 hbt (.inr (by omega))
  clear hbt
  have htt0 := tot_nonneg a0
  have htt1 := tot_nonneg a1
  have hk0 : ¬ (1 + tot a0 + tot a1 < 0) := by omega
  refine go ?_
  refine s_call2 (wy rfl rfl rfl rfl rfl known) rfl rfl rfl (eqManiplex_any _ _ _ _ _ hg0.rl hw0) ?_
  rintro _ w23 ⟨rfl, hb23⟩
  have sz23 := hb23.size
  replace hv0 := hv0.below hb23
  replace hv1 := hv1.below hb23
  replace hbx0 := cell_below hbx0 hb23
  replace hw0 := hw0.below hb23
  replace hcw0 := cell_below hcw0 hb23
  replace hg0 := hg0.below hb23
  replace hcg0 := cell_below hcg0 hb23
  replace hbS := hbS.trans (hb23.mono hbS.size)
  refine go ?_
  have hlen0 : 1 + tot (qbL a0 a1) ≤ 4000000000000000000 := qbL_len a0 a1
  have htn_0 := tot_nonneg (qbL a0 a1)
  refine s_call2 (wn rfl) rfl rfl rfl (markManiplex_any _ _ _ _ _ _ hg0 (by omega) hlen0) ?_
  rintro _ w24 ⟨rfl, hgm0, hbt⟩
  have sz24 := hbt.size
  replace hbS := hbS.trans ((hbt.below (by omega)).mono (by omega))
  replace hv0 := hvS0.below hbS
  replace hbx0 := cell_below hbxS0 hbS
  replace hv1 := hvS1.below hbS
  replace hw0 := hwS0.below hbS
  replace hcw0 := cell_below hcwS0 hbS
  replace hcg0 := cell_btw hcg0 hbt (.inr (by omega))
  clear hbt hg0
  have hm0 : ¬ (1 + tot (qbL a0 a1) < 0) := by omega
  have hm1 : ¬ (1 + tot (qbL a0 a1) ≠ 1 + tot (qbL a0 a1)) := fun h => h rfl
  refine go ?_
  refine s_call2 (wn rfl) rfl rfl rfl (heldManiplex_any _ _ _ _ hgm0.rl (by omega) hlen0) ?_
  rintro _ w25 ⟨rfl, hb25⟩
  have sz25 := hb25.size
  replace hv0 := hv0.below hb25
  replace hv1 := hv1.below hb25
  replace hbx0 := cell_below hbx0 hb25
  replace hw0 := hw0.below hb25
  replace hcw0 := cell_below hcw0 hb25
  replace hcg0 := cell_below hcg0 hb25
  replace hgm0 := hgm0.below hb25
  replace hbS := hbS.trans (hb25.mono hbS.size)
  refine go ?_
  refine s_call1 (wn rfl) rfl rfl (toManiplex_any _ _ _ hv0 hl0 hr0) ?_
  rintro _ w26 ⟨y0, rfl, hy0, hb26⟩
  have sz26 := hb26.size
  replace hv0 := hv0.below hb26
  replace hv1 := hv1.below hb26
  replace hbx0 := cell_below hbx0 hb26
  replace hw0 := hw0.below hb26
  replace hcw0 := cell_below hcw0 hb26
  replace hcg0 := cell_below hcg0 hb26
  replace hgm0 := hgm0.below hb26
  replace hbS := hbS.trans (hb26.mono hbS.size)
  refine go ?_
  refine s_call1 (wn rfl) rfl rfl (toInt64SS_any _ _ _ hv1 hl1 hr1) ?_
  rintro y1 w27 ⟨hy1, hb27⟩
  have sz27 := hb27.size
  replace hv0 := hv0.below hb27
  replace hv1 := hv1.below hb27
  replace hbx0 := cell_below hbx0 hb27
  replace hw0 := hw0.below hb27
  replace hcw0 := cell_below hcw0 hb27
  replace hcg0 := cell_below hcg0 hb27
  replace hgm0 := hgm0.below hb27
  replace hy0 := hy0.below hb27
  replace hbS := hbS.trans (hb27.mono hbS.size)
  refine go ?_
  refine s_call2 (wn rfl) rfl rfl rfl (implQuotientBy_any _ _ _ _ _ hy0.rl hy1.rl) ?_
  rintro _ w28 ⟨h0, rfl, hh0, hb28⟩
  have sz28 := hb28.size
  replace hv0 := hv0.below hb28
  replace hv1 := hv1.below hb28
  replace hbx0 := cell_below hbx0 hb28
  replace hw0 := hw0.below hb28
  replace hcw0 := cell_below hcw0 hb28
  replace hcg0 := cell_below hcg0 hb28
  replace hgm0 := hgm0.below hb28
  replace hy0 := hy0.below hb28
  replace hy1 := hy1.below hb28
  replace hbS := hbS.trans (hb28.mono hbS.size)
  refine go ?_
  refine s_alloc (B := w28.heap.size) (wn rfl) rfl (Nat.le_refl _) (fun w29 pvh0 hxa hga hpa => ?_)
  have hba := below_of_grownBy hga
  refine go ?_
  refine s_storeBox (wn rfl) rfl rfl hh0.sv.one hxa (fun w30 hxb hgb => ?_)
  have hb30 := hba.trans (hxa.below_of hgb hba.size)
  have sz30 := hb30.size
  replace hv0 := hv0.below hb30
  replace hv1 := hv1.below hb30
  replace hbx0 := cell_below hbx0 hb30
  replace hw0 := hw0.below hb30
  replace hcw0 := cell_below hcw0 hb30
  replace hcg0 := cell_below hcg0 hb30
  replace hgm0 := hgm0.below hb30
  replace hy0 := hy0.below hb30
  replace hy1 := hy1.below hb30
  replace hh0 := hh0.below hb30
  replace hbS := hbS.trans (hb30.mono hbS.size)
  have hch0 := hxb.cell
  have hlowh0 := hxb.low
  clear hxa hxb hga hgb hpa hba hb30
  refine go ?_
  refine s_call2 (wn rfl) rfl rfl rfl (eqManiplex_any _ _ _ _ _ hh0.rl hw0) ?_
  rintro _ w31 ⟨rfl, hb31⟩
  have sz31 := hb31.size
  replace hv0 := hv0.below hb31
  replace hv1 := hv1.below hb31
  replace hbx0 := cell_below hbx0 hb31
  replace hw0 := hw0.below hb31
  replace hcw0 := cell_below hcw0 hb31
  replace hcg0 := cell_below hcg0 hb31
  replace hgm0 := hgm0.below hb31
  replace hy0 := hy0.below hb31
  replace hy1 := hy1.below hb31
  replace hh0 := hh0.below hb31
  replace hch0 := cell_below hch0 hb31
  replace hbS := hbS.trans (hb31.mono hbS.size)
  refine go ?_
  refine s_call2 (wn rfl) rfl rfl rfl (heldManiplex_any _ _ _ _ hgm0.rl (by omega) hlen0) ?_
  rintro _ w32 ⟨rfl, hb32⟩
  have sz32 := hb32.size
  replace hv0 := hv0.below hb32
  replace hv1 := hv1.below hb32
  replace hbx0 := cell_below hbx0 hb32
  replace hw0 := hw0.below hb32
  replace hcw0 := cell_below hcw0 hb32
  replace hcg0 := cell_below hcg0 hb32
  replace hgm0 := hgm0.below hb32
  replace hy0 := hy0.below hb32
  replace hy1 := hy1.below hb32
  replace hh0 := hh0.below hb32
  replace hch0 := cell_below hch0 hb32
  replace hbS := hbS.trans (hb32.mono hbS.size)
  refine go ?_
  exact end_one Try.results9 rfl ⟨rfl, hb.trans (hbS.mono hb.size)⟩

set_option maxRecDepth 100000 in
theorem liftedQuotientBy (os : Os) (started : os.Started) (H : Type) (enc : TypeId × Value → H) :
    ReturnsInHanded {} Try.checked os 9 .any (Rows.fnExactQuotientBySpec.pre6 enc Try.prog Try.f9 Rows.fnExactQuotientByRow.domain false) (Rows.fnExactQuotientBySpec.post enc Try.prog Try.f9 false true false false) := by
  refine returnsInHanded_of_change (C := Try.checked) own started (by kernel_rfl) Try.func9
    (ChangeSpec.witness6 (enc := enc) (C := Try.checked) false ⟨#[], #[.agg #[.slice none 0 0], .slice none 0 0], []⟩ 8 (by kernel_rfl) (by kernel_rfl) (by kernel_rfl) (by kernel_rfl)) ?_
  intro W base args ds gs before hval0 hW hcnd _
  have hval : ∀ (j : Nat) t v, Try.f9.params[j]? = some t → args[j]? = some v → Value.okWide Try.prog W .any base t v := hval0
  have hW' := hW
  obtain ⟨p, q, hA0, hV, rfl, hfz, hnd⟩ := hW
  have hA : DataW.TrodAll enc Try.prog W 0 (fun _ => true) true Try.f9.params.toList args.toList ds p := hA0
  rw [Try.params9] at hA hval
  obtain ⟨v0, vs0, d0, ds0, p0, q0, hargs, rfl, rfl, h0, r0⟩ := trodAll_cons hA
  obtain ⟨v1, vs1, d1, ds1, p1, q1, rfl, rfl, rfl, h1, r1⟩ := trodAll_cons r0
  obtain ⟨rfl, rfl, rfl⟩ := trodAll_nil r1
  obtain rfl : args = #[v0, v1] := by cases args; simp_all
  obtain ⟨rfl, rfl⟩ := trodVars_none hV
  have lt0 : ∀ x ∈ p0, x.block < W.heap.size := by obtain ⟨m, hm⟩ := h0; exact DataW.trod_lt m _ _ _ hm
  have lt1 : ∀ x ∈ p1, x.block < W.heap.size := by obtain ⟨m, hm⟩ := h1; exact DataW.trod_lt m _ _ _ hm
  obtain ⟨u0, xss0, rfl, hu0⟩ := open_arg (hval 0 24 v0 rfl rfl) h0
  obtain ⟨xss1, hu1⟩ := open_arg_R (hval 1 22 v1 rfl rfl) h1
  clear hA0 hval0
  refine Calls.mono (lawQuotientBy_any u0 v1 xss0 xss1 W hu0 hu1) fun e W' ⟨v, he, hv, bel⟩ => ?_
  subst he
  subst hv
  exact ⟨_, rfl, _, _, _, [], _, [], hW', trodAll_mk1 (shut_bool Try.underlying4 _), (trodAll_cons_mk (Below.trod laidOut (by kernel_rfl) (of_decide_eq_true (by kernel_rfl)) h0 bel lt0) (trodAll_cons_mk (Below.trod laidOut (by kernel_rfl) (of_decide_eq_true (by kernel_rfl)) h1 bel lt1) trodAll_mk0)), rfl, bel.frame _, fun h => by cases h⟩

theorem provedQuotientBy : Rows.FnExactQuotientBySaid :=
  OpenClaim.holds_of_wide 9 Try.f9 rfl rfl rfl rfl rfl rfl rfl ⟨rfl, rfl, rfl, rfl, rfl⟩ rfl rfl rfl rfl rfl (by kernel_rfl) Try.func9 (by kernel_rfl)
    (of_decide_eq_true (by kernel_rfl)) (by unfold Func.isWrapper; first | (rw [if_pos (by decide +kernel)]; kernel_rfl) | (rw [if_neg (by decide +kernel)]; exact ⟨rfl, rfl⟩))
    (fun os started H enc _ => liftedQuotientBy os started H enc)
end Go.Proofs.Ytdmjpbmhohanbaa
