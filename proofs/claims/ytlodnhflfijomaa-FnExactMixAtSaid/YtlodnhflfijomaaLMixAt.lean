/- The law of MixAt, for all arguments: its walk and its row. No conditions. -/
import Derived.Test.YtlodnhflfijomaaF59
import Derived.Test.YtlodnhflfijomaaFB
import Derived.Test.YtlodnhflfijomaaF34
import Derived.Test.YtlodnhflfijomaaRA
import Derived.WalkKit
import Derived.ShutString
namespace Go.Proofs.Ytlodnhflfijomaa
open Go.Mem Go.ChangeShapes Go.WideShapes Go.ChangeAt Go.RowKit
set_option linter.unusedVariables false
set_option linter.unusedSimpArgs false

set_option maxHeartbeats 16000000 in
set_option maxRecDepth 100000 in
theorem lawMixAt_any (v0 v2 : Value) (a0 : List (List Int)) (a1 : Int) (a2 : List (List Int)) (a3 : Int) (w : World) (hv0 : RL w v0 a0) (hv2 : RL w v2 a2) :
    Ret Try.prog 4 #[.agg #[v0], .int .i64 a1, .agg #[v2], .int .i64 a3] w fun r w' => r = .bool true ∧ Below w.heap.size w w' := by
  have sv0 := hv0.sv
  have sv2 := hv2.sv
  have hb := Below.refl w.heap.size w
  refine enter4 129 Try.func4 rfl Try.ntmps4 rfl (fun fr => ?_)
  refine go ?_
  refine s_box (wn rfl) rfl rfl (agg_cells sv0) (fun w1 hbx0 _ hp hg => ?_)
  have hb1 := below_of_grownBy hg
  have sz1 := hb1.size
  replace hv0 := hv0.below hb1
  replace hv2 := hv2.below hb1
  replace hb := hb.trans (hb1.mono hb.size)
  clear hg hp hb1
  generalize (⟨w.heap.size, 0, none⟩ : Addr) = p0 at *
  refine go ?_
  refine s_box (wn rfl) rfl rfl (agg_cells sv2) (fun w2 hbx2 _ hp hg => ?_)
  have hb2 := below_of_grownBy hg
  have sz2 := hb2.size
  replace hv0 := hv0.below hb2
  replace hv2 := hv2.below hb2
  replace hbx0 := cell_below hbx0 hb2
  replace hb := hb.trans (hb2.mono hb.size)
  clear hg hp hb2
  generalize (⟨w1.heap.size, 0, none⟩ : Addr) = p2 at *
  refine go ?_
  refine s_call2 (wn rfl) rfl rfl rfl (szManiplex_any _ _ _ _ hv0 (by omega)) ?_
  rintro _ w3 ⟨⟨z1, rfl, hz1⟩, hb3⟩
  have sz3 := hb3.size
  replace hv0 := hv0.below hb3
  replace hv2 := hv2.below hb3
  replace hbx0 := cell_below hbx0 hb3
  replace hbx2 := cell_below hbx2 hb3
  replace hb := hb.trans (hb3.mono hb.size)
  refine go ?_
  refine cond_dec rfl (fun h => ?_) (fun h => ?_)
  · refine go ?_
    exact end_one Try.results4 rfl ⟨rfl, hb⟩
  have hz1a := hz1.hi
  have hz1b : 0 ≤ z1 := by omega
  obtain ⟨hl0', hr0'⟩ := hz1.all (by omega)
  have hl0 : a0.length ≤ 1048576 := by omega
  have hr0 : ∀ xs ∈ a0, xs.length ≤ 1048576 := fun xs hx => by have := hr0' xs hx; omega
  clear hl0' hr0' h
  refine go ?_
  refine s_call2 (wn rfl) rfl rfl rfl (szManiplex_any _ _ _ _ hv2 (by omega)) ?_
  rintro _ w4 ⟨⟨z2, rfl, hz2⟩, hb4⟩
  have sz4 := hb4.size
  replace hv0 := hv0.below hb4
  replace hv2 := hv2.below hb4
  replace hbx0 := cell_below hbx0 hb4
  replace hbx2 := cell_below hbx2 hb4
  replace hb := hb.trans (hb4.mono hb.size)
  refine go ?_
  refine cond_dec rfl (fun h => ?_) (fun h => ?_)
  · refine go ?_
    exact end_one Try.results4 rfl ⟨rfl, hb⟩
  have hz2a := hz2.hi
  have hz2b : 0 ≤ z2 := by omega
  obtain ⟨hl2', hr2'⟩ := hz2.all (by omega)
  have hl2 : a2.length ≤ 1048576 := by omega
  have hr2 : ∀ xs ∈ a2, xs.length ≤ 1048576 := fun xs hx => by have := hr2' xs hx; omega
  clear hl2' hr2' h
  refine go ?_
  refine meet (fun r w' => ∃ (pvw0 : Addr) (w0 : Value) (Bw Ew : Nat), r 4 = .pointer (some p0) ∧ r 6 = .pointer (some p2) ∧ r 1 = .int .i64 a1 ∧ r 3 = .int .i64 a3 ∧ r 10 = .pointer (some pvw0) ∧ r 11 = .int .i64 (mixC a0 a2 a1 a3) ∧ OM w' Bw Ew 40 2 w0 (mixL a0 a2 a1 a3) ∧ w'.cell? pvw0 = some w0 ∧ Below w4.heap.size w4 w') ?_ ?_
  · refine region_h mixed (fun wR cr => ?_)
    refine h_p 0 cr ?_
    refine h_p 2 cr ?_
    refine h_p 3 cr ?_
    refine h_p 5 cr ?_
    refine h_two 1 10 ?_ ?_
    · refine s_call1 (wn rfl) rfl rfl (toManiplex_any _ _ _ (hv0.below cr) hl0 hr0) ?_
      rintro _ wC ⟨t0, rfl, ht0, hbn⟩
      replace cr := cr.trans (hbn.mono cr.size)
      clear hbn
      refine w_nil ?_
      refine h_on ⟨cr, ?_⟩
      refine h_two 4 10 ?_ ?_
      · refine s_call1 (wn rfl) rfl rfl (toManiplex_any _ _ _ (hv2.below cr) hl2 hr2) ?_
        rintro _ wC ⟨t2, rfl, ht2, hbn⟩
        replace cr := cr.trans (hbn.mono cr.size)
        replace ht0 := ht0.below hbn
        clear hbn
        refine w_nil ?_
        refine h_on ⟨cr, ?_⟩
        refine h_two 6 10 ?_ ?_
        · refine s_call4 (wn rfl) rfl rfl rfl rfl rfl (specMixAt_any _ _ _ _ _ _ _ ht0.rl ht2.rl) ?_
          rintro _ wF ⟨w0, rfl, hR, hbn⟩
          replace cr := cr.trans (hbn.mono cr.size)
          replace ht0 := ht0.below hbn
          replace ht2 := ht2.below hbn
          clear hbn
          refine w_nil ?_
          refine h_on ⟨cr, ?_⟩
          refine h_p 7 cr ?_
          refine h_p 8 cr ?_
          refine h_p 9 cr ?_
          refine h_one 10 ?_
          refine s_alloc (B := w4.heap.size) (wn rfl) rfl cr.size (fun wA pvw0 hxa hga _ => ?_)
          have hbn := below_of_grownBy hga
          replace cr := cr.trans (hbn.mono cr.size)
          replace ht0 := ht0.below hbn
          replace ht2 := ht2.below hbn
          replace hR := hR.below hbn
          clear hbn
          refine w_nil ?_
          refine h_on ⟨cr, ?_⟩
          refine h_one 11 ?_
          refine s_storeBox (wn rfl) rfl rfl hR.sv.one hxa (fun wS hxN hgS => ?_)
          replace cr := cr.trans (hxa.below_of hgS cr.size)
          replace hR := hR.box hxa (by decide) (by decide) hgS
          replace hxa := hxN
          clear hxN hgS
          refine w_nil ?_
          refine h_on ⟨cr, ?_⟩
          refine h_p 12 cr ?_
          refine h_nil ?_
          exact ⟨_, _, _, _, rfl, rfl, rfl, rfl, rfl, rfl, hR, hxa.cell, cr⟩
        · refine s_alloc (B := w4.heap.size) (wn rfl) rfl cr.size (fun wA pvw0 hxa hga _ => ?_)
          have hbn := below_of_grownBy hga
          replace cr := cr.trans (hbn.mono cr.size)
          replace ht0 := ht0.below hbn
          replace ht2 := ht2.below hbn
          clear hbn
          refine w_nil ?_
          refine h_on ⟨cr, ?_⟩
          refine h_one 6 ?_
          refine s_call4 (wn rfl) rfl rfl rfl rfl rfl (specMixAt_any _ _ _ _ _ _ _ ht0.rl ht2.rl) ?_
          rintro _ wF ⟨w0, rfl, hR, hbn⟩
          replace cr := cr.trans (hbn.mono cr.size)
          replace ht0 := ht0.below hbn
          replace ht2 := ht2.below hbn
          replace hxa := hxa.below hbn
          clear hbn
          refine w_nil ?_
          refine h_on ⟨cr, ?_⟩
          refine h_p 7 cr ?_
          refine h_p 8 cr ?_
          refine h_p 9 cr ?_
          refine h_one 11 ?_
          refine s_storeBox (wn rfl) rfl rfl hR.sv.one hxa (fun wS hxN hgS => ?_)
          replace cr := cr.trans (hxa.below_of hgS cr.size)
          replace hR := hR.box hxa (by decide) (by decide) hgS
          replace hxa := hxN
          clear hxN hgS
          refine w_nil ?_
          refine h_on ⟨cr, ?_⟩
          refine h_p 12 cr ?_
          refine h_nil ?_
          exact ⟨_, _, _, _, rfl, rfl, rfl, rfl, rfl, rfl, hR, hxa.cell, cr⟩
      · refine s_alloc (B := w4.heap.size) (wn rfl) rfl cr.size (fun wA pvw0 hxa hga _ => ?_)
        have hbn := below_of_grownBy hga
        replace cr := cr.trans (hbn.mono cr.size)
        replace ht0 := ht0.below hbn
        clear hbn
        refine w_nil ?_
        refine h_on ⟨cr, ?_⟩
        refine h_one 4 ?_
        refine s_call1 (wn rfl) rfl rfl (toManiplex_any _ _ _ (hv2.below cr) hl2 hr2) ?_
        rintro _ wC ⟨t2, rfl, ht2, hbn⟩
        replace cr := cr.trans (hbn.mono cr.size)
        replace ht0 := ht0.below hbn
        replace hxa := hxa.below hbn
        clear hbn
        refine w_nil ?_
        refine h_on ⟨cr, ?_⟩
        refine h_one 6 ?_
        refine s_call4 (wn rfl) rfl rfl rfl rfl rfl (specMixAt_any _ _ _ _ _ _ _ ht0.rl ht2.rl) ?_
        rintro _ wF ⟨w0, rfl, hR, hbn⟩
        replace cr := cr.trans (hbn.mono cr.size)
        replace ht0 := ht0.below hbn
        replace hxa := hxa.below hbn
        replace ht2 := ht2.below hbn
        clear hbn
        refine w_nil ?_
        refine h_on ⟨cr, ?_⟩
        refine h_p 7 cr ?_
        refine h_p 8 cr ?_
        refine h_p 9 cr ?_
        refine h_one 11 ?_
        refine s_storeBox (wn rfl) rfl rfl hR.sv.one hxa (fun wS hxN hgS => ?_)
        replace cr := cr.trans (hxa.below_of hgS cr.size)
        replace hR := hR.box hxa (by decide) (by decide) hgS
        replace hxa := hxN
        clear hxN hgS
        refine w_nil ?_
        refine h_on ⟨cr, ?_⟩
        refine h_p 12 cr ?_
        refine h_nil ?_
        exact ⟨_, _, _, _, rfl, rfl, rfl, rfl, rfl, rfl, hR, hxa.cell, cr⟩
    · refine s_alloc (B := w4.heap.size) (wn rfl) rfl cr.size (fun wA pvw0 hxa hga _ => ?_)
      have hbn := below_of_grownBy hga
      replace cr := cr.trans (hbn.mono cr.size)
      clear hbn
      refine w_nil ?_
      refine h_on ⟨cr, ?_⟩
      refine h_one 1 ?_
      refine s_call1 (wn rfl) rfl rfl (toManiplex_any _ _ _ (hv0.below cr) hl0 hr0) ?_
      rintro _ wC ⟨t0, rfl, ht0, hbn⟩
      replace cr := cr.trans (hbn.mono cr.size)
      replace hxa := hxa.below hbn
      clear hbn
      refine w_nil ?_
      refine h_on ⟨cr, ?_⟩
      refine h_one 4 ?_
      refine s_call1 (wn rfl) rfl rfl (toManiplex_any _ _ _ (hv2.below cr) hl2 hr2) ?_
      rintro _ wC ⟨t2, rfl, ht2, hbn⟩
      replace cr := cr.trans (hbn.mono cr.size)
      replace hxa := hxa.below hbn
      replace ht0 := ht0.below hbn
      clear hbn
      refine w_nil ?_
      refine h_on ⟨cr, ?_⟩
      refine h_one 6 ?_
      refine s_call4 (wn rfl) rfl rfl rfl rfl rfl (specMixAt_any _ _ _ _ _ _ _ ht0.rl ht2.rl) ?_
      rintro _ wF ⟨w0, rfl, hR, hbn⟩
      replace cr := cr.trans (hbn.mono cr.size)
      replace hxa := hxa.below hbn
      replace ht0 := ht0.below hbn
      replace ht2 := ht2.below hbn
      clear hbn
      refine w_nil ?_
      refine h_on ⟨cr, ?_⟩
      refine h_p 7 cr ?_
      refine h_p 8 cr ?_
      refine h_p 9 cr ?_
      refine h_one 11 ?_
      refine s_storeBox (wn rfl) rfl rfl hR.sv.one hxa (fun wS hxN hgS => ?_)
      replace cr := cr.trans (hxa.below_of hgS cr.size)
      replace hR := hR.box hxa (by decide) (by decide) hgS
      replace hxa := hxN
      clear hxN hgS
      refine w_nil ?_
      refine h_on ⟨cr, ?_⟩
      refine h_p 12 cr ?_
      refine h_nil ?_
      exact ⟨_, _, _, _, rfl, rfl, rfl, rfl, rfl, rfl, hR, hxa.cell, cr⟩
  rintro r w5 ⟨pvw0, w0, Bw, Ew, fk0, fk1, fk2, fk3, fk4, fk5, hw0, hcw0, hbJ⟩
  have sz5 := hbJ.size
  replace hv0 := hv0.below hbJ
  replace hv2 := hv2.below hbJ
  replace hbx0 := cell_below hbx0 hbJ
  replace hbx2 := cell_below hbx2 hbJ
  replace hb := hb.trans (hbJ.mono hb.size)
  clear hbJ
  refine know (t := 4) fk0 ?_; refine know (t := 6) fk1 ?_; refine know (t := 1) fk2 ?_; refine know (t := 3) fk3 ?_; refine know (t := 10) fk4 ?_; refine know (t := 11) fk5 ?_
  have he0 : decide (mixL a0 a2 a1 a3 = mixL a0 a2 a1 a3) = true := decide_eq_true rfl
  have hn1 : ¬ (mixC a0 a2 a1 a3 ≠ mixC a0 a2 a1 a3) := fun h => h rfl
  have hq0 : decide (a0 = a0) = true := decide_eq_true rfl
  have hq2 : decide (a2 = a2) = true := decide_eq_true rfl
  replace hw0 := hw0.rl
  have hbS := Below.refl w5.heap.size w5
  have hvS0 := hv0
  have hbxS0 := hbx0
  have hvS2 := hv2
  have hbxS2 := hbx2
  have hwS0 := hw0
  have hcwS0 := hcw0
  refine go ?_
  refine s_call1 (wn rfl) rfl rfl (toManiplex_any _ _ _ hv0 hl0 hr0) ?_
  rintro _ w6 ⟨x0, rfl, hx0, hb6⟩
  have sz6 := hb6.size
  replace hv0 := hv0.below hb6
  replace hv2 := hv2.below hb6
  replace hbx0 := cell_below hbx0 hb6
  replace hbx2 := cell_below hbx2 hb6
  replace hw0 := hw0.below hb6
  replace hcw0 := cell_below hcw0 hb6
  replace hbS := hbS.trans (hb6.mono hbS.size)
  refine s_alloc (B := w6.heap.size) (wn rfl) rfl (Nat.le_refl _) (fun w7 px0 hxa hga hpa => ?_)
  have hba := below_of_grownBy hga
  refine go ?_
  refine s_storeBox (wn rfl) rfl rfl hx0.sv.one hxa (fun w8 hxb hgb => ?_)
  have hb8 := hba.trans (hxa.below_of hgb hba.size)
  have sz8 := hb8.size
  replace hv0 := hv0.below hb8
  replace hv2 := hv2.below hb8
  replace hbx0 := cell_below hbx0 hb8
  replace hbx2 := cell_below hbx2 hb8
  replace hw0 := hw0.below hb8
  replace hcw0 := cell_below hcw0 hb8
  replace hx0 := hx0.below hb8
  replace hbS := hbS.trans (hb8.mono hbS.size)
  have hc0x := hxb.cell
  have hlow0 := hxb.low
  clear hxa hxb hga hgb hpa hba hb8
  refine go ?_
  refine s_call1 (wn rfl) rfl rfl (toManiplex_any _ _ _ hv2 hl2 hr2) ?_
  rintro _ w9 ⟨x2, rfl, hx2, hb9⟩
  have sz9 := hb9.size
  replace hv0 := hv0.below hb9
  replace hv2 := hv2.below hb9
  replace hbx0 := cell_below hbx0 hb9
  replace hbx2 := cell_below hbx2 hb9
  replace hw0 := hw0.below hb9
  replace hcw0 := cell_below hcw0 hb9
  replace hx0 := hx0.below hb9
  replace hc0x := cell_below hc0x hb9
  replace hbS := hbS.trans (hb9.mono hbS.size)
  refine s_alloc (B := w9.heap.size) (wn rfl) rfl (Nat.le_refl _) (fun w10 px2 hxa hga hpa => ?_)
  have hba := below_of_grownBy hga
  refine go ?_
  refine s_storeBox (wn rfl) rfl rfl hx2.sv.one hxa (fun w11 hxb hgb => ?_)
  have hb11 := hba.trans (hxa.below_of hgb hba.size)
  have sz11 := hb11.size
  replace hv0 := hv0.below hb11
  replace hv2 := hv2.below hb11
  replace hbx0 := cell_below hbx0 hb11
  replace hbx2 := cell_below hbx2 hb11
  replace hw0 := hw0.below hb11
  replace hcw0 := cell_below hcw0 hb11
  replace hx0 := hx0.below hb11
  replace hc0x := cell_below hc0x hb11
  replace hx2 := hx2.below hb11
  replace hbS := hbS.trans (hb11.mono hbS.size)
  have hc2x := hxb.cell
  have hlow2 := hxb.low
  clear hxa hxb hga hgb hpa hba hb11
  refine go ?_
  refine s_call4 (wn rfl) rfl rfl rfl rfl rfl (implMixAt_any _ _ _ _ _ _ _ hx0.rl hx2.rl) ?_
  rintro _ w12 ⟨g0, rfl, hg0, hb12⟩
  have sz12 := hb12.size
  replace hv0 := hv0.below hb12
  replace hv2 := hv2.below hb12
  replace hbx0 := cell_below hbx0 hb12
  replace hbx2 := cell_below hbx2 hb12
  replace hw0 := hw0.below hb12
  replace hcw0 := cell_below hcw0 hb12
  replace hx0 := hx0.below hb12
  replace hc0x := cell_below hc0x hb12
  replace hx2 := hx2.below hb12
  replace hc2x := cell_below hc2x hb12
  replace hbS := hbS.trans (hb12.mono hbS.size)
  refine go ?_
  refine s_alloc (B := w12.heap.size) (wn rfl) rfl (Nat.le_refl _) (fun w13 pvg0 hxa hga hpa => ?_)
  have hba := below_of_grownBy hga
  refine go ?_
  refine s_storeBox (wn rfl) rfl rfl hg0.sv.one hxa (fun w14 hxb hgb => ?_)
  have hb14 := hba.trans (hxa.below_of hgb hba.size)
  have sz14 := hb14.size
  replace hv0 := hv0.below hb14
  replace hv2 := hv2.below hb14
  replace hbx0 := cell_below hbx0 hb14
  replace hbx2 := cell_below hbx2 hb14
  replace hw0 := hw0.below hb14
  replace hcw0 := cell_below hcw0 hb14
  replace hx0 := hx0.below hb14
  replace hc0x := cell_below hc0x hb14
  replace hx2 := hx2.below hb14
  replace hc2x := cell_below hc2x hb14
  replace hg0 := hg0.below hb14
  replace hbS := hbS.trans (hb14.mono hbS.size)
  have hcg0 := hxb.cell
  have hlowg0 := hxb.low
  clear hxa hxb hga hgb hpa hba hb14
  refine go ?_
  refine s_call2 (wn rfl) rfl rfl rfl (eqManiplex_any _ _ _ _ _ hg0.rl hw0) ?_
  rintro _ w15 ⟨rfl, hb15⟩
  have sz15 := hb15.size
  replace hv0 := hv0.below hb15
  replace hv2 := hv2.below hb15
  replace hbx0 := cell_below hbx0 hb15
  replace hbx2 := cell_below hbx2 hb15
  replace hw0 := hw0.below hb15
  replace hcw0 := cell_below hcw0 hb15
  replace hx0 := hx0.below hb15
  replace hc0x := cell_below hc0x hb15
  replace hx2 := hx2.below hb15
  replace hc2x := cell_below hc2x hb15
  replace hg0 := hg0.below hb15
  replace hcg0 := cell_below hcg0 hb15
  replace hbS := hbS.trans (hb15.mono hbS.size)
  refine go ?_
  refine region_h mixed (fun w16 hc16 => ?_)
  refine h_p 0 hc16 ?_
  refine h_p 1 hc16 ?_
  refine h_one 2 ?_
  refine s_call1 (wn rfl) rfl rfl (toManiplex_any _ _ _ (hv0.below hc16) hl0 hr0) ?_
  rintro _ w17 ⟨e0, rfl, he0, hb17⟩
  have hc17 := hc16.trans (hb17.mono hc16.size)
  refine w_nil ?_
  refine h_on ⟨hc17, ?_⟩
  refine h_one 3 ?_
  refine s_call2 (wn rfl) rfl rfl rfl (eqManiplex_any _ _ _ _ _ (hx0.below hc17).rl he0.rl) ?_
  rintro _ w18 ⟨rfl, hb18⟩
  have hc18 := hc17.trans (hb18.mono hc17.size)
  replace he0 := he0.below hb18
  refine w_nil ?_
  refine h_on ⟨hc18, ?_⟩
  refine h_p 4 hc18 ?_
  refine h_nil ?_
  have sz18 := hc18.size
  replace hv0 := hv0.below hc18
  replace hv2 := hv2.below hc18
  replace hbx0 := cell_below hbx0 hc18
  replace hbx2 := cell_below hbx2 hc18
  replace hw0 := hw0.below hc18
  replace hcw0 := cell_below hcw0 hc18
  replace hx0 := hx0.below hc18
  replace hc0x := cell_below hc0x hc18
  replace hx2 := hx2.below hc18
  replace hc2x := cell_below hc2x hc18
  replace hg0 := hg0.below hc18
  replace hcg0 := cell_below hcg0 hc18
  replace hbS := hbS.trans (hc18.mono hbS.size)
  refine go ?_
  refine region_h mixed (fun w19 hc19 => ?_)
  refine h_p 0 hc19 ?_
  refine h_p 1 hc19 ?_
  refine h_one 2 ?_
  refine s_call1 (wn rfl) rfl rfl (toManiplex_any _ _ _ (hv2.below hc19) hl2 hr2) ?_
  rintro _ w20 ⟨e2, rfl, he2, hb20⟩
  have hc20 := hc19.trans (hb20.mono hc19.size)
  refine w_nil ?_
  refine h_on ⟨hc20, ?_⟩
  refine h_one 3 ?_
  refine s_call2 (wn rfl) rfl rfl rfl (eqManiplex_any _ _ _ _ _ (hx2.below hc20).rl he2.rl) ?_
  rintro _ w21 ⟨rfl, hb21⟩
  have hc21 := hc20.trans (hb21.mono hc20.size)
  replace he2 := he2.below hb21
  refine w_nil ?_
  refine h_on ⟨hc21, ?_⟩
  refine h_p 4 hc21 ?_
  refine h_nil ?_
  have sz21 := hc21.size
  replace hv0 := hv0.below hc21
  replace hv2 := hv2.below hc21
  replace hbx0 := cell_below hbx0 hc21
  replace hbx2 := cell_below hbx2 hc21
  replace hw0 := hw0.below hc21
  replace hcw0 := cell_below hcw0 hc21
  replace hx0 := hx0.below hc21
  replace hc0x := cell_below hc0x hc21
  replace hx2 := hx2.below hc21
  replace hc2x := cell_below hc2x hc21
  replace hg0 := hg0.below hc21
  replace hcg0 := cell_below hcg0 hc21
  replace hbS := hbS.trans (hc21.mono hbS.size)
  refine go ?_
  have htot0 := tot_le (c := 1048576) (fun xs hx => by have := hr0 xs hx; omega)
  have htn0 := tot_nonneg a0
  have hml0 : (a0.length : Int) * 1048576 ≤ 1048576 * 1048576 := Int.mul_le_mul_of_nonneg_right (by omega) (by omega)
  refine s_call2 (wn rfl) rfl rfl rfl (markManiplex_any _ _ _ _ _ _ hx0 (by omega) (by omega)) ?_
  rintro _ w22 ⟨rfl, hxm0, hbt⟩
  have sz22 := hbt.size
  clear hxm0 hx0
  replace hbS := hbS.trans ((hbt.below (by omega)).mono (by omega))
  replace hv0 := hvS0.below hbS
  replace hbx0 := cell_below hbxS0 hbS
  replace hv2 := hvS2.below hbS
  replace hbx2 := cell_below hbxS2 hbS
  replace hx2 := hx2.btw hbt (by omega)
  replace hc2x := cell_btw hc2x hbt (.inr (by omega))
  replace hw0 := hwS0.below hbS
  replace hg0 := hg0.btw hbt (by omega)
  replace hcw0 := cell_below hcwS0 hbS
  replace hcg0 := cell_btw hcg0 hbt (.inr (by omega))
  clear hbt
  refine go ?_
  have htot2 := tot_le (c := 1048576) (fun xs hx => by have := hr2 xs hx; omega)
  have htn2 := tot_nonneg a2
  have hml2 : (a2.length : Int) * 1048576 ≤ 1048576 * 1048576 := Int.mul_le_mul_of_nonneg_right (by omega) (by omega)
  refine s_call2 (wn rfl) rfl rfl rfl (markManiplex_any _ _ _ _ _ _ hx2 (by omega) (by omega)) ?_
  rintro _ w23 ⟨rfl, hxm2, hbt⟩
  have sz23 := hbt.size
  clear hxm2 hx2
  replace hbS := hbS.trans ((hbt.below (by omega)).mono (by omega))
  replace hv0 := hvS0.below hbS
  replace hbx0 := cell_below hbxS0 hbS
  replace hv2 := hvS2.below hbS
  replace hbx2 := cell_below hbxS2 hbS
  replace hw0 := hwS0.below hbS
  replace hg0 := hg0.btw hbt (by omega)
  replace hcw0 := cell_below hcwS0 hbS
  replace hcg0 := cell_btw hcg0 hbt (.inr (by omega))
  clear hbt
  have htt0 := tot_nonneg a0
  have htt2 := tot_nonneg a2
  have hk0 : ¬ (1 + tot a0 + tot a2 < 0) := by omega
  refine go ?_
  refine s_call2 (wy rfl rfl rfl rfl rfl known) rfl rfl rfl (eqManiplex_any _ _ _ _ _ hg0.rl hw0) ?_
  rintro _ w24 ⟨rfl, hb24⟩
  have sz24 := hb24.size
  replace hv0 := hv0.below hb24
  replace hv2 := hv2.below hb24
  replace hbx0 := cell_below hbx0 hb24
  replace hbx2 := cell_below hbx2 hb24
  replace hw0 := hw0.below hb24
  replace hcw0 := cell_below hcw0 hb24
  replace hg0 := hg0.below hb24
  replace hcg0 := cell_below hcg0 hb24
  replace hbS := hbS.trans (hb24.mono hbS.size)
  refine go ?_
  have hlen0 : 1 + tot (mixL a0 a2 a1 a3) ≤ 4000000000000000000 := mixL_len a0 a2 a1 a3
  have htn_0 := tot_nonneg (mixL a0 a2 a1 a3)
  refine s_call2 (wn rfl) rfl rfl rfl (markManiplex_any _ _ _ _ _ _ hg0 (by omega) hlen0) ?_
  rintro _ w25 ⟨rfl, hgm0, hbt⟩
  have sz25 := hbt.size
  replace hbS := hbS.trans ((hbt.below (by omega)).mono (by omega))
  replace hv0 := hvS0.below hbS
  replace hbx0 := cell_below hbxS0 hbS
  replace hv2 := hvS2.below hbS
  replace hbx2 := cell_below hbxS2 hbS
  replace hw0 := hwS0.below hbS
  replace hcw0 := cell_below hcwS0 hbS
  replace hcg0 := cell_btw hcg0 hbt (.inr (by omega))
  clear hbt hg0
  have hm0 : ¬ (1 + tot (mixL a0 a2 a1 a3) < 0) := by omega
  have hm1 : ¬ (1 + tot (mixL a0 a2 a1 a3) ≠ 1 + tot (mixL a0 a2 a1 a3)) := fun h => h rfl
  refine go ?_
  refine s_call2 (wn rfl) rfl rfl rfl (heldManiplex_any _ _ _ _ hgm0.rl (by omega) hlen0) ?_
  rintro _ w26 ⟨rfl, hb26⟩
  have sz26 := hb26.size
  replace hv0 := hv0.below hb26
  replace hv2 := hv2.below hb26
  replace hbx0 := cell_below hbx0 hb26
  replace hbx2 := cell_below hbx2 hb26
  replace hw0 := hw0.below hb26
  replace hcw0 := cell_below hcw0 hb26
  replace hcg0 := cell_below hcg0 hb26
  replace hgm0 := hgm0.below hb26
  replace hbS := hbS.trans (hb26.mono hbS.size)
  refine go ?_
  refine region_h mixed (fun wR cr => ?_)
  refine h_p 0 cr ?_
  refine h_p 2 cr ?_
  refine h_p 3 cr ?_
  refine h_p 5 cr ?_
  refine h_two 1 10 ?_ ?_
  · refine s_call1 (wn rfl) rfl rfl (toManiplex_any _ _ _ (hv0.below cr) hl0 hr0) ?_
    rintro _ wC ⟨t0, rfl, ht0, hbn⟩
    replace cr := cr.trans (hbn.mono cr.size)
    clear hbn
    refine w_nil ?_
    refine h_on ⟨cr, ?_⟩
    refine h_two 4 10 ?_ ?_
    · refine s_call1 (wn rfl) rfl rfl (toManiplex_any _ _ _ (hv2.below cr) hl2 hr2) ?_
      rintro _ wC ⟨t2, rfl, ht2, hbn⟩
      replace cr := cr.trans (hbn.mono cr.size)
      replace ht0 := ht0.below hbn
      clear hbn
      refine w_nil ?_
      refine h_on ⟨cr, ?_⟩
      refine h_two 6 10 ?_ ?_
      · refine s_call4 (wn rfl) rfl rfl rfl rfl rfl (implMixAt_any _ _ _ _ _ _ _ ht0.rl ht2.rl) ?_
        rintro _ wF ⟨h0, rfl, hR, hbn⟩
        replace cr := cr.trans (hbn.mono cr.size)
        replace ht0 := ht0.below hbn
        replace ht2 := ht2.below hbn
        clear hbn
        refine w_nil ?_
        refine h_on ⟨cr, ?_⟩
        refine h_p 7 cr ?_
        refine h_p 8 cr ?_
        refine h_p 9 cr ?_
        refine h_one 10 ?_
        refine s_alloc (B := w26.heap.size) (wn rfl) rfl cr.size (fun wA pvh0 hxa hga _ => ?_)
        have hbn := below_of_grownBy hga
        replace cr := cr.trans (hbn.mono cr.size)
        replace ht0 := ht0.below hbn
        replace ht2 := ht2.below hbn
        replace hR := hR.below hbn
        clear hbn
        refine w_nil ?_
        refine h_on ⟨cr, ?_⟩
        refine h_one 11 ?_
        refine s_storeBox (wn rfl) rfl rfl hR.sv.one hxa (fun wS hxN hgS => ?_)
        replace cr := cr.trans (hxa.below_of hgS cr.size)
        replace hR := hR.box hxa (by decide) (by decide) hgS
        replace hxa := hxN
        clear hxN hgS
        refine w_nil ?_
        refine h_on ⟨cr, ?_⟩
        refine h_p 12 cr ?_
        refine h_nil ?_
        have hbJ := cr
        have hh0 := hR
        have hch0 := hxa.cell
        clear hR hxa
        have sz27 := hbJ.size
        replace hv0 := hv0.below hbJ
        replace hv2 := hv2.below hbJ
        replace hbx0 := cell_below hbx0 hbJ
        replace hbx2 := cell_below hbx2 hbJ
        replace hw0 := hw0.below hbJ
        replace hcw0 := cell_below hcw0 hbJ
        replace hcg0 := cell_below hcg0 hbJ
        replace hgm0 := hgm0.below hbJ
        replace hbS := hbS.trans (hbJ.mono hbS.size)
        refine go ?_
        refine s_call2 (wn rfl) rfl rfl rfl (eqManiplex_any _ _ _ _ _ hh0.rl hw0) ?_
        rintro _ w28 ⟨rfl, hb28⟩
        have sz28 := hb28.size
        replace hv0 := hv0.below hb28
        replace hv2 := hv2.below hb28
        replace hbx0 := cell_below hbx0 hb28
        replace hbx2 := cell_below hbx2 hb28
        replace hw0 := hw0.below hb28
        replace hcw0 := cell_below hcw0 hb28
        replace hcg0 := cell_below hcg0 hb28
        replace hgm0 := hgm0.below hb28
        replace hh0 := hh0.below hb28
        replace hch0 := cell_below hch0 hb28
        replace hbS := hbS.trans (hb28.mono hbS.size)
        refine go ?_
        refine s_call2 (wn rfl) rfl rfl rfl (heldManiplex_any _ _ _ _ hgm0.rl (by omega) hlen0) ?_
        rintro _ w29 ⟨rfl, hb29⟩
        have sz29 := hb29.size
        replace hv0 := hv0.below hb29
        replace hv2 := hv2.below hb29
        replace hbx0 := cell_below hbx0 hb29
        replace hbx2 := cell_below hbx2 hb29
        replace hw0 := hw0.below hb29
        replace hcw0 := cell_below hcw0 hb29
        replace hcg0 := cell_below hcg0 hb29
        replace hgm0 := hgm0.below hb29
        replace hh0 := hh0.below hb29
        replace hch0 := cell_below hch0 hb29
        replace hbS := hbS.trans (hb29.mono hbS.size)
        refine go ?_
        exact end_one Try.results4 rfl ⟨rfl, hb.trans (hbS.mono hb.size)⟩
      · refine s_alloc (B := w26.heap.size) (wn rfl) rfl cr.size (fun wA pvh0 hxa hga _ => ?_)
        have hbn := below_of_grownBy hga
        replace cr := cr.trans (hbn.mono cr.size)
        replace ht0 := ht0.below hbn
        replace ht2 := ht2.below hbn
        clear hbn
        refine w_nil ?_
        refine h_on ⟨cr, ?_⟩
        refine h_one 6 ?_
        refine s_call4 (wn rfl) rfl rfl rfl rfl rfl (implMixAt_any _ _ _ _ _ _ _ ht0.rl ht2.rl) ?_
        rintro _ wF ⟨h0, rfl, hR, hbn⟩
        replace cr := cr.trans (hbn.mono cr.size)
        replace ht0 := ht0.below hbn
        replace ht2 := ht2.below hbn
        replace hxa := hxa.below hbn
        clear hbn
        refine w_nil ?_
        refine h_on ⟨cr, ?_⟩
        refine h_p 7 cr ?_
        refine h_p 8 cr ?_
        refine h_p 9 cr ?_
        refine h_one 11 ?_
        refine s_storeBox (wn rfl) rfl rfl hR.sv.one hxa (fun wS hxN hgS => ?_)
        replace cr := cr.trans (hxa.below_of hgS cr.size)
        replace hR := hR.box hxa (by decide) (by decide) hgS
        replace hxa := hxN
        clear hxN hgS
        refine w_nil ?_
        refine h_on ⟨cr, ?_⟩
        refine h_p 12 cr ?_
        refine h_nil ?_
        have hbJ := cr
        have hh0 := hR
        have hch0 := hxa.cell
        clear hR hxa
        have sz27 := hbJ.size
        replace hv0 := hv0.below hbJ
        replace hv2 := hv2.below hbJ
        replace hbx0 := cell_below hbx0 hbJ
        replace hbx2 := cell_below hbx2 hbJ
        replace hw0 := hw0.below hbJ
        replace hcw0 := cell_below hcw0 hbJ
        replace hcg0 := cell_below hcg0 hbJ
        replace hgm0 := hgm0.below hbJ
        replace hbS := hbS.trans (hbJ.mono hbS.size)
        refine go ?_
        refine s_call2 (wn rfl) rfl rfl rfl (eqManiplex_any _ _ _ _ _ hh0.rl hw0) ?_
        rintro _ w28 ⟨rfl, hb28⟩
        have sz28 := hb28.size
        replace hv0 := hv0.below hb28
        replace hv2 := hv2.below hb28
        replace hbx0 := cell_below hbx0 hb28
        replace hbx2 := cell_below hbx2 hb28
        replace hw0 := hw0.below hb28
        replace hcw0 := cell_below hcw0 hb28
        replace hcg0 := cell_below hcg0 hb28
        replace hgm0 := hgm0.below hb28
        replace hh0 := hh0.below hb28
        replace hch0 := cell_below hch0 hb28
        replace hbS := hbS.trans (hb28.mono hbS.size)
        refine go ?_
        refine s_call2 (wn rfl) rfl rfl rfl (heldManiplex_any _ _ _ _ hgm0.rl (by omega) hlen0) ?_
        rintro _ w29 ⟨rfl, hb29⟩
        have sz29 := hb29.size
        replace hv0 := hv0.below hb29
        replace hv2 := hv2.below hb29
        replace hbx0 := cell_below hbx0 hb29
        replace hbx2 := cell_below hbx2 hb29
        replace hw0 := hw0.below hb29
        replace hcw0 := cell_below hcw0 hb29
        replace hcg0 := cell_below hcg0 hb29
        replace hgm0 := hgm0.below hb29
        replace hh0 := hh0.below hb29
        replace hch0 := cell_below hch0 hb29
        replace hbS := hbS.trans (hb29.mono hbS.size)
        refine go ?_
        exact end_one Try.results4 rfl ⟨rfl, hb.trans (hbS.mono hb.size)⟩
    · refine s_alloc (B := w26.heap.size) (wn rfl) rfl cr.size (fun wA pvh0 hxa hga _ => ?_)
      have hbn := below_of_grownBy hga
      replace cr := cr.trans (hbn.mono cr.size)
      replace ht0 := ht0.below hbn
      clear hbn
      refine w_nil ?_
      refine h_on ⟨cr, ?_⟩
      refine h_one 4 ?_
      refine s_call1 (wn rfl) rfl rfl (toManiplex_any _ _ _ (hv2.below cr) hl2 hr2) ?_
      rintro _ wC ⟨t2, rfl, ht2, hbn⟩
      replace cr := cr.trans (hbn.mono cr.size)
      replace ht0 := ht0.below hbn
      replace hxa := hxa.below hbn
      clear hbn
      refine w_nil ?_
      refine h_on ⟨cr, ?_⟩
      refine h_one 6 ?_
      refine s_call4 (wn rfl) rfl rfl rfl rfl rfl (implMixAt_any _ _ _ _ _ _ _ ht0.rl ht2.rl) ?_
      rintro _ wF ⟨h0, rfl, hR, hbn⟩
      replace cr := cr.trans (hbn.mono cr.size)
      replace ht0 := ht0.below hbn
      replace hxa := hxa.below hbn
      replace ht2 := ht2.below hbn
      clear hbn
      refine w_nil ?_
      refine h_on ⟨cr, ?_⟩
      refine h_p 7 cr ?_
      refine h_p 8 cr ?_
      refine h_p 9 cr ?_
      refine h_one 11 ?_
      refine s_storeBox (wn rfl) rfl rfl hR.sv.one hxa (fun wS hxN hgS => ?_)
      replace cr := cr.trans (hxa.below_of hgS cr.size)
      replace hR := hR.box hxa (by decide) (by decide) hgS
      replace hxa := hxN
      clear hxN hgS
      refine w_nil ?_
      refine h_on ⟨cr, ?_⟩
      refine h_p 12 cr ?_
      refine h_nil ?_
      have hbJ := cr
      have hh0 := hR
      have hch0 := hxa.cell
      clear hR hxa
      have sz27 := hbJ.size
      replace hv0 := hv0.below hbJ
      replace hv2 := hv2.below hbJ
      replace hbx0 := cell_below hbx0 hbJ
      replace hbx2 := cell_below hbx2 hbJ
      replace hw0 := hw0.below hbJ
      replace hcw0 := cell_below hcw0 hbJ
      replace hcg0 := cell_below hcg0 hbJ
      replace hgm0 := hgm0.below hbJ
      replace hbS := hbS.trans (hbJ.mono hbS.size)
      refine go ?_
      refine s_call2 (wn rfl) rfl rfl rfl (eqManiplex_any _ _ _ _ _ hh0.rl hw0) ?_
      rintro _ w28 ⟨rfl, hb28⟩
      have sz28 := hb28.size
      replace hv0 := hv0.below hb28
      replace hv2 := hv2.below hb28
      replace hbx0 := cell_below hbx0 hb28
      replace hbx2 := cell_below hbx2 hb28
      replace hw0 := hw0.below hb28
      replace hcw0 := cell_below hcw0 hb28
      replace hcg0 := cell_below hcg0 hb28
      replace hgm0 := hgm0.below hb28
      replace hh0 := hh0.below hb28
      replace hch0 := cell_below hch0 hb28
      replace hbS := hbS.trans (hb28.mono hbS.size)
      refine go ?_
      refine s_call2 (wn rfl) rfl rfl rfl (heldManiplex_any _ _ _ _ hgm0.rl (by omega) hlen0) ?_
      rintro _ w29 ⟨rfl, hb29⟩
      have sz29 := hb29.size
      replace hv0 := hv0.below hb29
      replace hv2 := hv2.below hb29
      replace hbx0 := cell_below hbx0 hb29
      replace hbx2 := cell_below hbx2 hb29
      replace hw0 := hw0.below hb29
      replace hcw0 := cell_below hcw0 hb29
      replace hcg0 := cell_below hcg0 hb29
      replace hgm0 := hgm0.below hb29
      replace hh0 := hh0.below hb29
      replace hch0 := cell_below hch0 hb29
      replace hbS := hbS.trans (hb29.mono hbS.size)
      refine go ?_
      exact end_one Try.results4 rfl ⟨rfl, hb.trans (hbS.mono hb.size)⟩
  · refine s_alloc (B := w26.heap.size) (wn rfl) rfl cr.size (fun wA pvh0 hxa hga _ => ?_)
    have hbn := below_of_grownBy hga
    replace cr := cr.trans (hbn.mono cr.size)
    clear hbn
    refine w_nil ?_
    refine h_on ⟨cr, ?_⟩
    refine h_one 1 ?_
    refine s_call1 (wn rfl) rfl rfl (toManiplex_any _ _ _ (hv0.below cr) hl0 hr0) ?_
    rintro _ wC ⟨t0, rfl, ht0, hbn⟩
    replace cr := cr.trans (hbn.mono cr.size)
    replace hxa := hxa.below hbn
    clear hbn
    refine w_nil ?_
    refine h_on ⟨cr, ?_⟩
    refine h_one 4 ?_
    refine s_call1 (wn rfl) rfl rfl (toManiplex_any _ _ _ (hv2.below cr) hl2 hr2) ?_
    rintro _ wC ⟨t2, rfl, ht2, hbn⟩
    replace cr := cr.trans (hbn.mono cr.size)
    replace hxa := hxa.below hbn
    replace ht0 := ht0.below hbn
    clear hbn
    refine w_nil ?_
    refine h_on ⟨cr, ?_⟩
    refine h_one 6 ?_
    refine s_call4 (wn rfl) rfl rfl rfl rfl rfl (implMixAt_any _ _ _ _ _ _ _ ht0.rl ht2.rl) ?_
    rintro _ wF ⟨h0, rfl, hR, hbn⟩
    replace cr := cr.trans (hbn.mono cr.size)
    replace hxa := hxa.below hbn
    replace ht0 := ht0.below hbn
    replace ht2 := ht2.below hbn
    clear hbn
    refine w_nil ?_
    refine h_on ⟨cr, ?_⟩
    refine h_p 7 cr ?_
    refine h_p 8 cr ?_
    refine h_p 9 cr ?_
    refine h_one 11 ?_
    refine s_storeBox (wn rfl) rfl rfl hR.sv.one hxa (fun wS hxN hgS => ?_)
    replace cr := cr.trans (hxa.below_of hgS cr.size)
    replace hR := hR.box hxa (by decide) (by decide) hgS
    replace hxa := hxN
    clear hxN hgS
    refine w_nil ?_
    refine h_on ⟨cr, ?_⟩
    refine h_p 12 cr ?_
    refine h_nil ?_
    have hbJ := cr
    have hh0 := hR
    have hch0 := hxa.cell
    clear hR hxa
    have sz27 := hbJ.size
    replace hv0 := hv0.below hbJ
    replace hv2 := hv2.below hbJ
    replace hbx0 := cell_below hbx0 hbJ
    replace hbx2 := cell_below hbx2 hbJ
    replace hw0 := hw0.below hbJ
    replace hcw0 := cell_below hcw0 hbJ
    replace hcg0 := cell_below hcg0 hbJ
    replace hgm0 := hgm0.below hbJ
    replace hbS := hbS.trans (hbJ.mono hbS.size)
    refine go ?_
    refine s_call2 (wn rfl) rfl rfl rfl (eqManiplex_any _ _ _ _ _ hh0.rl hw0) ?_
    rintro _ w28 ⟨rfl, hb28⟩
    have sz28 := hb28.size
    replace hv0 := hv0.below hb28
    replace hv2 := hv2.below hb28
    replace hbx0 := cell_below hbx0 hb28
    replace hbx2 := cell_below hbx2 hb28
    replace hw0 := hw0.below hb28
    replace hcw0 := cell_below hcw0 hb28
    replace hcg0 := cell_below hcg0 hb28
    replace hgm0 := hgm0.below hb28
    replace hh0 := hh0.below hb28
    replace hch0 := cell_below hch0 hb28
    replace hbS := hbS.trans (hb28.mono hbS.size)
    refine go ?_
    refine s_call2 (wn rfl) rfl rfl rfl (heldManiplex_any _ _ _ _ hgm0.rl (by omega) hlen0) ?_
    rintro _ w29 ⟨rfl, hb29⟩
    have sz29 := hb29.size
    replace hv0 := hv0.below hb29
    replace hv2 := hv2.below hb29
    replace hbx0 := cell_below hbx0 hb29
    replace hbx2 := cell_below hbx2 hb29
    replace hw0 := hw0.below hb29
    replace hcw0 := cell_below hcw0 hb29
    replace hcg0 := cell_below hcg0 hb29
    replace hgm0 := hgm0.below hb29
    replace hh0 := hh0.below hb29
    replace hch0 := cell_below hch0 hb29
    replace hbS := hbS.trans (hb29.mono hbS.size)
    refine go ?_
    exact end_one Try.results4 rfl ⟨rfl, hb.trans (hbS.mono hb.size)⟩

set_option maxRecDepth 100000 in
theorem liftedMixAt (os : Os) (started : os.Started) (H : Type) (enc : TypeId × Value → H) :
    ReturnsInHanded {} Try.checked os 4 .any (Rows.fnExactMixAtSpec.pre6 enc Try.prog Try.f4 Rows.fnExactMixAtRow.domain false) (Rows.fnExactMixAtSpec.post enc Try.prog Try.f4 false true false false) := by
  refine returnsInHanded_of_change (C := Try.checked) own started (by kernel_rfl) Try.func4
    (ChangeSpec.witness6 (enc := enc) (C := Try.checked) false ⟨#[], #[.agg #[.slice none 0 0], .int .i64 0, .agg #[.slice none 0 0], .int .i64 0], []⟩ 8 (by kernel_rfl) (by kernel_rfl) (by kernel_rfl) (by kernel_rfl)) ?_
  intro W base args ds gs before hval0 hW hcnd _
  have hval : ∀ (j : Nat) t v, Try.f4.params[j]? = some t → args[j]? = some v → Value.okWide Try.prog W .any base t v := hval0
  have hW' := hW
  obtain ⟨p, q, hA0, hV, rfl, hfz, hnd⟩ := hW
  have hA : DataW.TrodAll enc Try.prog W 0 (fun _ => true) true Try.f4.params.toList args.toList ds p := hA0
  rw [Try.params4] at hA hval
  obtain ⟨v0, vs0, d0, ds0, p0, q0, hargs, rfl, rfl, h0, r0⟩ := trodAll_cons hA
  obtain ⟨v1, vs1, d1, ds1, p1, q1, rfl, rfl, rfl, h1, r1⟩ := trodAll_cons r0
  obtain ⟨v2, vs2, d2, ds2, p2, q2, rfl, rfl, rfl, h2, r2⟩ := trodAll_cons r1
  obtain ⟨v3, vs3, d3, ds3, p3, q3, rfl, rfl, rfl, h3, r3⟩ := trodAll_cons r2
  obtain ⟨rfl, rfl, rfl⟩ := trodAll_nil r3
  obtain rfl : args = #[v0, v1, v2, v3] := by cases args; simp_all
  obtain ⟨rfl, rfl⟩ := trodVars_none hV
  have lt0 : ∀ x ∈ p0, x.block < W.heap.size := by obtain ⟨m, hm⟩ := h0; exact DataW.trod_lt m _ _ _ hm
  have lt1 : ∀ x ∈ p1, x.block < W.heap.size := by obtain ⟨m, hm⟩ := h1; exact DataW.trod_lt m _ _ _ hm
  have lt2 : ∀ x ∈ p2, x.block < W.heap.size := by obtain ⟨m, hm⟩ := h2; exact DataW.trod_lt m _ _ _ hm
  have lt3 : ∀ x ∈ p3, x.block < W.heap.size := by obtain ⟨m, hm⟩ := h3; exact DataW.trod_lt m _ _ _ hm
  obtain ⟨u0, xss0, rfl, hu0⟩ := open_arg (hval 0 24 v0 rfl rfl) h0
  obtain ⟨xss1, rfl⟩ := open_arg_n (hval 1 2 v1 rfl rfl)
  obtain ⟨u2, xss2, rfl, hu2⟩ := open_arg (hval 2 24 v2 rfl rfl) h2
  obtain ⟨xss3, rfl⟩ := open_arg_n (hval 3 2 v3 rfl rfl)
  clear hA0 hval0
  refine Calls.mono (lawMixAt_any u0 u2 xss0 xss1 xss2 xss3 W hu0 hu2) fun e W' ⟨v, he, hv, bel⟩ => ?_
  subst he
  subst hv
  exact ⟨_, rfl, _, _, _, [], _, [], hW', trodAll_mk1 (shut_bool Try.underlying4 _), (trodAll_cons_mk (Below.trod laidOut (by kernel_rfl) (of_decide_eq_true (by kernel_rfl)) h0 bel lt0) (trodAll_cons_mk (Below.trod laidOut (by kernel_rfl) (of_decide_eq_true (by kernel_rfl)) h1 bel lt1) (trodAll_cons_mk (Below.trod laidOut (by kernel_rfl) (of_decide_eq_true (by kernel_rfl)) h2 bel lt2) (trodAll_cons_mk (Below.trod laidOut (by kernel_rfl) (of_decide_eq_true (by kernel_rfl)) h3 bel lt3) trodAll_mk0)))), rfl, bel.frame _, fun h => by cases h⟩

theorem provedMixAt : Rows.FnExactMixAtSaid :=
  OpenClaim.holds_of_wide 4 Try.f4 rfl rfl rfl rfl rfl rfl rfl ⟨rfl, rfl, rfl, rfl, rfl⟩ rfl rfl rfl rfl rfl (by kernel_rfl) Try.func4 (by kernel_rfl)
    (of_decide_eq_true (by kernel_rfl)) (by unfold Func.isWrapper; first | (rw [if_pos (by decide +kernel)]; kernel_rfl) | (rw [if_neg (by decide +kernel)]; exact ⟨rfl, rfl⟩))
    (fun os started H enc _ => liftedMixAt os started H enc)
end Go.Proofs.Ytlodnhflfijomaa
