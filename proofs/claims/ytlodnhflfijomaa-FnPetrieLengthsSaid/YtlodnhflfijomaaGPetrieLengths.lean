/- The general law of PetrieLengths, for every code: its walk and its row. No conditions. -/
import Derived.Test.YtlodnhflfijomaaF61
import Derived.Test.YtlodnhflfijomaaF46
import Derived.Test.YtlodnhflfijomaaP28
import Derived.Test.YtlodnhflfijomaaRA
import Derived.WalkKit
import Derived.ShutString
namespace Go.Proofs.Ytlodnhflfijomaa
open Go.Mem Go.ChangeShapes Go.WideShapes Go.ChangeAt Go.RowKit
set_option linter.unusedVariables false
set_option linter.unusedSimpArgs false

set_option maxHeartbeats 16000000 in
set_option maxRecDepth 100000 in
theorem lawPetrieLengths_any (c : Value) (bs : List Int) (w : World) (hcl : CL w c bs) :
    Ret Try.prog 5 #[c] w fun r w' => r = .bool true ∧ Below w.heap.size w w' := by
  have shcl := hcl.sv
  have hb := Below.refl w.heap.size w
  refine enter1 142 Try.func5 rfl Try.ntmps5 rfl (fun fr => ?_)
  refine go ?_
  refine s_call1 (wn rfl) rfl rfl (big_any _ _ _ hcl) ?_
  rintro _ _ ⟨rfl, rfl⟩
  refine go ?_
  refine cond_dec rfl (fun hbig => ?_) (fun hbig => ?_)
  · refine go ?_
    exact end_one Try.results5 rfl ⟨rfl, hb⟩
  refine go ?_
  refine s_call1 (wn rfl) rfl rfl (DrawPetrieLengths_any _ _ _ hcl) ?_
  rintro _ w1 ⟨x, ms, rfl, hv, hb1⟩
  have sw1 := hb1.size
  replace hcl := hcl.below hb1
  replace hb := hb.trans (hb1.mono hb.size)
  have shv := hv.sv
  refine go ?_
  refine s_alloc (B := w1.heap.size) (wn rfl) rfl (Nat.le_refl _) (fun w2 p3 hx3 hg2 hpp3 => ?_)
  have hb2 := below_of_grownBy hg2
  refine go ?_
  refine s_storeBox (wn rfl) rfl rfl shv.one hx3 (fun w3 hx3b hg3 => ?_)
  have hbq3 := hb2.trans (hx3.below_of hg3 hb2.size)
  have sw3 := hbq3.size
  replace hcl := hcl.below hbq3
  replace hv := hv.below hbq3
  replace hb := hb.trans (hbq3.mono hb.size)
  have hc3 := hx3b.cell
  refine go ?_
  refine s_call1 (wn rfl) rfl rfl (implPetrieLengths_any _ _ _ hv) ?_
  rintro _ w4 ⟨lx, rfl, hl, hb4⟩
  have sw4 := hb4.size
  replace hcl := hcl.below hb4
  replace hv := hv.below hb4
  replace hc3 := cell_below hc3 hb4
  replace hb := hb.trans (hb4.mono hb.size)
  refine go ?_
  refine s_call1 (wn rfl) rfl rfl (specPetrieLengths_any _ _ _ hv) ?_
  rintro _ w5 ⟨ly, rfl, hl2, hb5⟩
  have sw5 := hb5.size
  replace hcl := hcl.below hb5
  replace hv := hv.below hb5
  replace hc3 := cell_below hc3 hb5
  replace hl := hl.below hb5
  replace hb := hb.trans (hb5.mono hb.size)
  have hn1 : ¬ (manC ms ≠ manC ms) := fun h => h rfl
  have he1 : decide (plL ms = plL ms) = true := decide_eq_true rfl
  have sl := hl.sv
  refine go ?_
  refine s_call2 (wy rfl rfl rfl rfl rfl known) rfl rfl rfl (likeInts_any _ _ _ _ _ hl.il hl2.il) ?_
  rintro _ w6 ⟨rfl, hb6⟩
  have sw6 := hb6.size
  replace hcl := hcl.below hb6
  replace hv := hv.below hb6
  replace hc3 := cell_below hc3 hb6
  replace hl := hl.below hb6
  replace hl2 := hl2.below hb6
  replace hb := hb.trans (hb6.mono hb.size)
  refine go ?_
  refine cond_dec rfl (fun hne => ?_) (fun hne => ?_)
  · refine go ?_
    exact end_one Try.results5 rfl ⟨rfl, hb⟩
  have hm : IsMan ms := Classical.byContradiction fun h => hne (by rw [manC_no h]; decide)
  have r5 := hm.m0.r5
  have r1 := hm.m0.r1
  have f4 := hm.m0.f400
  have f2 := hm.m0.f2
  have hwi := idl_word hm
  have hpm := does_pm hm hwi
  have hll : (plL ms).length = nf ms := by rw [plL_yes hm]; simp
  have hper : ∀ y : Int, 0 ≤ y → y < nf ms → gi (plL ms) y = (per (nf ms) (does ms (idl ms.length) (nf ms)) y : Int) := fun y h0 h1 => by
    rw [plL_yes hm, gi_range_map h0 h1, show ((y.toNat : Nat) : Int) = y by omega]
  have hrun : ∀ y : Int, 0 ≤ y → y < nf ms → run ms (idl ms.length) y = gi (does ms (idl ms.length) (nf ms)) y := fun y h0 h1 => (gi_does h0 h1).symm
  rw [hll] at sl
  generalize plL ms = L at *
  generalize hPe : does ms (idl ms.length) (nf ms) = P at *
  have sbs1 := hb.size
  have hcl_b1 := hcl
  have hv_b1 := hv
  have hc3_b1 := hc3
  have hl_b1 := hl
  have hbB1 := Below.refl w6.heap.size w6
  refine go ?_
  have szq7 := hbB1.size
  refine s_build0 (B := w6.heap.size) (wn rfl) rfl szq7 (fun ob w7 hw so hg7 _ => ?_)
  have hb7 := below_of_grownBy hg7
  have sw7 := hb7.size
  replace hcl := hcl.below hb7
  replace hv := hv.below hb7
  replace hc3 := cell_below hc3 hb7
  replace hl := hl.below hb7
  replace hbB1 := hbB1.trans (hb7.mono hbB1.size)
  refine go ?_
  refine w_loop (fun kk fr w' => ∃ (i : Nat) (ob : Value), kk = ms.length - i ∧ i ≤ ms.length ∧ fr 0 = c ∧ fr 3 = .pointer (some p3) ∧ fr 4 = lx ∧ fr 8 = ob ∧ fr 9 = .int .i64 i ∧ (OI w' w6.heap.size 2 ob (idl i)) ∧ Below w6.heap.size w6 w') (ms.length)
    ⟨0, ob, rfl, Nat.zero_le _, rfl, rfl, rfl, rfl, rfl, hw, hbB1⟩ ?_
  rintro kk fr w8 ⟨i, ob, rfl, hi, f0, f3, f4, f8, f9, hw, hbB1⟩
  have sw8 := hbB1.size
  have hcl := hcl_b1.below hbB1
  have hv := hv_b1.below hbB1
  have hc3 := cell_below hc3_b1 hbB1
  have hl := hl_b1.below hbB1
  have shw := hw.sv
  refine know (t := 0) f0 ?_; refine know (t := 3) f3 ?_; refine know (t := 4) f4 ?_; refine know (t := 8) f8 ?_; refine know (t := 9) f9 ?_
  refine go ?_
  refine cond_dec rfl (fun hlt => ?_) (fun hge => ?_)
  · refine go ?_
    have szq9 := hbB1.size
    refine s_build1 (B := w6.heap.size) (wn rfl) rfl rfl szq9 (fun tb w9 ht st hg9 _ => ?_)
    have hb9 := below_of_grownBy hg9
    have sw9 := hb9.size
    replace hcl := hcl.below hb9
    replace hv := hv.below hb9
    replace hc3 := cell_below hc3 hb9
    replace hl := hl.below hb9
    replace hw := hw.below hb9
    replace hbB1 := hbB1.trans (hb9.mono hbB1.size)
    have szq10 := hbB1.size
    refine s_appendI (wn rfl) rfl rfl rfl hw ht.il (by simp [idl]; omega) szq10 (fun ob' w10 hoN so hgN _ => ?_)
    replace hbB1 := hbB1.trans (hw.below_of hgN szq10)
    have sw10 := hgN.size
    replace hw := hoN
    clear hoN
    replace hcl := hcl_b1.below hbB1
    replace hv := hv_b1.below hbB1
    replace hc3 := cell_below hc3_b1 hbB1
    replace hl := hl_b1.below hbB1
    refine go ?_
    refine ⟨ms.length - (i + 1), by omega, i + 1, ob', rfl, by omega, rfl, rfl, rfl, rfl, rfl, by rw [idl_snoc]; exact hw, hbB1⟩
  obtain rfl : i = ms.length := by omega
  refine go ?_
  have sbs2 := hbB1.size
  have hcl_b2 := hcl
  have hv_b2 := hv
  have hc3_b2 := hc3
  have hl_b2 := hl
  have hw_b2 := hw
  have hbB2 := Below.refl w8.heap.size w8
  refine go ?_
  refine s_call2 (wn rfl) rfl rfl rfl (roll_any _ _ 709 _ hcl (by decide)) ?_
  rintro _ w11 ⟨q, rfl, hs, hb11⟩
  have sw11 := hb11.size
  replace hcl := hcl.below hb11
  replace hv := hv.below hb11
  replace hc3 := cell_below hc3 hb11
  replace hl := hl.below hb11
  replace hw := hw.below hb11
  replace hbB2 := hbB2.trans (hb11.mono hbB2.size)
  refine go ?_
  refine w_loop (fun kk fr w' => ∃ (i : Nat), kk = 4 - i ∧ i ≤ 4 ∧ fr 3 = .pointer (some p3) ∧ fr 4 = lx ∧ fr 8 = ob ∧ fr 10 = .pointer (some ⟨q, 0, none⟩) ∧ fr 11 = .int .i64 i ∧ (Sr w' w8.heap.size q 95 c bs) ∧ Below w8.heap.size w8 w') (4)
    ⟨0, rfl, Nat.zero_le _, rfl, rfl, rfl, rfl, rfl, hs, hbB2⟩ ?_
  rintro kk fr w12 ⟨i, rfl, hi, f3, f4, f8, f10, f11, hs, hbB2⟩
  have sw12 := hbB2.size
  have hcl := hcl_b2.below hbB2
  have hv := hv_b2.below hbB2
  have hc3 := cell_below hc3_b2 hbB2
  have hl := hl_b2.below hbB2
  have hw := hw_b2.below hbB2
  refine know (t := 3) f3 ?_; refine know (t := 4) f4 ?_; refine know (t := 8) f8 ?_; refine know (t := 10) f10 ?_; refine know (t := 11) f11 ?_
  refine go ?_
  refine cond_dec rfl (fun hlt => ?_) (fun hge => ?_)
  · refine go ?_
    refine s_call1 (wn rfl) rfl rfl (flags5_any _ _ _ hv r1) ?_
    rintro _ w13 ⟨rfl, hb13⟩
    have sw13 := hb13.size
    replace hcl := hcl.below hb13
    replace hv := hv.below hb13
    replace hc3 := cell_below hc3 hb13
    replace hl := hl.below hb13
    replace hw := hw.below hb13
    replace hs := hs.below hb13
    replace hbB2 := hbB2.trans (hb13.mono hbB2.size)
    refine go ?_
    refine s_call2 (wn rfl) rfl rfl rfl (below_any q (nf ms) _ c bs _ hs (by omega)) ?_
    rintro _ w14 ⟨y, rfl, hy0, hy, hsN, hgq14⟩
    have sw14 := hgq14.size
    replace hbB2 := hbB2.trans (gr_below hgq14 hbB2.size hs.low)
    replace hs := hsN
    clear hsN hgq14
    replace hcl := hcl_b2.below hbB2
    replace hv := hv_b2.below hbB2
    replace hc3 := cell_below hc3_b2 hbB2
    replace hl := hl_b2.below hbB2
    replace hw := hw_b2.below hbB2
    have hy1 := hy (by omega)
    have hgy := hper y hy1.1 hy1.2
    obtain ⟨e1, e2, _⟩ := hpm.per hy1
    refine go ?_
    refine w_loop (fun kk fr w' => ∃ (k : Nat), kk = per (nf ms) P y - k ∧ k ≤ per (nf ms) P y ∧ fr 3 = .pointer (some p3) ∧ fr 4 = lx ∧ fr 8 = ob ∧ fr 10 = .pointer (some ⟨q, 0, none⟩) ∧ fr 11 = .int .i64 i ∧ fr 12 = .int .i64 y ∧ fr 13 = .int .i64 (itr P y k) ∧ fr 14 = .int .i64 ((k : Int) + 1) ∧ (Sr w' w8.heap.size q 95 c bs) ∧ Below w8.heap.size w8 w') (per (nf ms) P y)
      ⟨0, rfl, Nat.zero_le _, rfl, rfl, rfl, rfl, rfl, rfl, rfl, rfl, hs, hbB2⟩ ?_
    rintro kk fr w15 ⟨k, rfl, hk, f3, f4, f8, f10, f11, f12, f13, f14, hs, hbB2⟩
    have sw15 := hbB2.size
    have hcl := hcl_b2.below hbB2
    have hv := hv_b2.below hbB2
    have hc3 := cell_below hc3_b2 hbB2
    have hl := hl_b2.below hbB2
    have hw := hw_b2.below hbB2
    refine know (t := 3) f3 ?_; refine know (t := 4) f4 ?_; refine know (t := 8) f8 ?_; refine know (t := 10) f10 ?_; refine know (t := 11) f11 ?_; refine know (t := 12) f12 ?_; refine know (t := 13) f13 ?_; refine know (t := 14) f14 ?_
    refine go ?_
    refine cond_dec rfl (fun hlt2 => ?_) (fun hge2 => ?_)
    · have hg := hpm.itr hy1 k
      have hg1 := hpm.itr hy1 (k + 1)
      have hk1 : k + 1 ≤ per (nf ms) P y := by omega
      have hnx : run ms (idl ms.length) (itr P y k) = itr P y (k + 1) := hrun _ hg.1 hg.2
      have hpn := hpm.per_next hy1 (k + 1)
      have hgn := hper _ hg1.1 hg1.2
      rw [hpn] at hgn
      have hiff := hpm.itr_iff hy1 (k := k + 1) (by omega) hk1
      refine go ?_
      refine s_call3 (wn rfl) rfl rfl rfl rfl (RunMoves_good _ _ _ (itr P y k) _ _ hv hw.il hm hwi hg) ?_
      rintro _ w16 ⟨rfl, hb16⟩
      have sw16 := hb16.size
      replace hcl := hcl.below hb16
      replace hv := hv.below hb16
      replace hc3 := cell_below hc3 hb16
      replace hl := hl.below hb16
      replace hw := hw.below hb16
      replace hs := hs.below hb16
      replace hbB2 := hbB2.trans (hb16.mono hbB2.size)
      rw [hnx]
      have k1 : ¬ (itr P y (k + 1) < 0) := by omega
      have k2 : ¬ (itr P y (k + 1) ≥ nf ms) := by omega
      have k3 : ¬ (gi L (itr P y (k + 1)) ≠ gi L y) := by rw [hgn, hgy]; exact fun h => h rfl
      have k4 : ¬ (decide (itr P y (k + 1) = y) ≠ decide ((k : Int) + 1 = gi L y)) := by
        rw [hgy]
        refine fun h => h (decide_eq_decide.2 ?_)
        rw [hiff]; omega
      refine go ?_
      refine region_h mixed (fun w17 hc17 => ?_)
      have swr17 := hc17.size
      refine h_p 0 hc17 ?_
      refine h_p 1 hc17 ?_
      refine h_p 2 hc17 ?_
      refine h_p 3 hc17 ?_
      refine h_p 4 hc17 ?_
      refine h_p 5 hc17 ?_
      refine h_p 6 hc17 ?_
      refine h_p 7 hc17 ?_
      refine h_p 8 hc17 ?_
      refine h_one 9 ?_
      refine s_call1 (wy rfl rfl rfl rfl rfl known) rfl rfl (flags5_any _ _ _ (hv.below hc17) r1) ?_
      rintro _ w18 ⟨rfl, hb18⟩
      have hc18 := hc17.trans (hb18.mono hc17.size)
      refine w_nil ?_
      refine h_on ⟨hc18, ?_⟩
      refine h_p 10 hc18 ?_
      refine h_p 11 hc18 ?_
      refine h_p 12 hc18 ?_
      refine h_p 13 hc18 ?_
      refine h_p 14 hc18 ?_
      refine h_p 15 hc18 ?_
      refine h_p 16 hc18 ?_
      refine h_p 17 hc18 ?_
      refine h_p 18 hc18 ?_
      refine h_p 19 hc18 ?_
      refine h_p 20 hc18 ?_
      refine h_p 21 hc18 ?_
      refine h_p 22 hc18 ?_
      refine h_p 23 hc18 ?_
      refine h_p 24 hc18 ?_
      refine h_p 25 hc18 ?_
      refine h_p 26 hc18 ?_
      refine h_p 27 hc18 ?_
      refine h_p 28 hc18 ?_
      refine h_p 29 hc18 ?_
      refine h_p 30 hc18 ?_
      refine h_p 31 hc18 ?_
      refine h_p 32 hc18 ?_
      refine h_p 33 hc18 ?_ (hrun := fun _ _ => y_neqB rfl rfl)
      refine h_p 34 hc18 ?_
      refine h_nil ?_
      have sw18 := hc18.size
      replace hcl := hcl.below hc18
      replace hv := hv.below hc18
      replace hc3 := cell_below hc3 hc18
      replace hl := hl.below hc18
      replace hw := hw.below hc18
      replace hs := hs.below hc18
      replace hbB2 := hbB2.trans (hc18.mono hbB2.size)
      refine go ?_
      refine ⟨per (nf ms) P y - (k + 1), by omega, k + 1, rfl, by omega, rfl, rfl, rfl, rfl, rfl, rfl, rfl, rfl, hs, hbB2⟩
    obtain rfl : k = per (nf ms) P y := by omega
    refine go ?_
    refine ⟨4 - (i + 1), by omega, i + 1, rfl, by omega, rfl, rfl, rfl, rfl, rfl, hs, hbB2⟩
  obtain rfl : i = 4 := by omega
  refine go ?_
  refine s_call2 (wn rfl) rfl rfl rfl (implWordPeriod_any _ _ _ _ _ hv hw.il) ?_
  rintro _ w19 ⟨rfl, hb19⟩
  have sw19 := hb19.size
  replace hcl := hcl.below hb19
  replace hv := hv.below hb19
  replace hc3 := cell_below hc3 hb19
  replace hl := hl.below hb19
  replace hw := hw.below hb19
  replace hs := hs.below hb19
  replace hbB2 := hbB2.trans (hb19.mono hbB2.size)
  refine go ?_
  have hwc : wordC ms (idl ms.length) = 0 := (word_3 hm hwi).2
  by_cases ho : ord (nf ms) (does ms (idl ms.length) (nf ms)) ≤ 1000000000000000
  rotate_left
  · have e := wp_2 hwc ho
    rw [e.2]
    refine go ?_
    exact end_one Try.results5 rfl ⟨rfl, ((hb.trans (hbB1.mono hb.size)).trans (hbB2.mono (hb.trans (hbB1.mono hb.size)).size))⟩
  have e := wp_3 hwc ho
  rw [e.1, e.2]
  rw [hPe] at ho ⊢
  refine go ?_
  refine w_loop (fun kk fr w' => ∃ (i : Nat), kk = nf ms - i ∧ i ≤ nf ms ∧ fr 4 = lx ∧ fr 17 = .int .i64 (ord (nf ms) P) ∧ fr 19 = .int .i64 i ∧ Below w8.heap.size w8 w') (nf ms)
    ⟨0, rfl, Nat.zero_le _, rfl, rfl, rfl, hbB2⟩ ?_
  rintro kk fr w20 ⟨i, rfl, hi, f4, f17, f19, hbB2⟩
  have sw20 := hbB2.size
  have hcl := hcl_b2.below hbB2
  have hv := hv_b2.below hbB2
  have hc3 := cell_below hc3_b2 hbB2
  have hl := hl_b2.below hbB2
  have hw := hw_b2.below hbB2
  refine know (t := 4) f4 ?_; refine know (t := 17) f17 ?_; refine know (t := 19) f19 ?_
  refine go ?_
  refine cond_dec rfl (fun hlt => ?_) (fun hge => ?_)
  · have hgi := hper i (by omega) (by omega)
    obtain ⟨e1, _⟩ := hpm.per (x := (i : Int)) (by omega)
    have hmod := emod_dvd (hpm.per_dvd (x := (i : Int)) (by omega))
    rw [← hgi] at hmod
    have k1 : ¬ ((ord (nf ms) P : Int) % gi L i ≠ 0) := fun h => h hmod
    refine go ?_
    refine ⟨nf ms - (i + 1), by omega, i + 1, rfl, by omega, rfl, rfl, rfl, hbB2⟩
  obtain rfl : i = nf ms := by omega
  refine go ?_
  exact end_one Try.results5 rfl ⟨rfl, ((hb.trans (hbB1.mono hb.size)).trans (hbB2.mono (hb.trans (hbB1.mono hb.size)).size))⟩


set_option maxRecDepth 100000 in
theorem liftedPetrieLengths (os : Os) (started : os.Started) (H : Type) (enc : TypeId × Value → H) :
    ReturnsInHanded {} Try.checked os 5 .any (Rows.fnPetrieLengthsSpec.pre6 enc Try.prog Try.f5 Rows.fnPetrieLengthsRow.domain false) (Rows.fnPetrieLengthsSpec.post enc Try.prog Try.f5 false true false false) := by
  refine returnsInHanded_of_change (C := Try.checked) own started (by kernel_rfl) Try.func5
    (ChangeSpec.witness6 (enc := enc) (C := Try.checked) false ⟨#[], #[.slice none 0 0], []⟩ 8 (by kernel_rfl) (by kernel_rfl) (by kernel_rfl) (by kernel_rfl)) ?_
  intro W base args ds gs before hval0 hW hcnd _
  have hval : ∀ (j : Nat) t v, Try.f5.params[j]? = some t → args[j]? = some v → Value.okWide Try.prog W .any base t v := hval0
  have hW' := hW
  obtain ⟨p, q, hA0, hV, rfl, hfz, hnd⟩ := hW
  have hA : DataW.TrodAll enc Try.prog W 0 (fun _ => true) true Try.f5.params.toList args.toList ds p := hA0
  rw [Try.params5] at hA hval
  obtain ⟨v0, vs0, d0, ds0, p0, q0, hargs, rfl, rfl, h0, r0⟩ := trodAll_cons hA
  obtain ⟨rfl, rfl, rfl⟩ := trodAll_nil r0
  obtain rfl : args = #[v0] := by cases args; simp_all
  obtain ⟨rfl, rfl⟩ := trodVars_none hV
  have lt0 : ∀ x ∈ p0, x.block < W.heap.size := by obtain ⟨m, hm⟩ := h0; exact DataW.trod_lt m _ _ _ hm
  obtain ⟨xs0, hu0⟩ := open_arg_B (hval 0 37 v0 rfl rfl) h0
  clear hA0 hval0
  refine Calls.mono (lawPetrieLengths_any v0 xs0 W hu0) fun e W' ⟨v, he, hv, bel⟩ => ?_
  subst he
  subst hv
  exact ⟨_, rfl, _, _, _, [], _, [], hW', trodAll_mk1 (shut_bool Try.underlying4 _), (trodAll_cons_mk (Below.trod laidOut (by kernel_rfl) (of_decide_eq_true (by kernel_rfl)) h0 bel lt0) trodAll_mk0), rfl, bel.frame _, fun h => by cases h⟩

theorem provedPetrieLengths : Rows.FnPetrieLengthsSaid :=
  OpenClaim.holds_of_wide 5 Try.f5 rfl rfl rfl rfl rfl rfl rfl ⟨rfl, rfl, rfl, rfl, rfl⟩ rfl rfl rfl rfl rfl (by kernel_rfl) Try.func5 (by kernel_rfl)
    (of_decide_eq_true (by kernel_rfl)) (by unfold Func.isWrapper; first | (rw [if_pos (by decide +kernel)]; kernel_rfl) | (rw [if_neg (by decide +kernel)]; exact ⟨rfl, rfl⟩))
    (fun os started H enc _ => liftedPetrieLengths os started H enc)

end Go.Proofs.Ytlodnhflfijomaa
