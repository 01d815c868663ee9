/- Contracts: the orbits of flags; FlagOrbits, IsRegular, IsChiral, on both sides. -/
import Derived.Test.YtebcaajlkealoaaF18
namespace Go.Proofs.Ytebcaajlkealoaa
open Go.Mem Go.RowKit
set_option linter.unusedVariables false


set_option maxRecDepth 100000 in
theorem l06Orbits_any (v : Value) (ms : List (List Int)) (w : World) (hv : RL w v ms) (hm : IsMan ms) :
    Ret Try.prog 73 #[.agg #[v]] w fun r w' => OI w' w.heap.size 2 r (labs (nf ms) (auts ms)) ∧ Below w.heap.size w w' := by
  have shv := hv.sv
  have hb := Below.refl w.heap.size w
  refine enter1 8 Try.func73 rfl Try.ntmps73 rfl (fun fr => ?_)
  have h1 := hm.m0.r1
  have h4 := hm.m0.f400
  have ha := auts_le hm
  refine go ?_
  refine s_box (wn rfl) rfl rfl (agg_cells shv) (fun w1 hbx _ hp hg => ?_)
  have hb1 := below_of_grownBy hg
  replace hv := hv.below hb1
  replace hb := hb.trans (hb1.mono hb.size)
  clear hg hp hb1
  generalize (⟨w.heap.size, 0, none⟩ : Addr) = p at *
  have hs0 := hb.size
  refine go ?_
  refine region_h mixed (fun w2 hc2 => ?_)
  refine h_p 0 hc2 ?_
  refine h_p 2 hc2 ?_
  refine h_one 1 ?_
  refine s_call1 (wn rfl) rfl rfl (l02Flags_any _ _ _ (hv.below hc2) h1) ?_
  rintro _ w3 ⟨rfl, hb3⟩
  have hc3 := hc2.trans (hb3.mono hc2.size)
  refine w_nil ?_
  refine h_on ⟨hc3, ?_⟩
  refine h_one 3 ?_
  refine s_call1 (wn rfl) rfl rfl (l06All_any _ _ _ (hv.below hc3) hm) ?_
  rintro x w4 ⟨hx, hb4⟩
  have hc4 := hc3.trans (hb4.mono hc3.size)
  refine w_nil ?_
  refine h_on ⟨hc4, ?_⟩
  refine h_one 4 ?_
  refine s_call2 (wn rfl) rfl rfl rfl (l01Orbits_any _ _ _ _ hx.rl (auts_sym hm) (by omega) (by unfold auts at ha; omega)) ?_
  rintro y w5 ⟨hy, hb5⟩
  have hc5 := hc4.trans (hb5.mono hc4.size)
  replace hx := hx.below hb5
  refine w_nil ?_
  refine h_on ⟨hc5, ?_⟩
  have hs2 := hc5.size
  have hy := hy.mono (B' := w.heap.size) (by have := hc2.size; have := hc3.size; have := hc4.size; omega)
  refine h_p 5 hc5 ?_
  refine h_nil ?_
  replace hv := hv.below hc5
  replace hbx := cell_below hbx hc5
  replace hb := hb.trans (hc5.mono hb.size)
  refine go ?_
  exact end_one Try.results73 rfl ⟨hy, hb⟩

set_option maxRecDepth 100000 in
theorem flagOrbits_any (v : Value) (pv : Addr) (ms : List (List Int)) (w : World) (hv : RL w v ms) (hxv : w.cell? pv = some v) (hm : IsMan ms) :
    Ret Try.prog 56 #[.pointer (some pv)] w fun r w' => ∃ lb, r = .tuple #[lb, .int .i64 (labc (nf ms) (auts ms))] ∧ OI w' w.heap.size 2 lb (labs (nf ms) (auts ms)) ∧ Below w.heap.size w w' := by
  have shv := hv.sv
  have hb := Below.refl w.heap.size w
  refine enter1 16 Try.func56 rfl Try.ntmps56 rfl (fun fr => ?_)
  have h1 := hm.m0.r1
  have h4 := hm.m0.f400
  have ha := auts_le hm
  refine go ?_
  refine region_h mixed (fun w1 hc1 => ?_)
  refine h_p 0 hc1 ?_
  refine h_p 2 hc1 ?_
  refine h_p 3 hc1 ?_
  refine h_p 4 hc1 ?_
  refine h_p 5 hc1 ?_
  refine h_p 6 hc1 ?_
  refine h_p 7 hc1 ?_
  refine h_one 1 ?_
  refine s_call1 (wn rfl) rfl rfl (flags_any _ _ _ _ (cell_below hxv hc1) (hv.below hc1) h1) ?_
  rintro _ _ ⟨rfl, rfl⟩
  refine w_nil ?_
  refine h_on ⟨hc1, ?_⟩
  refine h_one 8 ?_
  refine s_call2 (wn rfl) rfl rfl rfl (coveringsOf_any _ _ _ _ _ (hv.below hc1) (hv.below hc1) hm hm) ?_
  rintro x w2 ⟨hx, hb2⟩
  have hc2 := hc1.trans (hb2.mono hc1.size)
  refine w_nil ?_
  refine h_on ⟨hc2, ?_⟩
  refine h_one 9 ?_
  refine s_call2 (wn rfl) rfl rfl rfl (orbitLabels_any _ _ _ _ hx.rl (auts_sym hm) (by omega) (by unfold auts at ha; omega)) ?_
  rintro _ w3 ⟨lb, rfl, hy, hb3⟩
  have hc3 := hc2.trans (hb3.mono hc2.size)
  replace hx := hx.below hb3
  refine w_nil ?_
  refine h_on ⟨hc3, ?_⟩
  have hy := hy.mono (B' := w.heap.size) (by have := hc1.size; have := hc2.size; have := hc3.size; omega)
  refine h_p 10 hc3 ?_
  refine h_p 11 hc3 ?_
  refine h_p 12 hc3 ?_
  refine h_p 13 hc3 ?_
  refine h_nil ?_
  replace hv := hv.below hc3
  replace hxv := cell_below hxv hc3
  replace hb := hb.trans (hc3.mono hb.size)
  refine go ?_
  exact end_two Try.results56 rfl rfl ⟨lb, rfl, hy, hb⟩

set_option maxRecDepth 100000 in
theorem specFlagOrbits_any (v : Value) (ms : List (List Int)) (w : World) (hv : RL w v ms) :
    Ret Try.prog 44 #[.agg #[v]] w fun r w' => ∃ x, r = .tuple #[x, .int .i64 (manC ms)] ∧ OI w' w.heap.size 2 x (flagOrb ms) ∧ Below w.heap.size w w' := by
  have shv := hv.sv
  have hb := Below.refl w.heap.size w
  refine enter1 9 Try.func44 rfl Try.ntmps44 rfl (fun fr => ?_)
  refine go ?_
  refine s_box (wn rfl) rfl rfl (agg_cells shv) (fun w1 hbx _ hp hg => ?_)
  have hb1 := below_of_grownBy hg
  replace hv := hv.below hb1
  replace hb := hb.trans (hb1.mono hb.size)
  clear hg hp hb1
  generalize (⟨w.heap.size, 0, none⟩ : Addr) = p at *
  refine go ?_
  refine s_call1 (wn rfl) rfl rfl (l02Is_any _ _ _ hv) ?_
  rintro _ w2 ⟨rfl, hb2⟩
  replace hv := hv.below hb2
  replace hbx := cell_below hbx hb2
  replace hb := hb.trans (hb2.mono hb.size)
  refine splitb (decide (IsMan ms)) (fun hm => ?_) (fun hm => ?_)
  rotate_left
  · have hm := of_decide_eq_false hm
    have e := And.intro (flagOrb_no hm) (manC_no hm)
    refine go ?_
    exact end_two Try.results44 rfl rfl ⟨.slice none 0 0, by rw [e.2], by rw [e.1]; exact OI.nil _ _ _, hb⟩
  have hm' := of_decide_eq_true hm
  have hs0 := hb.size
  refine go ?_
  refine s_call1 (wn rfl) rfl rfl (l06Orbits_any _ _ _ hv hm') ?_
  rintro x w3 ⟨hx, hb3⟩
  replace hv := hv.below hb3
  replace hbx := cell_below hbx hb3
  replace hb := hb.trans (hb3.mono hb.size)
  refine go ?_
  exact end_two Try.results44 rfl rfl ⟨x, by rw [manC_yes hm'], by rw [flagOrb_yes hm']; exact hx.mono hs0, hb⟩

set_option maxRecDepth 100000 in
theorem implFlagOrbits_any (v : Value) (ms : List (List Int)) (w : World) (hv : RL w v ms) :
    Ret Try.prog 45 #[.agg #[v]] w fun r w' => ∃ x, r = .tuple #[x, .int .i64 (manC ms)] ∧ OI w' w.heap.size 2 x (flagOrb ms) ∧ Below w.heap.size w w' := by
  have shv := hv.sv
  have hb := Below.refl w.heap.size w
  refine enter1 14 Try.func45 rfl Try.ntmps45 rfl (fun fr => ?_)
  refine go ?_
  refine s_box (wn rfl) rfl rfl (agg_cells shv) (fun w1 hbx _ hp hg => ?_)
  have hb1 := below_of_grownBy hg
  replace hv := hv.below hb1
  replace hb := hb.trans (hb1.mono hb.size)
  clear hg hp hb1
  generalize (⟨w.heap.size, 0, none⟩ : Addr) = p at *
  refine go ?_
  refine s_call1 (wn rfl) rfl rfl (isManiplex_any _ _ _ hv) ?_
  rintro _ w2 ⟨rfl, hb2⟩
  replace hv := hv.below hb2
  replace hbx := cell_below hbx hb2
  replace hb := hb.trans (hb2.mono hb.size)
  refine splitb (decide (IsMan ms)) (fun hm => ?_) (fun hm => ?_)
  rotate_left
  · have hm := of_decide_eq_false hm
    have e := And.intro (flagOrb_no hm) (manC_no hm)
    refine go ?_
    exact end_two Try.results45 rfl rfl ⟨.slice none 0 0, by rw [e.2], by rw [e.1]; exact OI.nil _ _ _, hb⟩
  have hm' := of_decide_eq_true hm
  have hs0 := hb.size
  refine go ?_
  refine s_call1 (wn rfl) rfl rfl (flagOrbits_any _ _ _ _ hv hbx hm') ?_
  rintro _ w3 ⟨x, rfl, hx, hb3⟩
  replace hv := hv.below hb3
  replace hbx := cell_below hbx hb3
  replace hb := hb.trans (hb3.mono hb.size)
  refine go ?_
  exact end_two Try.results45 rfl rfl ⟨x, by rw [manC_yes hm'], by rw [flagOrb_yes hm']; exact hx.mono hs0, hb⟩

set_option maxRecDepth 100000 in
theorem specIsRegular_any (v : Value) (ms : List (List Int)) (w : World) (hv : RL w v ms) :
    Ret Try.prog 16 #[.agg #[v]] w fun r w' => r = .tuple #[.bool (isReg ms), .int .i64 (manC ms)] ∧ Below w.heap.size w w' := by
  have shv := hv.sv
  have hb := Below.refl w.heap.size w
  refine enter1 13 Try.func16 rfl Try.ntmps16 rfl (fun fr => ?_)
  refine go ?_
  refine s_box (wn rfl) rfl rfl (agg_cells shv) (fun w1 hbx _ hp hg => ?_)
  have hb1 := below_of_grownBy hg
  replace hv := hv.below hb1
  replace hb := hb.trans (hb1.mono hb.size)
  clear hg hp hb1
  generalize (⟨w.heap.size, 0, none⟩ : Addr) = p at *
  refine go ?_
  refine s_call1 (wn rfl) rfl rfl (l02Is_any _ _ _ hv) ?_
  rintro _ w2 ⟨rfl, hb2⟩
  replace hv := hv.below hb2
  replace hbx := cell_below hbx hb2
  replace hb := hb.trans (hb2.mono hb.size)
  refine splitb (decide (IsMan ms)) (fun hm => ?_) (fun hm => ?_)
  rotate_left
  · have hm := of_decide_eq_false hm
    have e := And.intro (isReg_no hm) (manC_no hm)
    refine go ?_
    exact end_two Try.results16 rfl rfl ⟨by rw [e.1, e.2], hb⟩
  have hm' := of_decide_eq_true hm
  have h1 := hm'.m0.r1
  refine go ?_
  refine region_h mixed (fun w3 hc3 => ?_)
  refine h_p 0 hc3 ?_
  refine h_p 3 hc3 ?_
  refine h_one 1 ?_
  refine s_call1 (wn rfl) rfl rfl (l06All_any _ _ _ (hv.below hc3) hm') ?_
  rintro x w4 ⟨hx, hb4⟩
  have hc4 := hc3.trans (hb4.mono hc3.size)
  refine w_nil ?_
  refine h_on ⟨hc4, ?_⟩
  have sx := hx.sv
  refine h_p 2 hc4 ?_
  refine h_one 4 ?_
  refine s_call1 (wn rfl) rfl rfl (l02Flags_any _ _ _ (hv.below hc4) h1) ?_
  rintro _ w5 ⟨rfl, hb5⟩
  have hc5 := hc4.trans (hb5.mono hc4.size)
  replace hx := hx.below hb5
  refine w_nil ?_
  refine h_on ⟨hc5, ?_⟩
  refine h_p 5 hc5 ?_
  refine h_p 6 hc5 ?_
  refine h_p 7 hc5 ?_
  refine h_nil ?_
  replace hv := hv.below hc5
  replace hbx := cell_below hbx hc5
  replace hb := hb.trans (hc5.mono hb.size)
  refine go ?_
  exact end_two Try.results16 rfl rfl ⟨by rw [isReg_cnt hm', manC_yes hm']; rfl, hb⟩

set_option maxRecDepth 100000 in
theorem implIsRegular_any (v : Value) (ms : List (List Int)) (w : World) (hv : RL w v ms) :
    Ret Try.prog 18 #[.agg #[v]] w fun r w' => r = .tuple #[.bool (isReg ms), .int .i64 (manC ms)] ∧ Below w.heap.size w w' := by
  have shv := hv.sv
  have hb := Below.refl w.heap.size w
  refine enter1 15 Try.func18 rfl Try.ntmps18 rfl (fun fr => ?_)
  refine go ?_
  refine s_box (wn rfl) rfl rfl (agg_cells shv) (fun w1 hbx _ hp hg => ?_)
  have hb1 := below_of_grownBy hg
  replace hv := hv.below hb1
  replace hb := hb.trans (hb1.mono hb.size)
  clear hg hp hb1
  generalize (⟨w.heap.size, 0, none⟩ : Addr) = p at *
  refine go ?_
  refine s_call1 (wn rfl) rfl rfl (isManiplex_any _ _ _ hv) ?_
  rintro _ w2 ⟨rfl, hb2⟩
  replace hv := hv.below hb2
  replace hbx := cell_below hbx hb2
  replace hb := hb.trans (hb2.mono hb.size)
  refine splitb (decide (IsMan ms)) (fun hm => ?_) (fun hm => ?_)
  rotate_left
  · have hm := of_decide_eq_false hm
    have e := And.intro (isReg_no hm) (manC_no hm)
    refine go ?_
    exact end_two Try.results18 rfl rfl ⟨by rw [e.1, e.2], hb⟩
  have hm' := of_decide_eq_true hm
  refine go ?_
  refine s_call1 (wn rfl) rfl rfl (flagOrbits_any _ _ _ _ hv hbx hm') ?_
  rintro _ w3 ⟨x, rfl, hx, hb3⟩
  replace hv := hv.below hb3
  replace hbx := cell_below hbx hb3
  replace hb := hb.trans (hb3.mono hb.size)
  refine go ?_
  exact end_two Try.results18 rfl rfl ⟨by rw [isReg_yes hm', manC_yes hm'], hb⟩

set_option maxRecDepth 100000 in
theorem specIsChiral_any (v : Value) (ms : List (List Int)) (w : World) (hv : RL w v ms) :
    Ret Try.prog 46 #[.agg #[v]] w fun r w' => r = .tuple #[.bool (isChi ms), .int .i64 (manC ms)] ∧ Below w.heap.size w w' := by
  have shv := hv.sv
  have hb := Below.refl w.heap.size w
  refine enter1 44 Try.func46 rfl Try.ntmps46 rfl (fun fr => ?_)
  refine go ?_
  refine s_box (wn rfl) rfl rfl (agg_cells shv) (fun w1 hbx _ hp hg => ?_)
  have hb1 := below_of_grownBy hg
  replace hv := hv.below hb1
  replace hb := hb.trans (hb1.mono hb.size)
  clear hg hp hb1
  generalize (⟨w.heap.size, 0, none⟩ : Addr) = p at *
  refine go ?_
  refine s_call1 (wn rfl) rfl rfl (l02Is_any _ _ _ hv) ?_
  rintro _ w2 ⟨rfl, hb2⟩
  replace hv := hv.below hb2
  replace hbx := cell_below hbx hb2
  replace hb := hb.trans (hb2.mono hb.size)
  refine splitb (decide (IsMan ms)) (fun hm => ?_) (fun hm => ?_)
  rotate_left
  · have hm := of_decide_eq_false hm
    have e := And.intro (isChi_no hm) (manC_no hm)
    refine go ?_
    exact end_two Try.results46 rfl rfl ⟨by rw [e.1, e.2], hb⟩
  have hm' := of_decide_eq_true hm
  have h1 := hm'.m0.r1
  have h5 := hm'.m0.r5
  have h4 := hm'.m0.f400
  have hL := labs_all (auts_sym hm') (by omega)
  have hc0 := hL.c0
  have hll := hL.len
  have hgr := gre_labs (auts_sym hm') (by omega)
  have hmem := hL.mem
  refine go ?_
  refine s_call1 (wn rfl) rfl rfl (l06Orbits_any _ _ _ hv hm') ?_
  rintro lb w3 ⟨hx, hb3⟩
  replace hv := hv.below hb3
  replace hbx := cell_below hbx hb3
  replace hb := hb.trans (hb3.mono hb.size)
  refine go ?_
  refine s_call1 (wn rfl) rfl rfl (l02Greatest_any _ _ _ hx.il (fun x h => by have := hmem x h; omega)) ?_
  rintro _ _ ⟨rfl, rfl⟩
  refine go ?_
  rw [hgr]
  refine cond_dec rfl (fun h => ?_) (fun h => ?_)
  · refine go ?_
    exact end_two Try.results46 rfl rfl ⟨by rw [isChi_yes hm', manC_yes hm', decide_eq_false (fun e => h e.1)], hb⟩
  have e2 : labc (nf ms) (auts ms) = 2 := Decidable.not_not.1 h
  have hy := isChi_yes hm'
  generalize labs (nf ms) (auts ms) = L at *
  have sx := hx.sv
  have svv := hv.sv
  refine go ?_
  refine w_loop (fun k fr w' => ∃ (f : Nat), k = L.length - f ∧ f ≤ L.length ∧ fr 1 = .pointer (some p) ∧ fr 4 = lb ∧ fr 5 = .int .i64 f ∧ (∀ g : Nat, g < f → ∀ j : Nat, j < ms.length → gi L (gi (gr ms j) g) ≠ gi L g) ∧ Below w3.heap.size w3 w') L.length
    ⟨0, rfl, Nat.zero_le _, rfl, rfl, rfl, fun g hg => by omega, Below.refl _ _⟩ ?_
  rintro k fr wa ⟨f, rfl, hf, f1, f4, f5, hall, hba⟩
  have hva := hv.below hba
  have hxa := hx.below hba
  have hbxa := cell_below hbx hba
  have sxa := hxa.sv
  refine know (t := 1) f1 ?_; refine know (t := 4) f4 ?_; refine know (t := 5) f5 ?_
  refine go ?_
  refine cond_dec rfl (fun hlt => ?_) (fun hge => ?_)
  rotate_left
  · obtain rfl : f = L.length := by omega
    refine go ?_
    exact end_two Try.results46 rfl rfl ⟨by rw [hy, manC_yes hm', decide_eq_true]; exact ⟨e2, fun j hj f hf => hall f (by omega) j hj⟩, hb.trans (hba.mono hb.size)⟩
  refine go ?_
  refine w_loop (fun k fr w' => ∃ (j : Nat), k = ms.length - j ∧ j ≤ ms.length ∧ fr 1 = .pointer (some p) ∧ fr 4 = lb ∧ fr 5 = .int .i64 f ∧ fr 6 = .int .i64 j ∧ (∀ i : Nat, i < j → gi L (gi (gr ms i) f) ≠ gi L f) ∧ Below w3.heap.size w3 w') ms.length
    ⟨0, rfl, Nat.zero_le _, rfl, rfl, rfl, rfl, fun g hg => by omega, hba⟩ ?_
  rintro k fr wb ⟨j, rfl, hj, f1, f4, f5, f6, hall2, hbb⟩
  have hvb := hv.below hbb
  have hxb := hx.below hbb
  have hbxb := cell_below hbx hbb
  have sxb := hxb.sv
  refine know (t := 1) f1 ?_; refine know (t := 4) f4 ?_; refine know (t := 5) f5 ?_; refine know (t := 6) f6 ?_
  refine go ?_
  refine cond_dec rfl (fun hlt2 => ?_) (fun hge2 => ?_)
  · have hyy := hm'.syst.at (j := (j : Int)) (x := (f : Int)) (by omega) hlt2 (by omega)
    have hrow := hm'.syst.row (j := (j : Int)) (by omega) hlt2
    have hrl := hrow.1
    obtain ⟨u, hu, hcu⟩ := hvb.row (j := (j : Int)) (by omega) (by omega)
    have su := hu.sv
    refine go ?_
    refine region_q mixed (by kernel_rfl) ?_; refine qo ?_; refine q_nil ?_
    intro wc hbc
    have hbc := hbb.trans (hbc.mono hbb.size)
    refine go ?_
    refine cond_dec rfl (fun heq => ?_) (fun hne => ?_)
    · refine go ?_
      exact end_two Try.results46 rfl rfl ⟨by rw [hy, manC_yes hm', decide_eq_false]; exact fun e => e.2 j (by omega) f (by omega) heq, hb.trans (hbc.mono hb.size)⟩
    · refine go ?_
      refine ⟨ms.length - (j + 1), by omega, j + 1, rfl, by omega, rfl, rfl, rfl, rfl, fun i hi => ?_, hbc⟩
      by_cases hij : i = j
      · subst hij; exact hne
      · exact hall2 i (by omega)
  · obtain rfl : j = ms.length := by omega
    refine go ?_
    refine ⟨L.length - (f + 1), by omega, f + 1, rfl, by omega, rfl, rfl, rfl, fun g hg => ?_, hbb⟩
    by_cases hgf : g = f
    · subst hgf; exact hall2
    · exact hall g (by omega)

set_option maxRecDepth 100000 in
theorem implIsChiral_any (v : Value) (ms : List (List Int)) (w : World) (hv : RL w v ms) :
    Ret Try.prog 47 #[.agg #[v]] w fun r w' => r = .tuple #[.bool (isChi ms), .int .i64 (manC ms)] ∧ Below w.heap.size w w' := by
  have shv := hv.sv
  have hb := Below.refl w.heap.size w
  refine enter1 44 Try.func47 rfl Try.ntmps47 rfl (fun fr => ?_)
  refine go ?_
  refine s_box (wn rfl) rfl rfl (agg_cells shv) (fun w1 hbx _ hp hg => ?_)
  have hb1 := below_of_grownBy hg
  replace hv := hv.below hb1
  replace hb := hb.trans (hb1.mono hb.size)
  clear hg hp hb1
  generalize (⟨w.heap.size, 0, none⟩ : Addr) = p at *
  refine go ?_
  refine s_call1 (wn rfl) rfl rfl (isManiplex_any _ _ _ hv) ?_
  rintro _ w2 ⟨rfl, hb2⟩
  replace hv := hv.below hb2
  replace hbx := cell_below hbx hb2
  replace hb := hb.trans (hb2.mono hb.size)
  refine splitb (decide (IsMan ms)) (fun hm => ?_) (fun hm => ?_)
  rotate_left
  · have hm := of_decide_eq_false hm
    have e := And.intro (isChi_no hm) (manC_no hm)
    refine go ?_
    exact end_two Try.results47 rfl rfl ⟨by rw [e.1, e.2], hb⟩
  have hm' := of_decide_eq_true hm
  have h1 := hm'.m0.r1
  have h5 := hm'.m0.r5
  have h4 := hm'.m0.f400
  have hL := labs_all (auts_sym hm') (by omega)
  have hc0 := hL.c0
  have hll := hL.len
  have hmem := hL.mem
  refine go ?_
  refine s_call1 (wn rfl) rfl rfl (flagOrbits_any _ _ _ _ hv hbx hm') ?_
  rintro _ w3 ⟨lb, rfl, hx, hb3⟩
  replace hv := hv.below hb3
  replace hbx := cell_below hbx hb3
  replace hb := hb.trans (hb3.mono hb.size)
  have hy := isChi_yes hm'
  generalize labs (nf ms) (auts ms) = L at *
  have sx := hx.sv
  have svv := hv.sv
  refine go ?_
  refine w_loop (fun k fr w' => ∃ (j : Nat), k = ms.length - j ∧ j ≤ ms.length ∧ fr 4 = lb ∧ fr 5 = .int .i64 (labc (nf ms) (auts ms)) ∧ fr 18 = v ∧ fr 19 = .int .i64 ms.length ∧ fr 20 = .int .i64 j ∧ (∀ i : Nat, i < j → ∀ g : Nat, g < nf ms → gi L (gi (gr ms i) g) ≠ gi L g) ∧ Below w3.heap.size w3 w') ms.length
    ⟨0, rfl, Nat.zero_le _, rfl, rfl, rfl, rfl, rfl, fun g hg => by omega, Below.refl _ _⟩ ?_
  rintro k fr wa ⟨j, rfl, hj, f4, f5, f18, f19, f20, hall, hba⟩
  have hva := hv.below hba
  have hxa := hx.below hba
  refine know (t := 4) f4 ?_; refine know (t := 5) f5 ?_; refine know (t := 18) f18 ?_; refine know (t := 19) f19 ?_; refine know (t := 20) f20 ?_
  refine go ?_
  refine cond_dec rfl (fun hlt => ?_) (fun hge => ?_)
  rotate_left
  · obtain rfl : j = ms.length := by omega
    refine go ?_
    exact end_two Try.results47 rfl rfl ⟨by
      rw [hy, manC_yes hm']
      have : (labc (nf ms) (auts ms) = 2 ∧ ChiAt ms L) ↔ labc (nf ms) (auts ms) = 2 := ⟨fun h => h.1, fun h => ⟨h, fun j hj f hf => hall j hj f hf⟩⟩
      rw [decide_eq_decide.2 this], hb.trans (hba.mono hb.size)⟩
  obtain ⟨u, hu, hcu⟩ := hva.row (j := (j : Int)) (by omega) (by omega)
  have su := hu.sv
  have hrow := hm'.syst.row (j := (j : Int)) (by omega) hlt
  have hrl := hrow.1
  rw [hrl] at su
  refine go ?_
  refine w_loop (fun k fr w' => ∃ (f : Nat), k = nf ms - f ∧ f ≤ nf ms ∧ fr 4 = lb ∧ fr 5 = .int .i64 (labc (nf ms) (auts ms)) ∧ fr 18 = v ∧ fr 19 = .int .i64 ms.length ∧ fr 20 = .int .i64 j ∧ fr 24 = u ∧ fr 25 = .int .i64 (nf ms) ∧ fr 26 = .int .i64 f ∧ (∀ g : Nat, g < f → gi L (gi (gr ms j) g) ≠ gi L g) ∧ Below wa.heap.size wa w') (nf ms)
    ⟨0, rfl, Nat.zero_le _, rfl, rfl, rfl, rfl, rfl, rfl, rfl, rfl, fun g hg => by omega, Below.refl _ _⟩ ?_
  rintro k fr wb ⟨f, rfl, hf, f4, f5, f18, f19, f20, f24, f25, f26, hall2, hbb⟩
  have hub := hu.below hbb
  have hxb := hxa.below hbb
  have sxb := hxb.sv
  refine know (t := 4) f4 ?_; refine know (t := 5) f5 ?_; refine know (t := 18) f18 ?_; refine know (t := 19) f19 ?_; refine know (t := 20) f20 ?_; refine know (t := 24) f24 ?_; refine know (t := 25) f25 ?_; refine know (t := 26) f26 ?_
  refine go ?_
  refine cond_dec rfl (fun hlt2 => ?_) (fun hge2 => ?_)
  · have hyy := hm'.syst.at (j := (j : Int)) (x := (f : Int)) (by omega) hlt (by omega)
    refine go ?_
    refine region_q mixed (by kernel_rfl) ?_; refine qo ?_; refine q_nil ?_
    intro wc hbc
    have hbc := hbb.trans (hbc.mono hbb.size)
    refine go ?_
    refine cond_dec rfl (fun heq => ?_) (fun hne => ?_)
    · refine go ?_
      exact end_two Try.results47 rfl rfl ⟨by rw [hy, manC_yes hm', decide_eq_false]; exact fun e => e.2 j (by omega) f (by omega) heq.symm, hb.trans ((hba.trans (hbc.mono hba.size)).mono hb.size)⟩
    · refine go ?_
      refine ⟨nf ms - (f + 1), by omega, f + 1, rfl, by omega, rfl, rfl, rfl, rfl, rfl, rfl, rfl, rfl, fun g hg => ?_, hbc⟩
      by_cases hgf : g = f
      · subst hgf; exact fun e => hne e.symm
      · exact hall2 g (by omega)
  · obtain rfl : f = nf ms := by omega
    refine go ?_
    refine ⟨ms.length - (j + 1), by omega, j + 1, rfl, by omega, rfl, rfl, rfl, rfl, rfl, fun i hi => ?_, hba.trans (hbb.mono hba.size)⟩
    by_cases hij : i = j
    · subst hij; exact hall2
    · exact hall i (by omega)

end Go.Proofs.Ytebcaajlkealoaa
