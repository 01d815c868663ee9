/- Contracts: the orbits of flags; FlagOrbits, IsRegular, IsChiral, on both sides. -/
import Derived.Test.YtmfegkjjfmmoaaaF18
namespace Go.Proofs.Ytmfegkjjfmmoaaa
open Go.Mem Go.RowKit
set_option linter.unusedVariables false


set_option maxRecDepth 100000 in
theorem l06Orbits_any (v : Value) (ms : List (List Int)) (w : World) (hv : RL w v ms) (hm : IsMan ms) :
    Ret Try.prog 66 #[.agg #[v]] w fun r w' => OI w' w.heap.size 2 r (labs (nf ms) (auts ms)) ∧ Below w.heap.size w w' := by
  have shv := hv.sv
  have hb := Below.refl w.heap.size w
  refine enter1 8 Try.func66 rfl Try.ntmps66 rfl (fun fr => ?_)
  have h1 := hm.m0.r1
  have h4 := hm.m0.f400
  have ha := auts_le hm
  refine go ?_
  refine s_box (wn rfl) rfl rfl (agg_cells shv) (fun w1 hbx _ hp hg => ?_)
  have hb1 := below_of_grownBy hg
  replace hv := hv.below hb1
  replace hb := hb.trans (hb1.mono hb.size)
  clear hg hp hb1
  generalize (⟨w.heap.size, 0, none⟩ : Addr) = p at *
  have hs0 := hb.size
  refine go ?_
  refine region_h mixed (fun w2 hc2 => ?_)
  refine h_p 0 hc2 ?_
  refine h_p 2 hc2 ?_
  refine h_one 1 ?_
  refine s_call1 (wn rfl) rfl rfl (l02Flags_any _ _ _ (hv.below hc2) h1) ?_
  rintro _ w3 ⟨rfl, hb3⟩
  have hc3 := hc2.trans (hb3.mono hc2.size)
  refine w_nil ?_
  refine h_on ⟨hc3, ?_⟩
  refine h_one 3 ?_
  refine s_call1 (wn rfl) rfl rfl (l06All_any _ _ _ (hv.below hc3) hm) ?_
  rintro x w4 ⟨hx, hb4⟩
  have hc4 := hc3.trans (hb4.mono hc3.size)
  refine w_nil ?_
  refine h_on ⟨hc4, ?_⟩
  refine h_one 4 ?_
  refine s_call2 (wn rfl) rfl rfl rfl (l01Orbits_any _ _ _ _ hx.rl (auts_sym hm) (by omega) (by unfold auts at ha; omega)) ?_
  rintro y w5 ⟨hy, hb5⟩
  have hc5 := hc4.trans (hb5.mono hc4.size)
  replace hx := hx.below hb5
  refine w_nil ?_
  refine h_on ⟨hc5, ?_⟩
  have hs2 := hc5.size
  have hy := hy.mono (B' := w.heap.size) (by have := hc2.size; have := hc3.size; have := hc4.size; omega)
  refine h_p 5 hc5 ?_
  refine h_nil ?_
  replace hv := hv.below hc5
  replace hbx := cell_below hbx hc5
  replace hb := hb.trans (hc5.mono hb.size)
  refine go ?_
  exact end_one Try.results66 rfl ⟨hy, hb⟩

set_option maxRecDepth 100000 in
theorem flagOrbits_any (v : Value) (pv : Addr) (ms : List (List Int)) (w : World) (hv : RL w v ms) (hxv : w.cell? pv = some v) (hm : IsMan ms) :
    Ret Try.prog 64 #[.pointer (some pv)] w fun r w' => ∃ lb, r = .tuple #[lb, .int .i64 (labc (nf ms) (auts ms))] ∧ OI w' w.heap.size 2 lb (labs (nf ms) (auts ms)) ∧ Below w.heap.size w w' := by
  have shv := hv.sv
  have hb := Below.refl w.heap.size w
  refine enter1 16 Try.func64 rfl Try.ntmps64 rfl (fun fr => ?_)
  have h1 := hm.m0.r1
  have h4 := hm.m0.f400
  have ha := auts_le hm
  refine go ?_
  refine region_h mixed (fun w1 hc1 => ?_)
  refine h_p 0 hc1 ?_
  refine h_p 2 hc1 ?_
  refine h_p 3 hc1 ?_
  refine h_p 4 hc1 ?_
  refine h_p 5 hc1 ?_
  refine h_p 6 hc1 ?_
  refine h_p 7 hc1 ?_
  refine h_one 1 ?_
  refine s_call1 (wn rfl) rfl rfl (flags_any _ _ _ _ (cell_below hxv hc1) (hv.below hc1) h1) ?_
  rintro _ _ ⟨rfl, rfl⟩
  refine w_nil ?_
  refine h_on ⟨hc1, ?_⟩
  refine h_one 8 ?_
  refine s_call2 (wn rfl) rfl rfl rfl (coveringsOf_any _ _ _ _ _ (hv.below hc1) (hv.below hc1) hm hm) ?_
  rintro x w2 ⟨hx, hb2⟩
  have hc2 := hc1.trans (hb2.mono hc1.size)
  refine w_nil ?_
  refine h_on ⟨hc2, ?_⟩
  refine h_one 9 ?_
  refine s_call2 (wn rfl) rfl rfl rfl (orbitLabels_any _ _ _ _ hx.rl (auts_sym hm) (by omega) (by unfold auts at ha; omega)) ?_
  rintro _ w3 ⟨lb, rfl, hy, hb3⟩
  have hc3 := hc2.trans (hb3.mono hc2.size)
  replace hx := hx.below hb3
  refine w_nil ?_
  refine h_on ⟨hc3, ?_⟩
  have hy := hy.mono (B' := w.heap.size) (by have := hc1.size; have := hc2.size; have := hc3.size; omega)
  refine h_p 10 hc3 ?_
  refine h_p 11 hc3 ?_
  refine h_p 12 hc3 ?_
  refine h_p 13 hc3 ?_
  refine h_nil ?_
  replace hv := hv.below hc3
  replace hxv := cell_below hxv hc3
  replace hb := hb.trans (hc3.mono hb.size)
  refine go ?_
  exact end_two Try.results64 rfl rfl ⟨lb, rfl, hy, hb⟩

end Go.Proofs.Ytmfegkjjfmmoaaa
