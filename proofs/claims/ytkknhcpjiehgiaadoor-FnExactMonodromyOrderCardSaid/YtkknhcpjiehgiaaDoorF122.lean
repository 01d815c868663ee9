/- Contracts: MonodromyOrder, the reference's side. -/
import Derived.Test.YtkknhcpjiehgiaaDoorF121
namespace Go.Proofs.YtkknhcpjiehgiaaDoor
open Go.Mem Go.RowKit
set_option linter.unusedVariables false
set_option linter.unusedSimpArgs false

set_option maxHeartbeats 8000000 in
set_option maxRecDepth 100000 in
theorem specMonodromyOrder_any (v : Value) (ms : List (List Int)) (w : World) (hv : RL w v ms) :
    Ret Tryd.prog 5 #[.agg #[v]] w fun r w' => r = .tuple #[.int .i64 (moN ms), .int .i64 (moC ms)] ∧ Below w.heap.size w w' := by
  have shv := hv.sv
  have hb := Below.refl w.heap.size w
  refine enter1 21 Tryd.func5 rfl Tryd.ntmps5 rfl (fun fr => ?_)
  refine go ?_
  refine s_box (wn rfl) rfl rfl (agg_cells shv) (fun w1 hbx _ hp hg => ?_)
  have hb1 := below_of_grownBy hg
  replace hv := hv.below hb1
  replace hb := hb.trans (hb1.mono hb.size)
  clear hg hp hb1
  generalize (⟨w.heap.size, 0, none⟩ : Addr) = p at *
  refine go ?_
  refine s_call1 (wn rfl) rfl rfl (l02Is_any _ _ _ hv) ?_
  rintro _ w2 ⟨rfl, hb2⟩
  replace hv := hv.below hb2
  replace hbx := cell_below hbx hb2
  replace hb := hb.trans (hb2.mono hb.size)
  refine splitb (decide (IsMan ms)) (fun hm => ?_) (fun hm => ?_)
  rotate_left
  · have hm := of_decide_eq_false hm
    have e := mo_1 hm
    refine go ?_
    exact end_two Tryd.results5 rfl rfl ⟨by rw [e.1, e.2], hb⟩
  have hm' := of_decide_eq_true hm
  have h1 := hm'.m0.r1
  have h5 := hm'.m0.r5
  have h4 := hm'.m0.f400
  refine go ?_
  refine region_h mixed (fun w3 hc3 => ?_)
  refine h_p 0 hc3 ?_
  refine h_p 2 hc3 ?_
  refine h_p 3 hc3 ?_
  refine h_one 1 ?_
  refine s_call1 (wn rfl) rfl rfl (l02Flags_any _ _ _ (hv.below hc3) h1) ?_
  rintro _ w4 ⟨rfl, hb4⟩
  have hc4 := hc3.trans (hb4.mono hc3.size)
  refine w_nil ?_
  refine h_on ⟨hc4, ?_⟩
  refine h_one 4 ?_
  refine s_call2 (wn rfl) rfl rfl rfl (l01Group_any _ _ (nf ms) _ (hv.below hc4) (man_el hm') (by omega) (by omega)) ?_
  rintro _ w5 ⟨x, rfl, hx, hb5⟩
  have hc5 := hc4.trans (hb5.mono hc4.size)
  refine w_nil ?_
  refine h_on ⟨hc5, ?_⟩
  refine h_p 5 hc5 ?_
  refine h_p 6 hc5 ?_
  refine h_p 7 hc5 ?_
  refine h_p 8 hc5 ?_
  refine h_p 9 hc5 ?_
  refine h_nil ?_
  replace hb := hb.trans (hc5.mono hb.size)
  refine splitb (decide (mnOk (nf ms) ms)) (fun hk => ?_) (fun hk => ?_)
  rotate_left
  · have e := mo_2 hm' (of_decide_eq_false hk)
    refine go ?_
    exact end_two Tryd.results5 rfl rfl ⟨by rw [e.1, e.2], hb⟩
  have e := mo_3 hm' (of_decide_eq_true hk)
  have sx := hx (of_decide_eq_true hk)
  refine go ?_
  exact end_two Tryd.results5 rfl rfl ⟨by rw [e.1, e.2], hb⟩

end Go.Proofs.YtkknhcpjiehgiaaDoor
