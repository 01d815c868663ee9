/- Contracts: HasEqualVertexFigures and SectionKinds (the reference). -/
import Derived.Test.YtdpjjgjeodippaaGreatF102
namespace Go.Proofs.YtdpjjgjeodippaaGreat
open Go.Mem Go.RowKit
set_option linter.unusedVariables false
set_option linter.unusedSimpArgs false

set_option maxHeartbeats 8000000 in
set_option maxRecDepth 100000 in
theorem l04Code_any (v : Value) (ms : List (List Int)) (i k : Int) (w : World) (hv : RL w v ms) :
    Ret Tryz.prog 14 #[.agg #[v], .int .i64 0, .int .i64 i, .int .i64 k] w fun r w' => r = .int .i64 (skC ms i k) ∧ Below w.heap.size w w' := by
  have sv := hv.sv
  refine enter4 33 Tryz.func14 rfl Tryz.ntmps14 rfl (fun fr => ?_)
  refine go ?_
  refine s_box (wn rfl) rfl rfl (agg_cells sv) (fun w1 hbx _ hp1 hg => ?_)
  have hb := below_of_grownBy hg
  have hv := hv.below hb
  generalize hpe : (⟨w.heap.size, 0, none⟩ : Addr) = p at *
  refine go ?_
  refine s_call1 (wn rfl) rfl rfl (l02Is_any _ _ _ hv) ?_
  rintro _ w2 ⟨rfl, hb2⟩
  have hb := hb.trans (hb2.mono hb.size)
  have hbx := cell_below hbx hb2
  have hv := hv.below hb2
  refine splitb (decide (IsMan ms)) (fun hm => ?_) (fun hm => ?_)
  rotate_left
  · have e := sk_1 (i := i) (k := k) (of_decide_eq_false hm)
    refine go ?_
    exact end_one Tryz.results14 rfl ⟨by rw [e.2], hb⟩
  have hm' := of_decide_eq_true hm
  have r5 := hm'.m0.r5
  have r1 := hm'.m0.r1
  have f2 := hm'.m0.f2
  refine go ?_
  refine s_call2 (wn rfl) rfl rfl rfl (l02Flag_any _ _ _ _ hv r1 hm'.m0.f400) ?_
  rintro _ w3 ⟨rfl, hb3⟩
  have hb := hb.trans (hb3.mono hb.size)
  have hbx := cell_below hbx hb3
  have hv := hv.below hb3
  rw [decide_eq_true (show (0 : Int) ≤ 0 ∧ (0 : Int) < nf ms by omega)]
  by_cases h1 : i < 0
  · have hd : decide (i < 0) = true := decide_eq_true h1
    have e := sk_2 (i := i) (k := k) hm' (fun h => by have := h.1; omega)
    refine go ?_
    exact end_one Tryz.results14 rfl ⟨by rw [e.2], hb⟩
  have hd : decide (i < 0) = false := decide_eq_false h1
  by_cases h2 : k < i
  · have hd2 : decide (k < i) = true := decide_eq_true h2
    have e := sk_2 (i := i) (k := k) hm' (fun h => by have := h.2.1; omega)
    refine go ?_
    exact end_one Tryz.results14 rfl ⟨by rw [e.2], hb⟩
  have hd2 : decide (k < i) = false := decide_eq_false h2
  by_cases h3 : (ms.length : Int) - 1 < k
  · have hd3 : decide ((ms.length : Int) - 1 < k) = true := decide_eq_true h3
    have e := sk_2 (i := i) (k := k) hm' (fun h => by have := h.2.2; omega)
    refine go ?_
    exact end_one Tryz.results14 rfl ⟨by rw [e.2], hb⟩
  have hd3 : decide ((ms.length : Int) - 1 < k) = false := decide_eq_false h3
  have e := sk_3 (i := i) (k := k) hm' ⟨by omega, by omega, by omega⟩
  refine go ?_
  exact end_one Tryz.results14 rfl ⟨by rw [e.2], hb⟩

end Go.Proofs.YtdpjjgjeodippaaGreat
