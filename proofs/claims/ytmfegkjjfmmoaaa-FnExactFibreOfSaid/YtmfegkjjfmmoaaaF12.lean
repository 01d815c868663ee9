/- Contracts: coverings and isomorphisms of two maniplexes. -/
import Derived.Test.YtmfegkjjfmmoaaaF10
namespace Go.Proofs.Ytmfegkjjfmmoaaa
open Go.Mem Go.RowKit

set_option maxRecDepth 100000 in
theorem l07Cover_any (v v2 : Value) (ms ks : List (List Int)) (flag : Int) (w : World) (hv : RL w v ms) (hv2 : RL w v2 ks) (hm : IsMan ms) (hk : IsMan ks) (hf : 0 ≤ flag ∧ flag < nf ks) :
    Ret Try.prog 130 #[.agg #[v], .agg #[v2], .int .i64 flag] w fun r w' => ∃ x, r = .tuple #[x, .bool (mapT ms ks flag).isSome] ∧ MapR w' w.heap.size 2 x (mapT ms ks flag) ∧ Below w.heap.size w w' := by
  have sv := hv.sv
  have sv2 := hv2.sv
  refine enter3 26 Try.func130 rfl Try.ntmps130 rfl (fun fr => ?_)
  refine go ?_
  refine s_box (wn rfl) rfl rfl (agg_cells sv) (fun w1 hbx _ hp1 hg => ?_)
  have hb := below_of_grownBy hg
  have hv := hv.below hb
  have hv2 := hv2.below hb
  generalize hpe : (⟨w.heap.size, 0, none⟩ : Addr) = p at *
  refine s_box (wn rfl) rfl rfl (agg_cells sv2) (fun w2 hbx2 _ hp2 hg2 => ?_)
  have hb2 := below_of_grownBy hg2
  have hbx := cell_below hbx hb2
  have hv := hv.below hb2
  have hv2 := hv2.below hb2
  have hb := hb.trans (hb2.mono hb.size)
  clear hb2 hg hg2 hp1 hp2
  generalize (⟨w1.heap.size, 0, none⟩ : Addr) = p2 at *
  refine split (p := (ms.length : Int) ≠ ks.length) (fun hne => ?_) (fun hl => ?_)
  · refine go ?_
    have e : mapT ms ks flag = none := by unfold mapT; rw [if_neg (by omega)]
    exact end_two Try.results130 rfl rfl ⟨_, by rw [e]; rfl, by rw [e]; rfl, hb⟩
  · have e : mapT ms ks flag = mapTo ms ks flag := by unfold mapT; rw [if_pos (by omega)]
    rw [e]
    refine go ?_
    refine s_call3 (wn rfl) rfl rfl rfl rfl (l06Map_any _ _ _ _ _ _ hv hv2 hm hk (by omega) hf) ?_
    rintro _ w3 ⟨x, rfl, hx, hb3⟩
    refine go ?_
    refine end_two Try.results130 rfl rfl ⟨x, rfl, ?_, hb.trans (hb3.mono hb.size)⟩
    cases h : mapTo ms ks flag with
    | none => rw [h] at hx; exact hx
    | some xs => rw [h] at hx; exact ⟨hx.1.mono hb.size, hx.2⟩

end Go.Proofs.Ytmfegkjjfmmoaaa
