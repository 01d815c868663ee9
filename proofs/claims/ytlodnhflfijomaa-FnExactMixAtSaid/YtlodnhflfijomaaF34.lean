/- Contracts: what the laws' marks hold, for maniplexes. -/
import Derived.Test.YtlodnhflfijomaaFB
namespace Go.Proofs.Ytlodnhflfijomaa
open Go.Mem Go.RowKit

theorem heldManiplex_any (v : Value) (xss : List (List Int)) (k : Int) (w : World) (hv : RL w v (mkRows xss k)) (hk : 0 ≤ k) (hl : k + tot xss ≤ 4000000000000000000) :
    Ret Try.prog 24 #[.agg #[v], .int .i64 k] w fun r w' => r = .int .i64 (k + tot xss) ∧ Below w.heap.size w w' := by
  have sv := hv.sv
  have ht := tot_nonneg xss
  have hneg : ¬ (k + tot xss < 0) := by omega
  refine enter2 12 Try.func24 rfl Try.ntmps24 rfl (fun fr => ?_)
  refine go ?_
  refine s_box (wn rfl) rfl rfl (agg_cells sv) (fun w1 hbx _ _ hg => ?_)
  have hb := below_of_grownBy hg
  have hv := hv.below hb
  generalize (⟨w.heap.size, 0, none⟩ : Addr) = p at *
  refine go ?_
  refine s_call2 (wn rfl) rfl rfl rfl (heldInt64SS_any _ _ _ _ hv hk hl) ?_
  rintro _ _ ⟨rfl, rfl⟩
  refine go ?_
  exact end_one Try.results24 rfl ⟨rfl, hb⟩
end Go.Proofs.Ytlodnhflfijomaa
