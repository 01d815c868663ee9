/- Contracts: CountAutomorphisms, on both sides; the law. -/
import Derived.Test.YtlodnhflfijomaaFB
namespace Go.Proofs.Ytlodnhflfijomaa
open Go.Mem Go.RowKit

/-- the code of one maniplex -/
noncomputable def manCode (ms : List (List Int)) : Int := if IsMan ms then 0 else 1
noncomputable def cntAut (ms : List (List Int)) : Int := if IsMan ms then ((covers ms ms (nf ms)).length : Nat) else 0

theorem implCountAutomorphisms_any (v : Value) (ms : List (List Int)) (w : World) (hv : RL w v ms) :
    Ret Try.prog 39 #[.agg #[v]] w fun r w' => r = .tuple #[.int .i64 (cntAut ms), .int .i64 (manCode ms)] ∧ Below w.heap.size w w' := by
  have sv := hv.sv
  refine enter1 11 Try.func39 rfl Try.ntmps39 rfl (fun fr => ?_)
  refine go ?_
  refine s_box (wn rfl) rfl rfl (agg_cells sv) (fun w1 hbx _ hp1 hg => ?_)
  have hb := below_of_grownBy hg
  have hv := hv.below hb
  generalize hpe : (⟨w.heap.size, 0, none⟩ : Addr) = p at *
  refine go ?_
  refine s_call1 (wn rfl) rfl rfl (isManiplex_any _ _ _ hv) ?_
  rintro _ w2 ⟨rfl, hb2⟩
  have hb := hb.trans (hb2.mono hb.size)
  have hbx := cell_below hbx hb2
  have hv := hv.below hb2
  refine splitb (decide (IsMan ms)) (fun hm => ?_) (fun hm => ?_)
  · have hm' := of_decide_eq_true hm
    refine go ?_
    refine s_call2 (wn rfl) rfl rfl rfl (coveringsOf_any _ _ _ _ _ hv hv hm' hm') ?_
    rintro r w3 ⟨hr, hb3⟩
    have sr := hr.sv
    refine go ?_
    refine s_call1 (wn rfl) rfl rfl (sizeR_any _ _ _ sr) ?_
    rintro _ _ ⟨rfl, rfl⟩
    refine go ?_
    exact end_two Try.results39 rfl rfl ⟨by unfold cntAut manCode; rw [if_pos hm', if_pos hm'], hb.trans (hb3.mono hb.size)⟩
  · have hm' := of_decide_eq_false hm
    refine go ?_
    exact end_two Try.results39 rfl rfl ⟨by unfold cntAut manCode; rw [if_neg hm', if_neg hm'], hb⟩

end Go.Proofs.Ytlodnhflfijomaa
