/- Contracts: forms, facets, vertex figures and orientability, where the argument is a maniplex. -/
import Derived.Test.YtablpijnjkncfaaGreatF72
import Derived.Test.YtablpijnjkncfaaGreatF39
import Derived.Test.YtablpijnjkncfaaGreatPF
namespace Go.Mem
open Go.RowKit
section
variable {P : Program} {n : Nat} {f : Fm} {w : World} {dst : Option Tmp} {ty : TypeId} {pos : String} {after : Array Edge} {g : Option (Nat × Bool)}
theorem y_cutR_hi {x hi : Operand} {t e : TypeId} {z : Value} {bytes : Nat} [ht : SliceTy P t e] [he : CellTy P e z bytes] {v : Value} {xss : List (List Int)} {kh : IntKind} {r : Int}
    (hx : lk n f x = some v) (hhi : lk n f hi = some (.int kh r)) (h : RL w v xss) (h0 : 0 ≤ r) (hr : r ≤ xss.length) :
    Yld P (evo n f) ⟨dst, .slice t x none (some hi) none, ty, pos, after, g⟩ w (cut v 0 r.toNat) := by
  obtain ⟨vs, h1, h2, _⟩ := h.out
  exact y_cut_hi hx hhi h1 h0 (by omega)
end
end Go.Mem
namespace Go.Proofs.YtablpijnjkncfaaGreat
open Go.Mem Go.RowKit
set_option linter.unusedVariables false
set_option linter.unusedSimpArgs false

set_option maxHeartbeats 8000000 in
set_option maxRecDepth 100000 in
theorem IsManiplex_any (v : Value) (ms : List (List Int)) (w : World) (hv : RL w v ms) :
    Ret Tryz.prog 16 #[.agg #[v]] w fun r w' => r = .bool (decide (IsMan ms)) ∧ Below w.heap.size w w' := by
  have shv := hv.sv
  have hb := Below.refl w.heap.size w
  refine enter1 5 Tryz.func16 rfl Tryz.ntmps16 rfl (fun fr => ?_)
  refine go ?_
  refine s_box (wn rfl) rfl rfl (agg_cells shv) (fun w1 hbx _ hp hg => ?_)
  have hb1 := below_of_grownBy hg
  have sw1 := hb1.size
  replace hv := hv.below hb1
  replace hb := hb.trans (hb1.mono hb.size)
  clear hg hp hb1
  generalize (⟨w.heap.size, 0, none⟩ : Addr) = p at *
  refine go ?_
  refine s_call1 (wn rfl) rfl rfl (isManiplex_any _ _ _ hv) ?_
  rintro _ w2 ⟨rfl, hb2⟩
  have sw2 := hb2.size
  replace hv := hv.below hb2
  replace hbx := cell_below hbx hb2
  replace hb := hb.trans (hb2.mono hb.size)
  refine go ?_
  exact end_one Tryz.results16 rfl ⟨rfl, hb⟩

end Go.Proofs.YtablpijnjkncfaaGreat
