/- Contracts: forms, facets, vertex figures and orientability, where the argument is a maniplex. -/
import Derived.Test.YtinbiahmipfibaaGreatF72
import Derived.Test.YtinbiahmipfibaaGreatF39
import Derived.Test.YtinbiahmipfibaaGreatPF
namespace Go.Mem
open Go.RowKit
section
variable {P : Program} {n : Nat} {f : Fm} {w : World} {dst : Option Tmp} {ty : TypeId} {pos : String} {after : Array Edge} {g : Option (Nat × Bool)}
theorem y_cutR_hi {x hi : Operand} {t e : TypeId} {z : Value} {bytes : Nat} [ht : SliceTy P t e] [he : CellTy P e z bytes] {v : Value} {xss : List (List Int)} {kh : IntKind} {r : Int}
    (hx : lk n f x = some v) (hhi : lk n f hi = some (.int kh r)) (h : RL w v xss) (h0 : 0 ≤ r) (hr : r ≤ xss.length) :
    Yld P (evo n f) ⟨dst, .slice t x none (some hi) none, ty, pos, after, g⟩ w (cut v 0 r.toNat) := by
  obtain ⟨vs, h1, h2, _⟩ := h.out
  exact y_cut_hi hx hhi h1 h0 (by omega)
end
end Go.Mem
namespace Go.Proofs.YtinbiahmipfibaaGreat
open Go.Mem Go.RowKit
set_option linter.unusedVariables false
set_option linter.unusedSimpArgs false
end Go.Proofs.YtinbiahmipfibaaGreat
