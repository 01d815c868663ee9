/- Contracts: quotients by automorphisms; QuotientBy, on both sides. -/
import Derived.Test.YtinbiahmipfibaaGreatF33
import Derived.Test.YtinbiahmipfibaaGreatF35
import Derived.Test.YtinbiahmipfibaaGreatPD
namespace Go.Proofs.YtinbiahmipfibaaGreat
open Go.Mem Go.RowKit
set_option linter.unusedVariables false
set_option linter.unusedSimpArgs false
theorem map_takeQ {g : List Int → List Int} {ms : List (List Int)} {i : Nat} (h : i < ms.length) : (ms.take (i + 1)).map g = (ms.take i).map g ++ [g (gr ms i)] := by
  rw [List.take_succ_eq_append_getElem h, List.map_append]
  simp [gr, List.getD, h]

end Go.Proofs.YtinbiahmipfibaaGreat
