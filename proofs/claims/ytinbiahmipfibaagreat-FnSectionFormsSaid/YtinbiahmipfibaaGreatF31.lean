/- Contracts: moves replaced by words, on both sides. -/
import Derived.Test.YtinbiahmipfibaaGreatF30
import Derived.Test.YtinbiahmipfibaaGreatFF
import Derived.Test.YtinbiahmipfibaaGreatMn
namespace Go.Proofs.YtinbiahmipfibaaGreat
open Go.Mem Go.RowKit
set_option linter.unusedVariables false


theorem does_map {ms : List (List Int)} {wd : List Int} : (List.range (nf ms)).map (fun f : Nat => run ms wd f) = does ms wd (nf ms) := by
  refine list_ext_gi (by rw [length_does]; simp) fun x h0 hx => ?_
  have hx : x < nf ms := by simpa using hx
  rw [gi_range_map h0 hx, gi_does h0 hx, show ((x.toNat : Nat) : Int) = x by omega]
theorem wds_take {ms ws : List (List Int)} {i : Nat} (h : i < ws.length) : wds ms (ws.take (i + 1)) = wds ms (ws.take i) ++ [does ms (gr ws i) (nf ms)] := by
  unfold wds
  rw [List.take_succ_eq_append_getElem h, List.map_append]
  simp [gr, List.getD, h]

end Go.Proofs.YtinbiahmipfibaaGreat
