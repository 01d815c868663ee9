/- Contracts: moves replaced by words, on both sides. -/
import Derived.Test.YtdpjjgjeodippaaGreatF30
import Derived.Test.YtdpjjgjeodippaaGreatFF
import Derived.Test.YtdpjjgjeodippaaGreatMn
namespace Go.Proofs.YtdpjjgjeodippaaGreat
open Go.Mem Go.RowKit
set_option linter.unusedVariables false


theorem does_map {ms : List (List Int)} {wd : List Int} : (List.range (nf ms)).map (fun f : Nat => run ms wd f) = does ms wd (nf ms) := by
  refine list_ext_gi (by rw [length_does]; simp) fun x h0 hx => ?_
  have hx : x < nf ms := by simpa using hx
  rw [gi_range_map h0 hx, gi_does h0 hx, show ((x.toNat : Nat) : Int) = x by omega]
theorem wds_take {ms ws : List (List Int)} {i : Nat} (h : i < ws.length) : wds ms (ws.take (i + 1)) = wds ms (ws.take i) ++ [does ms (gr ws i) (nf ms)] := by
  unfold wds
  rw [List.take_succ_eq_append_getElem h, List.map_append]
  simp [gr, List.getD, h]

end Go.Proofs.YtdpjjgjeodippaaGreat
