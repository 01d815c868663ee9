/- Contracts: CountCoverings, AreCovered, AreIsomorphic, on both sides. -/
import Derived.Test.YtmfegkjjfmmoaaaF13
import Derived.Test.YtmfegkjjfmmoaaaP9
namespace Go.Proofs.Ytmfegkjjfmmoaaa
open Go.Mem Go.RowKit

/-- the code of two maniplexes -/
noncomputable def manCode2 (ms ks : List (List Int)) : Int := if IsMan ms ∧ IsMan ks then 0 else 1
noncomputable def cntCov (ms ks : List (List Int)) : Int := if IsMan ms ∧ IsMan ks then ((covers ms ks (nf ks)).length : Nat) else 0
noncomputable def areCov (ms ks : List (List Int)) : Bool := if IsMan ms ∧ IsMan ks then decide (0 < ((covers ms ks (nf ks)).length : Int)) else false
noncomputable def areIso (ms ks : List (List Int)) : Bool := if IsMan ms ∧ IsMan ks then (isoOf ms ks).isSome else false

end Go.Proofs.Ytmfegkjjfmmoaaa
