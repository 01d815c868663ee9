/- Contracts: the first isomorphism. -/
import Derived.Test.YtmfegkjjfmmoaaaF12
namespace Go.Proofs.Ytmfegkjjfmmoaaa
open Go.Mem Go.RowKit
theorem isoOf_cov {ms ks : List (List Int)} (hn : nf ms = nf ks) : isoOf ms ks = (covers ms ks (nf ks)).head? := by unfold isoOf; rw [if_pos hn]

end Go.Proofs.Ytmfegkjjfmmoaaa
