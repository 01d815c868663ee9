/- Contracts: what the laws' marks hold, for maniplexes. -/
import Derived.Test.YtinbiahmipfibaaGreatFB
namespace Go.Proofs.YtinbiahmipfibaaGreat
open Go.Mem Go.RowKit
end Go.Proofs.YtinbiahmipfibaaGreat
