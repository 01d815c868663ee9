/- Contracts: what the laws' marks hold, for maniplexes. -/
import Derived.Test.YtdpjjgjeodippaaGreatFB
namespace Go.Proofs.YtdpjjgjeodippaaGreat
open Go.Mem Go.RowKit
end Go.Proofs.YtdpjjgjeodippaaGreat
