/- Contracts: what the laws' marks hold, for maniplexes. -/
import Derived.Test.YtablpijnjkncfaaGreatFB
namespace Go.Proofs.YtablpijnjkncfaaGreat
open Go.Mem Go.RowKit
end Go.Proofs.YtablpijnjkncfaaGreat
