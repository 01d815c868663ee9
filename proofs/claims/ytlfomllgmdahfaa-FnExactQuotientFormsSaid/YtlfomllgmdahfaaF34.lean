/- Contracts: what the laws' marks hold, for maniplexes. -/
import Derived.Test.YtlfomllgmdahfaaFB
namespace Go.Proofs.Ytlfomllgmdahfaa
open Go.Mem Go.RowKit
end Go.Proofs.Ytlfomllgmdahfaa
