/- Contracts: colourings, on both sides. -/
import Derived.Test.YtinbiahmipfibaaGreatFA
import Derived.Test.YtinbiahmipfibaaGreatPD
import Derived.Test.YtinbiahmipfibaaGreatWB
namespace Go.Proofs.YtinbiahmipfibaaGreat
open Go.Mem Go.RowKit
set_option linter.unusedVariables false
end Go.Proofs.YtinbiahmipfibaaGreat
