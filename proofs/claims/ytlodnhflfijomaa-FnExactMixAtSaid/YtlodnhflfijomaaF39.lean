/- Contracts: colourings, on both sides. -/
import Derived.Test.YtlodnhflfijomaaFA
import Derived.Test.YtlodnhflfijomaaP21
import Derived.Test.YtlodnhflfijomaaWB
namespace Go.Proofs.Ytlodnhflfijomaa
open Go.Mem Go.RowKit
set_option linter.unusedVariables false
end Go.Proofs.Ytlodnhflfijomaa
