/- Contracts: colourings, on both sides. -/
import Derived.Test.YtablpijnjkncfaaGreatFA
import Derived.Test.YtablpijnjkncfaaGreatPD
import Derived.Test.YtablpijnjkncfaaGreatWB
namespace Go.Proofs.YtablpijnjkncfaaGreat
open Go.Mem Go.RowKit
set_option linter.unusedVariables false
end Go.Proofs.YtablpijnjkncfaaGreat
