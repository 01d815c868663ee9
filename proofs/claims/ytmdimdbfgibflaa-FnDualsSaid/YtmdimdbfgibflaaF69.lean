/- Contracts: turned grids. -/
import Derived.Test.YtmdimdbfgibflaaFJ
namespace Go.Proofs.Ytmdimdbfgibflaa
open Go.Mem Go.RowKit
set_option linter.unusedVariables false
set_option linter.unusedSimpArgs false
end Go.Proofs.Ytmdimdbfgibflaa
