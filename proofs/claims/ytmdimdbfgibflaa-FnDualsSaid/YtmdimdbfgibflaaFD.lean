/- Texts laid together: F18 F19. -/
import Derived.Test.YtmdimdbfgibflaaFC
import Derived.Test.YtmdimdbfgibflaaPB
/- Contracts: numbers of orbits, on both sides; FlagOrbits, IsRegular, IsChiral. -/
namespace Go.Proofs.Ytmdimdbfgibflaa
open Go.Mem Go.RowKit
set_option linter.unusedVariables false
end Go.Proofs.Ytmdimdbfgibflaa

/- Contracts: the orbits of flags; FlagOrbits, IsRegular, IsChiral, on both sides. -/
namespace Go.Proofs.Ytmdimdbfgibflaa
open Go.Mem Go.RowKit
set_option linter.unusedVariables false
end Go.Proofs.Ytmdimdbfgibflaa
