/- Texts laid together: F18 F19. -/
import Derived.Test.YtkknhcpjiehgiaaDoorFC
import Derived.Test.YtkknhcpjiehgiaaDoorPB
/- Contracts: numbers of orbits, on both sides; FlagOrbits, IsRegular, IsChiral. -/
namespace Go.Proofs.YtkknhcpjiehgiaaDoor
open Go.Mem Go.RowKit
set_option linter.unusedVariables false
end Go.Proofs.YtkknhcpjiehgiaaDoor

/- Contracts: the orbits of flags; FlagOrbits, IsRegular, IsChiral, on both sides. -/
namespace Go.Proofs.YtkknhcpjiehgiaaDoor
open Go.Mem Go.RowKit
set_option linter.unusedVariables false
end Go.Proofs.YtkknhcpjiehgiaaDoor
