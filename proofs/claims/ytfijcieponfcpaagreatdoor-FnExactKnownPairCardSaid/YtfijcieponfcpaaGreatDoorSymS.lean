/- Symplectic pairs: IsSymplecticPair of both texts. -/
import Derived.Test.YtfijcieponfcpaaGreatDoorSymI
namespace Go.Proofs.YtfijcieponfcpaaGreatDoor
open Go.RowKit
set_option linter.unusedSimpArgs false
set_option linter.unusedVariables false
set_option maxRecDepth 20000

end Go.Proofs.YtfijcieponfcpaaGreatDoor
