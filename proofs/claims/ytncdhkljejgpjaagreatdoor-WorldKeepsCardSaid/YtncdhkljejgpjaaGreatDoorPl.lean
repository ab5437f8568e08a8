
/- Pl: laws on worlds, without the document's answer. -/
import Derived.Test.YtncdhkljejgpjaaGreatDoorP5
namespace Go.Proofs.YtncdhkljejgpjaaGreatDoor.E
open Go.RowKit Go.Proofs
set_option linter.unusedVariables false
set_option linter.unusedSimpArgs false
set_option maxRecDepth 100000
set_option maxHeartbeats 2000000
end Go.Proofs.YtncdhkljejgpjaaGreatDoor.E
