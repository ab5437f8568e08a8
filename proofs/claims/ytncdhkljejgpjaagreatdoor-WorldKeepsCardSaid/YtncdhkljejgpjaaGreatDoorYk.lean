
/- Yk: law.YardOthers. -/
import Derived.Test.YtncdhkljejgpjaaGreatDoorY2
namespace Go.Proofs.YtncdhkljejgpjaaGreatDoor.E
open Go.RowKit Go.Proofs
set_option maxRecDepth 100000
set_option maxHeartbeats 1000000
set_option linter.unusedSimpArgs false
set_option linter.unusedVariables false
end Go.Proofs.YtncdhkljejgpjaaGreatDoor.E
