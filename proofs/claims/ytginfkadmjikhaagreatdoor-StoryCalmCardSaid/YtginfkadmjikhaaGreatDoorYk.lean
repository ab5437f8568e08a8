
/- Yk: law.YardOthers. -/
import Derived.Test.YtginfkadmjikhaaGreatDoorY2
namespace Go.Proofs.YtginfkadmjikhaaGreatDoor.E
open Go.RowKit Go.Proofs
set_option maxRecDepth 100000
set_option maxHeartbeats 1000000
set_option linter.unusedSimpArgs false
set_option linter.unusedVariables false
end Go.Proofs.YtginfkadmjikhaaGreatDoor.E
