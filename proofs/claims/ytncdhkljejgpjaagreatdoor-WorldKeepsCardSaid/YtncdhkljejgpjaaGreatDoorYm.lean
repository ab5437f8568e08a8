
/- Ym: the reference on zones: checks, writing of a zone, room. -/
import Derived.Test.YtncdhkljejgpjaaGreatDoorY2
import Derived.Test.YtncdhkljejgpjaaGreatDoorY0
import Derived.Test.YtncdhkljejgpjaaGreatDoorL3
namespace Go.Proofs.YtncdhkljejgpjaaGreatDoor.E
open Go.RowKit Go.Proofs
set_option maxRecDepth 100000
set_option maxHeartbeats 1000000
set_option linter.unusedSimpArgs false
end Go.Proofs.YtncdhkljejgpjaaGreatDoor.E
namespace Go.Proofs.YtncdhkljejgpjaaGreatDoor.E
open Go.RowKit Go.Proofs
set_option maxRecDepth 100000
set_option maxHeartbeats 1000000
set_option linter.unusedSimpArgs false
set_option linter.unusedVariables false
end Go.Proofs.YtncdhkljejgpjaaGreatDoor.E
