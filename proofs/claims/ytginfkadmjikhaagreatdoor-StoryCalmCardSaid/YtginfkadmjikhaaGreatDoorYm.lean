
/- Ym: the reference on zones: checks, writing of a zone, room. -/
import Derived.Test.YtginfkadmjikhaaGreatDoorY2
import Derived.Test.YtginfkadmjikhaaGreatDoorY0
import Derived.Test.YtginfkadmjikhaaGreatDoorL3
namespace Go.Proofs.YtginfkadmjikhaaGreatDoor.E
open Go.RowKit Go.Proofs
set_option maxRecDepth 100000
set_option maxHeartbeats 1000000
set_option linter.unusedSimpArgs false
end Go.Proofs.YtginfkadmjikhaaGreatDoor.E
namespace Go.Proofs.YtginfkadmjikhaaGreatDoor.E
open Go.RowKit Go.Proofs
set_option maxRecDepth 100000
set_option maxHeartbeats 1000000
set_option linter.unusedSimpArgs false
set_option linter.unusedVariables false
end Go.Proofs.YtginfkadmjikhaaGreatDoor.E
