/- D3: Df: ref.ReadZone, ref.FreshDesk. Dg: ref.Done. -/
import Derived.Test.YtadmfokicjjglaaGreatDoorY3
import Derived.Test.YtadmfokicjjglaaGreatDoorOw
import Derived.Test.YtadmfokicjjglaaGreatDoorX4
import Derived.Test.YtadmfokicjjglaaGreatDoorM1
import Derived.Test.YtadmfokicjjglaaGreatDoorD4
namespace Go.Proofs.YtadmfokicjjglaaGreatDoor.E
open Go.RowKit Go.Proofs
set_option maxRecDepth 100000
set_option maxHeartbeats 1000000
set_option linter.unusedSimpArgs false
set_option linter.unusedVariables false
end Go.Proofs.YtadmfokicjjglaaGreatDoor.E
namespace Go.Proofs.YtadmfokicjjglaaGreatDoor.E
open Go.RowKit Go.Proofs
set_option maxRecDepth 100000
set_option maxHeartbeats 1000000
set_option linter.unusedSimpArgs false
set_option linter.unusedVariables false
end Go.Proofs.YtadmfokicjjglaaGreatDoor.E
