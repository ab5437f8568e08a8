/- D1: Da: desks: checked, compared, new. Db: desk.zones. -/
import Derived.Test.YtadmfokicjjglaaGreatDoorYm
import Derived.Test.YtadmfokicjjglaaGreatDoorY1
import Derived.Test.YtadmfokicjjglaaGreatDoorL1
import Derived.Test.YtadmfokicjjglaaGreatDoorSp
namespace Go.Proofs.YtadmfokicjjglaaGreatDoor.E
open Go.RowKit Go.Proofs
set_option maxRecDepth 100000
set_option maxHeartbeats 1000000
set_option linter.unusedSimpArgs false
set_option linter.unusedVariables false
end Go.Proofs.YtadmfokicjjglaaGreatDoor.E
namespace Go.Proofs.YtadmfokicjjglaaGreatDoor.E
open Go.RowKit Go.Proofs
set_option maxRecDepth 100000
set_option maxHeartbeats 1000000
set_option linter.unusedSimpArgs false
set_option linter.unusedVariables false
end Go.Proofs.YtadmfokicjjglaaGreatDoor.E
