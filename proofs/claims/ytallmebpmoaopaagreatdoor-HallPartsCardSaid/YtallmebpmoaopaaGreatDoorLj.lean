
/- Lj: ref.CheckBook, by the engine. -/
import Derived.Test.YtallmebpmoaopaaGreatDoorLi
namespace Go.Proofs.YtallmebpmoaopaaGreatDoor.E
open Go.RowKit Go.Proofs
set_option maxRecDepth 100000
set_option maxHeartbeats 1000000
set_option linter.unusedSimpArgs false

end Go.Proofs.YtallmebpmoaopaaGreatDoor.E
