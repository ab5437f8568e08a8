/- Rd2: RdBook: books that came in. RdZone: zones and numbers that came in. RdDesk: desks that came in. -/
import Derived.Test.YtginfkadmjikhaaGreatDoorRdB
import Derived.Test.YtginfkadmjikhaaGreatDoorY0
import Derived.Test.YtginfkadmjikhaaGreatDoorD1
namespace Go.Proofs.YtginfkadmjikhaaGreatDoor.E
open Go.RowKit Go.Proofs Go.ChangeShapes Go.WideShapes
set_option maxRecDepth 100000
variable {H : Type} {enc : TypeId × Value → H} {W : World}
end Go.Proofs.YtginfkadmjikhaaGreatDoor.E
namespace Go.Proofs.YtginfkadmjikhaaGreatDoor.E
open Go.RowKit Go.Proofs Go.ChangeShapes Go.WideShapes
set_option maxRecDepth 100000
variable {H : Type} {enc : TypeId × Value → H} {W : World}
end Go.Proofs.YtginfkadmjikhaaGreatDoor.E
namespace Go.Proofs.YtginfkadmjikhaaGreatDoor.E
open Go.RowKit Go.Proofs Go.ChangeShapes Go.WideShapes
set_option maxRecDepth 100000
variable {H : Type} {enc : TypeId × Value → H} {W : World}
end Go.Proofs.YtginfkadmjikhaaGreatDoor.E
