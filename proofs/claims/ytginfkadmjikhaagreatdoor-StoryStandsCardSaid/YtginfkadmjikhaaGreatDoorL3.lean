/- L3: Li: the reference's reading of a book, by the engine. Lj: ref.CheckBook, by the engine. Lh: law.booked, by the engine. -/
import Derived.Test.YtginfkadmjikhaaGreatDoorL1
namespace Go.Proofs.YtginfkadmjikhaaGreatDoor.E
open Go.RowKit Go.Proofs
set_option maxRecDepth 100000
set_option maxHeartbeats 1000000
set_option linter.unusedSimpArgs false
end Go.Proofs.YtginfkadmjikhaaGreatDoor.E
namespace Go.Proofs.YtginfkadmjikhaaGreatDoor.E
open Go.RowKit Go.Proofs
set_option maxRecDepth 100000
set_option maxHeartbeats 1000000
set_option linter.unusedSimpArgs false
end Go.Proofs.YtginfkadmjikhaaGreatDoor.E
namespace Go.Proofs.YtginfkadmjikhaaGreatDoor.E
open Go.RowKit Go.Proofs
set_option maxRecDepth 100000
set_option maxHeartbeats 1000000
set_option linter.unusedSimpArgs false
theorem may_eq {b : S.Book} {w : Int} {x : Bool} {r : Bool × Int} (h : S.may b w x = r) : C Tryz.prog 49 [Bk b, Int' w, Bool' x] (.tup [Bool' r.1, Int' r.2]) [] := h ▸ book_May b w x
end Go.Proofs.YtginfkadmjikhaaGreatDoor.E
