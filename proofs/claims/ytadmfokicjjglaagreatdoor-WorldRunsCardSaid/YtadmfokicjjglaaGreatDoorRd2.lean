/- Rd2: RdBook: books that came in. RdZone: zones and numbers that came in. RdDesk: desks that came in. -/
import Derived.Test.YtadmfokicjjglaaGreatDoorRdB
import Derived.Test.YtadmfokicjjglaaGreatDoorY0
import Derived.Test.YtadmfokicjjglaaGreatDoorD1
namespace Go.Proofs.YtadmfokicjjglaaGreatDoor.E
open Go.RowKit Go.Proofs Go.ChangeShapes Go.WideShapes
set_option maxRecDepth 100000
variable {H : Type} {enc : TypeId × Value -> H} {W : World}
variable {H : Type} {enc : TypeId × Value -> H} {W : World}
abbrev shZone : List Sh := [.num .i64, .row [.num .i64]]
theorem fits_zone {r : List AV} (h : FitsL shZone r) : ∃ a : S.Zone, r = zoneC false a := by
 obtain ⟨c0, r0, rfl, h0, q0⟩ := h.cons;obtain ⟨c1, r1, rfl, h1, q1⟩ := q0.cons;obtain ⟨n0, rfl⟩ := h0.int;obtain ⟨n1, rfl⟩ := h1.ints;rw [q1.nil];exact ⟨⟨n0, n1⟩, rfl⟩
variable {H : Type} {enc : TypeId × Value -> H} {W : World}
end Go.Proofs.YtadmfokicjjglaaGreatDoor.E
