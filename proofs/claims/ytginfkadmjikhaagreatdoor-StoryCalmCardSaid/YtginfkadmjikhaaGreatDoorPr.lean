
/- Pr: law.StoryGrows. -/
import Derived.Test.YtginfkadmjikhaaGreatDoorPn
namespace Go.Proofs.YtginfkadmjikhaaGreatDoor.E
open Go.RowKit Go.Proofs
set_option linter.unusedVariables false
set_option linter.unusedSimpArgs false
set_option maxRecDepth 100000
set_option maxHeartbeats 2000000
structure GrowAt (h : Heap) (p q : Nat) (L : List S.Rec) (A : List S.Answer) : Prop where
  hp : ∃ v, h p = some ⟨50, 1, [[v]]⟩ ∧ ((v = .nl ∧ L = []) ∨ v = .lst false 7 (L.map (recC false)))
  hq : ∃ v, h q = some ⟨53, 1, [[v]]⟩ ∧ ((v = .nl ∧ A = []) ∨ v = .lst false 3 (A.map (ansC false)))
theorem GrowAt.of {h h' : Heap} {p q : Nat} {L : List S.Rec} {A : List S.Answer} (g : GrowAt h p q L A) (h1 : h' p = h p) (h2 : h' q = h q) : GrowAt h' p q L A := by
  obtain ⟨⟨v, hv, hv2⟩, ⟨u, hu, hu2⟩⟩ := g
  exact ⟨⟨v, h1.trans hv, hv2⟩, ⟨u, h2.trans hu, hu2⟩⟩
end Go.Proofs.YtginfkadmjikhaaGreatDoor.E
