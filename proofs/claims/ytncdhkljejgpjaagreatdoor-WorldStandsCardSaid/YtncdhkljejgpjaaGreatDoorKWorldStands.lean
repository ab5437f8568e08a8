
/-
  KWorldStands: closed facts on the row of law.WorldStands: what Lean reckons of the program alone.
-/
import Derived.Test.YtncdhkljejgpjaaGreatDoorRows
import Derived.Test.YtncdhkljejgpjaaGreatDoorChecked
import Derived.JoinedOf
import Derived.JoinedCond
namespace Go.Proofs.YtncdhkljejgpjaaGreatDoor.WorldStandsProof
open Go.Proofs
theorem and_tt {a b : Bool} (h : a = true) (g : b = true) : (a && b) = true := by rw [h, g]; rfl
set_option maxHeartbeats 4000000 in
set_option maxRecDepth 100000 in
theorem closed : joinedFacts Tryz.pinned.checked.prog 8 Tryz.f8 (OpenSpec.ofChange Rows.worldStandsSpec).bare Rows.worldStandsRow = true := by
  unfold joinedFacts
  repeat (with_reducible refine and_tt ?_ ?_)
  all_goals (as_aux_lemma => kernel_rfl)
end Go.Proofs.YtncdhkljejgpjaaGreatDoor.WorldStandsProof
