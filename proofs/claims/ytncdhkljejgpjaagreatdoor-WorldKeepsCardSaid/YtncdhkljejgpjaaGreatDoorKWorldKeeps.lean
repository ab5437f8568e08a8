
/-
  KWorldKeeps: closed facts on the row of law.WorldKeeps: what Lean reckons of the program alone.
-/
import Derived.Test.YtncdhkljejgpjaaGreatDoorRows
import Derived.Test.YtncdhkljejgpjaaGreatDoorChecked
import Derived.JoinedOf
import Derived.JoinedCond
namespace Go.Proofs.YtncdhkljejgpjaaGreatDoor.WorldKeepsProof
open Go.Proofs
theorem and_tt {a b : Bool} (h : a = true) (g : b = true) : (a && b) = true := by rw [h, g]; rfl
set_option maxHeartbeats 4000000 in
set_option maxRecDepth 100000 in
theorem closed : joinedFacts Tryz.pinned.checked.prog 6 Tryz.f6 (OpenSpec.ofChange Rows.worldKeepsSpec).bare Rows.worldKeepsRow = true := by
  unfold joinedFacts
  repeat (with_reducible refine and_tt ?_ ?_)
  all_goals (as_aux_lemma => kernel_rfl)
end Go.Proofs.YtncdhkljejgpjaaGreatDoor.WorldKeepsProof
