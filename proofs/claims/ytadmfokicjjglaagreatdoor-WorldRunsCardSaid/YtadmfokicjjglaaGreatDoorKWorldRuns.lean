
/-
  KWorldRuns: closed facts on the row of law.WorldRuns: what Lean reckons of the program alone.
-/
import Derived.Test.YtadmfokicjjglaaGreatDoorRows
import Derived.Test.YtadmfokicjjglaaGreatDoorChecked
import Derived.JoinedOf
import Derived.JoinedCond
namespace Go.Proofs.YtadmfokicjjglaaGreatDoor.WorldRunsProof
open Go.Proofs
theorem and_tt {a b : Bool} (h : a = true) (g : b = true) : (a && b) = true := by rw [h, g]; rfl
set_option maxHeartbeats 4000000 in
set_option maxRecDepth 100000 in
theorem closed : joinedFacts Tryz.pinned.checked.prog 5 Tryz.f5 (OpenSpec.ofChange Rows.worldRunsSpec).bare Rows.worldRunsRow = true := by
  unfold joinedFacts
  repeat (with_reducible refine and_tt ?_ ?_)
  all_goals (as_aux_lemma => kernel_rfl)
end Go.Proofs.YtadmfokicjjglaaGreatDoor.WorldRunsProof
