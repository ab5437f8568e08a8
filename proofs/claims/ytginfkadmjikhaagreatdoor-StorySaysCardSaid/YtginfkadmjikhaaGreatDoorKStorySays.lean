
/-
  KStorySays: closed facts on the row of law.StorySays: what Lean reckons of the program alone.
-/
import Derived.Test.YtginfkadmjikhaaGreatDoorRows
import Derived.Test.YtginfkadmjikhaaGreatDoorChecked
import Derived.JoinedOf
import Derived.JoinedCond
namespace Go.Proofs.YtginfkadmjikhaaGreatDoor.StorySaysProof
open Go.Proofs
theorem and_tt {a b : Bool} (h : a = true) (g : b = true) : (a && b) = true := by rw [h, g]; rfl
set_option maxHeartbeats 4000000 in
set_option maxRecDepth 100000 in
theorem closed : joinedFacts Tryz.pinned.checked.prog 4 Tryz.f4 (OpenSpec.ofChange Rows.storySaysSpec).bare Rows.storySaysRow = true := by
  unfold joinedFacts
  repeat (with_reducible refine and_tt ?_ ?_)
  all_goals (as_aux_lemma => kernel_rfl)
end Go.Proofs.YtginfkadmjikhaaGreatDoor.StorySaysProof
