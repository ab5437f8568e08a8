
/-
  KNoteSays: closed facts on the row of law.NoteSays: what Lean reckons of the program alone.
-/
import Derived.Test.YtadmfokicjjglaaDoorRows
import Derived.Test.YtadmfokicjjglaaDoorChecked
import Derived.JoinedOf
import Derived.JoinedCond
namespace Go.Proofs.YtadmfokicjjglaaDoor.NoteSaysProof
open Go.Proofs
theorem and_tt {a b : Bool} (h : a = true) (g : b = true) : (a && b) = true := by rw [h, g]; rfl
set_option maxHeartbeats 4000000 in
set_option maxRecDepth 100000 in
theorem closed : joinedFacts Tryd.pinned.checked.prog 4 Tryd.f4 (OpenSpec.ofChange Rows.noteSaysSpec).bare Rows.noteSaysRow = true := by
  unfold joinedFacts
  repeat (with_reducible refine and_tt ?_ ?_)
  all_goals (as_aux_lemma => kernel_rfl)
end Go.Proofs.YtadmfokicjjglaaDoor.NoteSaysProof
