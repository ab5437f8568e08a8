/- M1: Mb: ref.OnBook. Mc: ref.OnBook of a right book and hand. Md: ref.OnBook: preempt; all of it. -/
import Derived.Test.YtadmfokicjjglaaGreatDoorMa
import Derived.Test.YtadmfokicjjglaaGreatDoorL1
namespace Go.Proofs.YtadmfokicjjglaaGreatDoor.E
open Go.RowKit Go.Proofs
set_option maxRecDepth 100000
set_option maxHeartbeats 2000000
set_option linter.unusedSimpArgs false
set_option linter.unusedVariables false
end Go.Proofs.YtadmfokicjjglaaGreatDoor.E
namespace Go.Proofs.YtadmfokicjjglaaGreatDoor.E
open Go.RowKit Go.Proofs
set_option maxRecDepth 100000
set_option maxHeartbeats 2000000
set_option linter.unusedSimpArgs false
set_option linter.unusedVariables false
theorem in_yes {n a b : Int} (h : ¬ (n < a ∨ b < n)) : (decide (a ≤ n) && decide (n ≤ b)) = true := by simp; omega
theorem in_no {n a b : Int} (h : n < a ∨ b < n) : (decide (a ≤ n) && decide (n ≤ b)) = false := by simp; omega
end Go.Proofs.YtadmfokicjjglaaGreatDoor.E
namespace Go.Proofs.YtadmfokicjjglaaGreatDoor.E
open Go.RowKit Go.Proofs
set_option maxRecDepth 100000
set_option maxHeartbeats 4000000
set_option linter.unusedSimpArgs false
set_option linter.unusedVariables false
end Go.Proofs.YtadmfokicjjglaaGreatDoor.E
