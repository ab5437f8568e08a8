/- D4: He: closed facts of hands; law.HandWaits, law.HandTurns. -/
import Derived.Test.YtadmfokicjjglaaDoorHd
namespace Go.Proofs.YtadmfokicjjglaaDoor.E
open Go.RowKit Go.Proofs
set_option maxRecDepth 100000
set_option maxHeartbeats 1000000
set_option linter.unusedSimpArgs false
end Go.Proofs.YtadmfokicjjglaaDoor.E
