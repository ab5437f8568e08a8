/- D3: Df: ref.ReadZone, ref.FreshDesk. Dg: ref.Done. -/
import Derived.Test.YtadmfokicjjglaaDoorY3
import Derived.Test.YtadmfokicjjglaaDoorOw
import Derived.Test.YtadmfokicjjglaaDoorX4
import Derived.Test.YtadmfokicjjglaaDoorM1
import Derived.Test.YtadmfokicjjglaaDoorD4
namespace Go.Proofs.YtadmfokicjjglaaDoor.E
open Go.RowKit Go.Proofs
set_option maxRecDepth 100000
set_option maxHeartbeats 1000000
set_option linter.unusedSimpArgs false
set_option linter.unusedVariables false
end Go.Proofs.YtadmfokicjjglaaDoor.E
namespace Go.Proofs.YtadmfokicjjglaaDoor.E
open Go.RowKit Go.Proofs
set_option maxRecDepth 100000
set_option maxHeartbeats 1000000
set_option linter.unusedSimpArgs false
set_option linter.unusedVariables false
end Go.Proofs.YtadmfokicjjglaaDoor.E
