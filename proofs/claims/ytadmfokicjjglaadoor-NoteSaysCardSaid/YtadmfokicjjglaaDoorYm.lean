
/- Ym: the reference on zones: checks, writing of a zone, room. -/
import Derived.Test.YtadmfokicjjglaaDoorY2
import Derived.Test.YtadmfokicjjglaaDoorY0
import Derived.Test.YtadmfokicjjglaaDoorL1
namespace Go.Proofs.YtadmfokicjjglaaDoor.E
open Go.RowKit Go.Proofs
set_option maxRecDepth 100000
set_option maxHeartbeats 1000000
set_option linter.unusedSimpArgs false
end Go.Proofs.YtadmfokicjjglaaDoor.E
namespace Go.Proofs.YtadmfokicjjglaaDoor.E
open Go.RowKit Go.Proofs
set_option maxRecDepth 100000
set_option maxHeartbeats 1000000
set_option linter.unusedSimpArgs false
set_option linter.unusedVariables false
end Go.Proofs.YtadmfokicjjglaaDoor.E
