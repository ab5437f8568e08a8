/- D1: Da: desks: checked, compared, new. Db: desk.zones. -/
import Derived.Test.YtadmfokicjjglaaDoorYm
import Derived.Test.YtadmfokicjjglaaDoorY1
import Derived.Test.YtadmfokicjjglaaDoorL1
import Derived.Test.YtadmfokicjjglaaDoorSp
namespace Go.Proofs.YtadmfokicjjglaaDoor.E
open Go.RowKit Go.Proofs
set_option maxRecDepth 100000
set_option maxHeartbeats 1000000
set_option linter.unusedSimpArgs false
set_option linter.unusedVariables false
end Go.Proofs.YtadmfokicjjglaaDoor.E
namespace Go.Proofs.YtadmfokicjjglaaDoor.E
open Go.RowKit Go.Proofs
set_option maxRecDepth 100000
set_option maxHeartbeats 1000000
set_option linter.unusedSimpArgs false
set_option linter.unusedVariables false
end Go.Proofs.YtadmfokicjjglaaDoor.E
