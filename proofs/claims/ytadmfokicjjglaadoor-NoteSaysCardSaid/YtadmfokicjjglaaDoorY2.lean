/- Y2: Yi: law.YardFew. Yj: law.YardFew: the walk. Yk: law.YardOthers. -/
import Derived.Test.YtadmfokicjjglaaDoorY1
namespace Go.Proofs.YtadmfokicjjglaaDoor.E
open Go.RowKit Go.Proofs
set_option maxRecDepth 100000
set_option maxHeartbeats 1000000
set_option linter.unusedSimpArgs false
end Go.Proofs.YtadmfokicjjglaaDoor.E
namespace Go.Proofs.YtadmfokicjjglaaDoor.E
open Go.RowKit Go.Proofs
set_option maxRecDepth 100000
set_option maxHeartbeats 1000000
set_option linter.unusedSimpArgs false
set_option linter.unusedVariables false
end Go.Proofs.YtadmfokicjjglaaDoor.E
namespace Go.Proofs.YtadmfokicjjglaaDoor.E
open Go.RowKit Go.Proofs
set_option maxRecDepth 100000
set_option maxHeartbeats 1000000
set_option linter.unusedSimpArgs false
set_option linter.unusedVariables false
end Go.Proofs.YtadmfokicjjglaaDoor.E
