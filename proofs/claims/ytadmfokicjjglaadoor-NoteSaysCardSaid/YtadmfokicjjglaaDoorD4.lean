/- D4: Dc: desk.Do. Dd: desks in plain data: what a command leaves. He: closed facts of hands; law.HandWaits, law.HandTurns. De: law.served, law.DeskMay, law.DeskReads. -/
import Derived.Test.YtadmfokicjjglaaDoorD1
import Derived.Test.YtadmfokicjjglaaDoorX4
import Derived.Test.YtadmfokicjjglaaDoorSp
import Derived.Test.YtadmfokicjjglaaDoorY2
import Derived.Test.YtadmfokicjjglaaDoorL1
import Derived.Test.YtadmfokicjjglaaDoorHd
namespace Go.Proofs.YtadmfokicjjglaaDoor.E
open Go.RowKit Go.Proofs
set_option maxRecDepth 100000
set_option maxHeartbeats 1000000
set_option linter.unusedSimpArgs false
set_option linter.unusedVariables false
end Go.Proofs.YtadmfokicjjglaaDoor.E
namespace Go.Proofs.YtadmfokicjjglaaDoor.E
open Go.RowKit Go.Proofs
set_option maxRecDepth 100000
set_option maxHeartbeats 1000000
set_option linter.unusedSimpArgs false
set_option linter.unusedVariables false
end Go.Proofs.YtadmfokicjjglaaDoor.E
namespace Go.Proofs.YtadmfokicjjglaaDoor.E
open Go.RowKit Go.Proofs
set_option maxRecDepth 100000
set_option maxHeartbeats 1000000
set_option linter.unusedSimpArgs false
end Go.Proofs.YtadmfokicjjglaaDoor.E
namespace Go.Proofs.YtadmfokicjjglaaDoor.E
open Go.RowKit Go.Proofs
set_option maxRecDepth 100000
set_option maxHeartbeats 1000000
set_option linter.unusedSimpArgs false
set_option linter.unusedVariables false
end Go.Proofs.YtadmfokicjjglaaDoor.E
