/- Rounds: the clocks of the towers, day by day. -/
import Derived.Test.YtohjpfkcahlfkaaPeEvRoundC
import Derived.Test.YtohjpfkcahlfkaaPeGRound
set_option linter.unusedSimpArgs false
set_option linter.unusedVariables false
namespace Go.Proofs.Ytohjpfkcahlfkaa.Sy
open Go.RowKit
set_option maxRecDepth 100000
end Go.Proofs.Ytohjpfkcahlfkaa.Sy
