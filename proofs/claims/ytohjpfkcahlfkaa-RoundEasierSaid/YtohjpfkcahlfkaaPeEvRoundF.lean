/- Rounds: Left and Stops. -/
import Derived.Test.YtohjpfkcahlfkaaPeEvRoundE
set_option linter.unusedSimpArgs false
set_option linter.unusedVariables false
namespace Go.Proofs.Ytohjpfkcahlfkaa.Sy
open Go.RowKit
set_option maxRecDepth 100000
end Go.Proofs.Ytohjpfkcahlfkaa.Sy
