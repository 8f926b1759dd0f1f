/- Rounds: the known calls, with any more fuel. -/
import Derived.Test.YtohjpfkcahlfkaaGreatPfEvRoundKn
set_option linter.unusedSimpArgs false
set_option linter.unusedVariables false
namespace Go.Proofs.YtohjpfkcahlfkaaGreat.Sy
open Go.RowKit
set_option maxRecDepth 100000
end Go.Proofs.YtohjpfkcahlfkaaGreat.Sy
