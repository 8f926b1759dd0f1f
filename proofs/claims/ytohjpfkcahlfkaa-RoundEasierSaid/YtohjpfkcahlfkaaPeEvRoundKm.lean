/- Rounds: the known calls, with any more fuel. -/
import Derived.Test.YtohjpfkcahlfkaaPeEvRoundKn
set_option linter.unusedSimpArgs false
set_option linter.unusedVariables false
namespace Go.Proofs.Ytohjpfkcahlfkaa.Sy
open Go.RowKit
set_option maxRecDepth 100000
theorem known11n (n : Nat) : ev_law11_known (n + 2200) = some true := by kernel_rfl
end Go.Proofs.Ytohjpfkcahlfkaa.Sy
