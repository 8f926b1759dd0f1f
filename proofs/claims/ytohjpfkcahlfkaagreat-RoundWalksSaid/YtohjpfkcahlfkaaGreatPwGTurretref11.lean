/- What functions of the program compute, and that they do: printed by symgen.py. -/
import Derived.Test.YtohjpfkcahlfkaaGreatPwGLib
import Derived.Test.YtohjpfkcahlfkaaGreatPwGTurretref11A
set_option linter.unusedSimpArgs false
set_option linter.unusedVariables false
namespace Go.Proofs.YtohjpfkcahlfkaaGreat.Sy
open Go.RowKit
noncomputable section
end
end Go.Proofs.YtohjpfkcahlfkaaGreat.Sy
