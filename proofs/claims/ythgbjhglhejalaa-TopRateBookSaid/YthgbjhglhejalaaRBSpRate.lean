/- What functions come to that every package has: printed by specs.py. -/
import Derived.Test.YthgbjhglhejalaaRBGRate
import Derived.Test.YthgbjhglhejalaaRBSpLib
set_option linter.unusedSimpArgs false
set_option linter.unusedVariables false
namespace Go.Proofs.Ythgbjhglhejalaa.Sy
open Go.RowKit
set_option maxRecDepth 100000
end Go.Proofs.Ythgbjhglhejalaa.Sy
