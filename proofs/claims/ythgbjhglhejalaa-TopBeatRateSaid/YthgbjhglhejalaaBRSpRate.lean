/- What functions come to that every package has: printed by specs.py. -/
import Derived.Test.YthgbjhglhejalaaBRGRate
import Derived.Test.YthgbjhglhejalaaBRSpLib
set_option linter.unusedSimpArgs false
set_option linter.unusedVariables false
namespace Go.Proofs.Ythgbjhglhejalaa.Sy
open Go.RowKit
set_option maxRecDepth 100000
end Go.Proofs.Ythgbjhglhejalaa.Sy
