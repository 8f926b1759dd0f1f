/- Plans without blows, and what the best plans are, in plain terms. -/
import Derived.Test.YtglgkcfgjaoabaaSbEvPlan
set_option linter.unusedSimpArgs false
set_option linter.unusedVariables false
namespace Go.Proofs.Ytglgkcfgjaoabaa.Sy
open Go.RowKit
set_option maxRecDepth 100000
section
variable {h rack : Bool} {q : List (Int × Int)}
end
end Go.Proofs.Ytglgkcfgjaoabaa.Sy
