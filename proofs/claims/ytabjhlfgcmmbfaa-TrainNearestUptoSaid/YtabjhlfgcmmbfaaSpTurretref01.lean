/- What functions come to that every package has: printed by specs.py. -/
import Derived.Test.YtabjhlfgcmmbfaaGTurretref01
import Derived.Test.YtabjhlfgcmmbfaaSpLib
set_option linter.unusedSimpArgs false
set_option linter.unusedVariables false
namespace Go.Proofs.Ytabjhlfgcmmbfaa.Sy
open Go.RowKit
set_option maxRecDepth 100000

end Go.Proofs.Ytabjhlfgcmmbfaa.Sy
