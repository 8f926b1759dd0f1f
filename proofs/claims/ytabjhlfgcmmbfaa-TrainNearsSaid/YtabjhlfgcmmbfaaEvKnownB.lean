/- The known calls, at the fuel of the laws that need the reference. -/
import Derived.Test.YtabjhlfgcmmbfaaEvLaw01
set_option linter.unusedSimpArgs false
set_option linter.unusedVariables false
namespace Go.Proofs.Ytabjhlfgcmmbfaa.Sy
open Go.RowKit
set_option maxRecDepth 100000

/-- the fuel of all laws -/
theorem knownB : ev_law01_known 2000000 = some true := by decide +kernel
end Go.Proofs.Ytabjhlfgcmmbfaa.Sy
