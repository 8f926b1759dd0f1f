/- What functions of the program compute, and that they do: printed by symgen.py. -/
import Derived.Test.YtgkoldcmbcbbpaaCmGLib
import Derived.Test.YtgkoldcmbcbbpaaCmGChimeA
set_option linter.unusedSimpArgs false
set_option linter.unusedVariables false
namespace Go.Proofs.Ytgkoldcmbcbbpaa.Sy
open Go.RowKit
noncomputable section
end
end Go.Proofs.Ytgkoldcmbcbbpaa.Sy
