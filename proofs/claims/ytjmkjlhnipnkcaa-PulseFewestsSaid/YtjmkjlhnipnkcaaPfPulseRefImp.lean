/- The walk of the reference's impulse of a minute. -/
import Derived.Test.YtjmkjlhnipnkcaaPfPulseRef
set_option linter.unusedSimpArgs false
set_option linter.unusedVariables false
namespace Go.Proofs.Ytjmkjlhnipnkcaa
open Go.RowKit Go.Shelf
end Go.Proofs.Ytjmkjlhnipnkcaa
