/- The walk of the reference's Run: minute by minute. -/
import Derived.Test.YtjmkjlhnipnkcaaPfPulseRefImp
import Derived.Test.YtjmkjlhnipnkcaaPfTail
set_option linter.unusedSimpArgs false
set_option linter.unusedVariables false
namespace Go.Proofs.Ytjmkjlhnipnkcaa
open Go.RowKit Go.Shelf
namespace Pu
def runN (l : Ln) (f : Int) (fs : List (Int × Int)) (d : Dl) : Nat → Dl
  | 0 => d
  | n + 1 => imp l (f + n + 1) (movesAt fs (f + n + 1)) (runN l f fs d n)
end Pu
end Go.Proofs.Ytjmkjlhnipnkcaa
