/- Regulation in plain terms: what an image that is good says of all that can be seen. -/
import Derived.Test.YthgbjhglhejalaaBREvL
namespace Go.Proofs.Ythgbjhglhejalaa.Sy
def imR (st : Int → Int) (w top : Int) : Nat → Int
  | 0 => if top + w ≤ st top then top + w else st top
  | k + 1 => if top - (k + 1) + w ≤ st (top - (k + 1)) then max (top - (k + 1) + w) (imR st w top k) else st (top - (k + 1))
end Go.Proofs.Ythgbjhglhejalaa.Sy
