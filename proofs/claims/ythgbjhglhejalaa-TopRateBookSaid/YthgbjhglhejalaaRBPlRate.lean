/- Regulation in plain terms: what an image that is good says of all that can be seen. -/
import Derived.Test.YthgbjhglhejalaaRBEvL
namespace Go.Proofs.Ythgbjhglhejalaa.Sy
def imR (st : Int → Int) (w top : Int) : Nat → Int
  | 0 => if top + w ≤ st top then top + w else st top
  | k + 1 => if top - (k + 1) + w ≤ st (top - (k + 1)) then max (top - (k + 1) + w) (imR st w top k) else st (top - (k + 1))
theorem im_win {st : Int → Int} {w top : Int} (hw : 0 ≤ w) : ∀ (k : Nat) (H : Int), H ≤ imR st w top k → H ≤ top → ∀ f : Int, top - k ≤ f → f ≤ max (top - k) (H - w) → min H (f + w) ≤ st f := by
  intro k
  induction k with
  | zero =>
    intro H h hH f h0 h1;have e : f = top := by omega
    subst e;unfold imR at h
    split at h <;> omega
  | succ k ih =>
    intro H h hH f h0 h1;unfold imR at h
    by_cases e : f = top - (k + 1)
    · subst e
      split at h <;> omega
    · split at h
      · rename_i q
        by_cases c : H ≤ top - (k + 1) + w
        · omega
        · exact ih H (by omega) hH f (by omega) (by omega)
      · omega
end Go.Proofs.Ythgbjhglhejalaa.Sy
