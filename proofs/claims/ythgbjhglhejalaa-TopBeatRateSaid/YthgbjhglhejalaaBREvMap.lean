/- Maps as lists, and folds over what an iterator yields. -/
import Derived.Test.YthgbjhglhejalaaBREvL
import Derived.Test.YthgbjhglhejalaaBRSymQJ
set_option linter.unusedSimpArgs false
set_option linter.unusedVariables false
namespace Go.Proofs.Ythgbjhglhejalaa.Sy
open Go.RowKit
set_option maxRecDepth 100000
theorem mlook_put {κ ν : Type} [BEq κ] [LawfulBEq κ] (xs : List (κ × ν)) (k k' : κ) (v : ν) : mlook (mput xs k v) k' = if (k == k') = true then some v else mlook xs k' := by
  induction xs with
  | nil => rw [mput_nil, mlook_cons, mlook_nil]
  | cons x xs ih =>
    rw [mput_cons, mlook_cons]
    by_cases h : x.1 = k
    · simp only [h, BEq.rfl, if_true, mlook_cons];cases (k == k') <;> simp
    · have h1 : (x.1 == k) = false := by simpa using h
      simp only [h1, Bool.false_eq_true, if_false, mlook_cons, ih]
      by_cases h2 : x.1 = k'
      · subst h2;have h4 : (k == x.1) = false := by simpa using Ne.symm h
        simp [h4]
      · have h3 : (x.1 == k') = false := by simpa using h2
        simp only [h3, Bool.false_eq_true, if_false]
end Go.Proofs.Ythgbjhglhejalaa.Sy
