/- Insertion sort, in plain terms: no program in sight. -/
import Derived.Test.YthgbjhglhejalaaBREvL
set_option linter.unusedSimpArgs false
set_option linter.unusedVariables false
namespace Go.Proofs.Ythgbjhglhejalaa.Sy
open Go.RowKit
section
variable {T : Type} (c : T → T → Int)
variable (ha : ∀ x y, c x y < 0 → ¬ c y x < 0) (ht : ∀ x y z, ¬ c y x < 0 → ¬ c z y < 0 → ¬ c z x < 0)
include ha ht
end
end Go.Proofs.Ythgbjhglhejalaa.Sy
