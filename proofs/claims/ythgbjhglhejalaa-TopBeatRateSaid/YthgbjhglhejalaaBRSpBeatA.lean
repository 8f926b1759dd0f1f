/- What functions come to that every package has: printed by specs.py. -/
import Derived.Test.YthgbjhglhejalaaBRGBeatA
import Derived.Test.YthgbjhglhejalaaBRSpLib
set_option linter.unusedSimpArgs false
set_option linter.unusedVariables false
namespace Go.Proofs.Ythgbjhglhejalaa.Sy
open Go.RowKit
set_option maxRecDepth 100000
theorem wi_beat {n : Nat} {a b : Int} {l : List Int} (hl : l.length ≤ 4611686018427387904) (hn : l.length < n) : ev_beat_within n a b l = some (l.all fun z => decide (a ≤ z) && decide (z ≤ b)) := by
  rw [ev_beat_within, bind_of (cf_Lint_int (g := fun z => decide (z < a) || decide (b < z)) (fun x _ => by rw [ev_beat_within_1, cond_if]; by_cases h : x < a <;> simp [h]) hl hn)]
  congr 1
  rw [Bool.eq_iff_iff];simp only [Bool.not_eq_true', List.all_eq_true, Bool.and_eq_true, decide_eq_true_eq, List.any_eq_false, Bool.or_eq_true, not_or];exact ⟨fun h x hx => by have := h x hx; omega, fun h x hx => by have := h x hx; omega⟩
theorem wi1_beat {n : Nat} {a b z : Int} (hn : 1 < n) : ev_beat_within n a b ([z] : List Int) = some (decide (a ≤ z) && decide (z ≤ b)) := by
  rw [wi_beat (by simp) (by simpa using hn)]; simp
theorem wi2_beat {n : Nat} {a b z y : Int} (hn : 2 < n) : ev_beat_within n a b ([z, y] : List Int) = some ((decide (a ≤ z) && decide (z ≤ b)) && (decide (a ≤ y) && decide (y ≤ b))) := by
  rw [wi_beat (by simp) (by simpa using hn)]; simp
end Go.Proofs.Ythgbjhglhejalaa.Sy
