/- Comparing pairs, and folds over what an iterator yields. -/
import Derived.Test.YtglgkcfgjaoabaaSbGLib
import Derived.Test.YtglgkcfgjaoabaaSbEvL
import Derived.Test.YtglgkcfgjaoabaaSbEvMap
set_option linter.unusedSimpArgs false
set_option linter.unusedVariables false
namespace Go.Proofs.Ytglgkcfgjaoabaa.Sy
open Go.RowKit
set_option maxRecDepth 100000
theorem ev_cmp1 {n : Nat} (a b : Int) : ev_cmp_Compare_int n a b = some (if a < b then -1 else if b < a then 1 else 0) := by
  simp only [ev_cmp_Compare_int, ev_cmp_isNaN_int, bind_of, Option.bind_some, bne_self_eq_false, cond_if, Bool.false_eq_true, if_false]
  by_cases h1 : a < b
  · simp [h1]
  · by_cases h2 : b < a
    · simp [h1, h2]
    · simp [h1, h2]
theorem ev_or2 {n : Nat} (hn : 3 < n) (u v : Int) : ev_cmp_Or_int n [u, v] = some (if u ≠ 0 then u else v) := by
  obtain ⟨m, rfl⟩ : ∃ m, n = m + 3 := ⟨n - 3, by omega⟩;rw [ev_cmp_Or_int, ev_cmp_Or_int_l0, cond_if, if_pos (by simp), idx_of (x := u) (by decide) (by rfl), cond_if]
  by_cases hu : u = 0
  · rw [if_neg (by simpa using hu), chk_of (by decide), ev_cmp_Or_int_l0, cond_if, if_pos (by simp), idx_of (x := v) (by decide) (by rfl), cond_if]
    by_cases hv : v = 0
    · rw [if_neg (by simpa using hv), chk_of (by decide), ev_cmp_Or_int_l0, cond_if, if_neg (by simp)]; simp [hu, hv]
    · rw [if_pos (by simpa using hv)]; simp [hu]
  · rw [if_pos (by simpa using hu)]; simp [hu]
def ltC (x y : Int × Int) : Prop := x.1 < y.1 ∨ x.1 = y.1 ∧ x.2 < y.2
instance (x y : Int × Int) : Decidable (ltC x y) := inferInstanceAs (Decidable (_ ∨ _))
theorem ltC_trans {x y z : Int × Int} (h : ¬ ltC y x) (h2 : ¬ ltC z y) : ¬ ltC z x := by unfold ltC at *; omega
theorem ltC_irrefl (x : Int × Int) : ¬ ltC x x := by unfold ltC; omega
theorem cmp_lt (a b c d : Int) : (if (if a < c then (-1 : Int) else if c < a then 1 else 0) ≠ 0 then (if a < c then (-1 : Int) else if c < a then 1 else 0) else (if b < d then -1 else if d < b then 1 else 0)) < 0 ↔ ltC (a, b) (c, d) := by
  unfold ltC;simp only
  by_cases h1 : a < c
  · simp [h1]
  · by_cases h2 : c < a
    · simp [h1, h2]; omega
    · have : a = c := by omega
      subst this;simp
      by_cases h3 : b < d
      · simp [h3]
      · by_cases h4 : d < b
        · simp [h3, h4]
        · simp [h3, h4]
end Go.Proofs.Ytglgkcfgjaoabaa.Sy
