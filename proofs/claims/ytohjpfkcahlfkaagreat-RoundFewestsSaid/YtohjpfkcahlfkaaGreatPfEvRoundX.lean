/- Rounds: comparing lists of integers as the document does. -/
import Derived.Test.YtohjpfkcahlfkaaGreatPfEvRoundS
import Derived.Test.YtohjpfkcahlfkaaGreatPfGTurretref11
set_option linter.unusedSimpArgs false
set_option linter.unusedVariables false
namespace Go.Proofs.YtohjpfkcahlfkaaGreat.Sy
open Go.RowKit
set_option maxRecDepth 100000
theorem smaller_ev {n : Nat} {a b : List Int} (ha : a.length ≤ 10000) (hb : b.length ≤ 10000) (hn : a.length < n) : ev_ref11_Smaller n a b = some (lx a b) := by
  have key : ∀ (k m i : Nat), i + k = a.length → k < m → i ≤ b.length → ev_ref11_Smaller_l0 n a b m (i : Int) = some (lx (a.drop i) (b.drop i)) := by
    intro k
    induction k with
    | zero =>
      intro m i hi hm hib;obtain ⟨m, rfl⟩ : ∃ m', m = m' + 1 := ⟨m - 1, by omega⟩;rw [ev_ref11_Smaller_l0, cond_if, if_neg (by simp; omega), show a.drop i = [] from List.drop_eq_nil_of_le (by omega)]
      by_cases h : i < b.length
      · rw [List.drop_eq_getElem_cons h, lx]
        congr 1
        exact decide_eq_true (by omega)
      · rw [List.drop_eq_nil_of_le (by omega), lx]
        congr 1
        exact decide_eq_false (by omega)
    | succ k ih =>
      intro m i hi hm hib;obtain ⟨m, rfl⟩ : ∃ m', m = m' + 1 := ⟨m - 1, by omega⟩;have hlt : i < a.length := by omega
      rw [ev_ref11_Smaller_l0, cond_if, if_pos (decide_eq_true (by omega)), cond_if, List.drop_eq_getElem_cons hlt]
      by_cases h : i < b.length
      · rw [if_pos (decide_eq_true (by omega)), idx_nat (List.getElem?_eq_getElem hlt), idx_nat (List.getElem?_eq_getElem h), cond_if, List.drop_eq_getElem_cons h, lx]
        by_cases e : a[i] = b[i]
        · rw [if_neg (by simpa using e), if_pos e, chk_of (in64_of (by omega))];exact ih m (i + 1) (by omega) (by omega) (by omega)
        · rw [if_pos (by simpa using e), if_neg e]
      · rw [if_neg (by simp; omega), show b.drop i = [] from List.drop_eq_nil_of_le (by omega), lx_nil]
        congr 1
        exact decide_eq_false (by omega)
  have := key a.length n 0 (by omega) hn (by omega);rw [List.drop_zero, List.drop_zero] at this;exact this
theorem same_ev {n : Nat} {a b : List Int} (ha : a.length ≤ 10000) (hb : b.length ≤ 10000) (hn : a.length < n ∧ b.length < n) : ev_ref11_Same n a b = some (!lx a b && !lx b a) := by
  rw [ev_ref11_Same, bind_of (smaller_ev ha hb hn.1), bind_of (smaller_ev hb ha hn.2)];cases lx a b <;> rfl
theorem same_refl {n : Nat} {a : List Int} (ha : a.length ≤ 10000) (hn : a.length < n) : ev_ref11_Same n a a = some true := by
  rw [same_ev ha ha ⟨hn, hn⟩, lx_irr]; rfl
end Go.Proofs.YtohjpfkcahlfkaaGreat.Sy
