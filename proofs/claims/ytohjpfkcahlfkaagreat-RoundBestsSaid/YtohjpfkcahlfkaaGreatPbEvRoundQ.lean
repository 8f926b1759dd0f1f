/- Rounds: rules are the same as themselves. -/
import Derived.Test.YtohjpfkcahlfkaaGreatPbEvRoundC
import Derived.Test.YtohjpfkcahlfkaaGreatPbEvRoundX
import Derived.Test.YtohjpfkcahlfkaaGreatPbGturretlaw11
set_option linter.unusedSimpArgs false
set_option linter.unusedVariables false
namespace Go.Proofs.YtohjpfkcahlfkaaGreat.Sy
open Go.RowKit
set_option maxRecDepth 100000
theorem rules_same {n : Nat} {t : List Tw} {w : List (List Int)} {g : List Wd} {rest wage : Int} (ht : t.length ≤ 50) (hg : g.length ≤ 50) (hw : w.length ≤ 50) (hr : ∀ r ∈ w, r.length ≤ 50) (hn : 100 < n := by decide) : ev_law11_same n t w g rest wage t w g rest wage = some true := by
  have l3 : ∀ (k m i : Nat), i + k = w.length → k < m → ev_law11_same_l3 n w w m (i : Int) = some true := by
    intro k
    induction k with
    | zero =>
      intro m i hi hm
      obtain ⟨m, rfl⟩ : ∃ m', m = m' + 1 := ⟨m - 1, by omega⟩
      rw [ev_law11_same_l3, cond_if, if_neg (by simp; omega)]
    | succ k ih =>
      intro m i hi hm
      obtain ⟨m, rfl⟩ : ∃ m', m = m' + 1 := ⟨m - 1, by omega⟩
      have hlt : i < w.length := by omega
      have hrl := hr _ (List.getElem_mem hlt)
      rw [ev_law11_same_l3, cond_if, if_pos (decide_eq_true (by omega)), idx_nat (List.getElem?_eq_getElem hlt), idx_nat (List.getElem?_eq_getElem hlt), bind_of (same_refl (by omega) (by omega)), cond_if, if_neg (by simp), chk_of (in64_of (by omega))]
      exact ih m (i + 1) (by omega) (by omega)
  have l2 : ∀ (k m i : Nat), i + k = g.length → k < m → ev_law11_same_l2 n g g w w m (i : Int) = some true := by
    intro k
    induction k with
    | zero =>
      intro m i hi hm
      obtain ⟨m, rfl⟩ : ∃ m', m = m' + 1 := ⟨m - 1, by omega⟩
      rw [ev_law11_same_l2, cond_if, if_neg (by simp; omega)]
      exact l3 w.length n 0 (by omega) (by omega)
    | succ k ih =>
      intro m i hi hm
      obtain ⟨m, rfl⟩ : ∃ m', m = m' + 1 := ⟨m - 1, by omega⟩
      have hlt : i < g.length := by omega
      rw [ev_law11_same_l2, cond_if, if_pos (decide_eq_true (by omega)), idx_nat (List.getElem?_eq_getElem hlt), idx_nat (List.getElem?_eq_getElem hlt), cond_if, if_neg (by simp), chk_of (in64_of (by omega))]
      exact ih m (i + 1) (by omega) (by omega)
  have l1 : ∀ (k m i : Nat), i + k = t.length → k < m → ev_law11_same_l1 n t t g g w w m (i : Int) = some true := by
    intro k
    induction k with
    | zero =>
      intro m i hi hm
      obtain ⟨m, rfl⟩ : ∃ m', m = m' + 1 := ⟨m - 1, by omega⟩
      rw [ev_law11_same_l1, cond_if, if_neg (by simp; omega)]
      exact l2 g.length n 0 (by omega) (by omega)
    | succ k ih =>
      intro m i hi hm
      obtain ⟨m, rfl⟩ : ∃ m', m = m' + 1 := ⟨m - 1, by omega⟩
      have hlt : i < t.length := by omega
      rw [ev_law11_same_l1, cond_if, if_pos (decide_eq_true (by omega)), idx_nat (List.getElem?_eq_getElem hlt), idx_nat (List.getElem?_eq_getElem hlt), cond_if, if_neg (by simp), chk_of (in64_of (by omega))]
      exact ih m (i + 1) (by omega) (by omega)
  rw [ev_law11_same, cond_if, if_neg (by simp), cond_if, if_neg (by simp), cond_if, if_neg (by simp), cond_if, if_neg (by simp), cond_if, if_neg (by simp), ev_law11_same_j0]
  exact l1 t.length n 0 (by omega) (by omega)
end Go.Proofs.YtohjpfkcahlfkaaGreat.Sy
