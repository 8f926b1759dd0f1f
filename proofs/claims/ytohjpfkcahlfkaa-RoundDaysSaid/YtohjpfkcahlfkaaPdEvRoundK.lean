/- Rounds: copies of days, bytes. -/
import Derived.Test.YtohjpfkcahlfkaaPdEvRoundKn
set_option linter.unusedSimpArgs false
set_option linter.unusedVariables false
namespace Go.Proofs.Ytohjpfkcahlfkaa.Sy
open Go.RowKit
set_option maxRecDepth 100000
theorem days_ev {n : Nat} {l : List (Int × List Int)} (hl : l.length < n) (hl2 : l.length ≤ 1000000) (h : ∀ d ∈ l, d.2.length ≤ 1000000) : ev_law11_days n l = some l := by
  have key : ∀ (k m i : Nat), i + k = l.length → k < m → ev_law11_days_l0 n m (i : Int) l (l.take i) = some l := by
    intro k
    induction k with
    | zero =>
      intro m i hi hm
      obtain ⟨m, rfl⟩ : ∃ m', m = m' + 1 := ⟨m - 1, by omega⟩
      rw [ev_law11_days_l0, cond_if, if_neg (by simp; omega), List.take_of_length_le (by omega)]
    | succ k ih =>
      intro m i hi hm
      obtain ⟨m, rfl⟩ : ∃ m', m = m' + 1 := ⟨m - 1, by omega⟩
      have hlt : i < l.length := by omega
      rw [ev_law11_days_l0, cond_if, if_pos (decide_eq_true (by omega)), idx_nat (List.getElem?_eq_getElem hlt), bind_of (ints_ev (h _ (List.getElem_mem hlt))), chk_of (room_iff.2 (by rw [List.length_take]; simp; omega)), chk_of (in64_of (by omega))]
      have := ih m (i + 1) (by omega) (by omega)
      rw [List.take_succ_eq_append_getElem hlt] at this
      exact this
  exact key l.length n 0 (by omega) hl
end Go.Proofs.Ytohjpfkcahlfkaa.Sy
