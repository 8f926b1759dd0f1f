/- Rounds: bytes. -/
import Derived.Test.YtohjpfkcahlfkaaPeEvRoundKn
set_option linter.unusedSimpArgs false
set_option linter.unusedVariables false
namespace Go.Proofs.Ytohjpfkcahlfkaa.Sy
open Go.RowKit
set_option maxRecDepth 100000
theorem byteOf_ev {n : Nat} {l : List Int} (h : ∀ x ∈ l, 0 ≤ x ∧ x ≤ 255) {i : Int} (hi : 0 ≤ i) : ∃ b, ev_law11_byteOf n l i = some b ∧ 0 ≤ b ∧ b ≤ 255 := by
  rw [ev_law11_byteOf, cond_if]
  by_cases h0 : l.length = 0
  · rw [if_pos (by simp [h0])]; exact ⟨0, rfl, by omega, by omega⟩
  · have hlt : (i % l.length).toNat < l.length := by
      have h1 := Int.emod_nonneg i (show (l.length : Int) ≠ 0 by omega);have h2 := Int.emod_lt_of_pos i (show (0 : Int) < l.length by omega)
      omega
    have hb := h _ (List.getElem_mem hlt);have h1 := Int.emod_nonneg i (show (l.length : Int) ≠ 0 by omega);rw [if_neg (by simpa using h0), chk_of (by simp; intro e; exact h0 (by simp [e])), Int.tmod_eq_emod_of_nonneg hi, idx_of h1 (List.getElem?_eq_getElem hlt), chk_of (in64_of (by omega))];exact ⟨_, rfl, hb⟩
end Go.Proofs.Ytohjpfkcahlfkaa.Sy
