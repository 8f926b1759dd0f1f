/- Rounds: a round that is found is walked in as many minutes; a round that is walked can be found. -/
import Derived.Test.YtohjpfkcahlfkaaGreatPfEvRoundBe
set_option linter.unusedSimpArgs false
set_option linter.unusedVariables false
namespace Go.Proofs.YtohjpfkcahlfkaaGreat.Sy
open Go.RowKit
set_option maxRecDepth 100000
theorem hasP_ext {a b : Int} (ha : 0 ≤ a ∧ a < 256) (hb : 0 ≤ b ∧ b < 256) (h : ∀ k : Int, 0 ≤ k → k < 8 → hasP a k = hasP b k) : a = b := by
  obtain ⟨a, rfl⟩ : ∃ n : Nat, a = n := ⟨a.toNat, by omega⟩;obtain ⟨b, rfl⟩ : ∃ n : Nat, b = n := ⟨b.toNat, by omega⟩;have : a = b := by
    apply Nat.eq_of_testBit_eq;intro i
    by_cases hi : i < 8
    · have := h i (by omega) (by omega);unfold hasP at this
      simpa using this
    · have hp : (2 : Nat) ^ 8 ≤ 2 ^ i := Nat.pow_le_pow_right (by decide) (by omega);rw [Nat.testBit_lt_two_pow (by omega), Nat.testBit_lt_two_pow (by omega)]
  rw [this]
section
variable {t : List Tw} {w : List (List Int)} {g : List Wd} {rest wage : Int} (h : OkR t w g rest wage) {wd : Wd} (hw : wd ∈ g)
include h hw in
theorem cand_len {goal : Int} : ∀ (l : List Int) (r : Bool) (σ : Wk) (m : Int), OkW t σ → candP t w rest wd goal r σ l m → l.length ≤ measP σ r
  | [], _, _, _, _, _ => Nat.zero_le _
  | s :: l, r, σ, m, hσ, hc => by
    obtain ⟨h1, h0, hc⟩ := hc;have := cand_len l _ _ m (step_ok h hw hσ h0).1 hc;have := meas_step h hσ h1 h0;rw [List.length_cons]; omega
end
end Go.Proofs.YtohjpfkcahlfkaaGreat.Sy
