/- Rounds: a round that is found is walked in as many minutes; a round that is walked can be found. -/
import Derived.Test.YtohjpfkcahlfkaaPeEvRoundBe
set_option linter.unusedSimpArgs false
set_option linter.unusedVariables false
namespace Go.Proofs.Ytohjpfkcahlfkaa.Sy
open Go.RowKit
set_option maxRecDepth 100000
section
variable {t : List Tw} {w : List (List Int)} {g : List Wd} {rest wage : Int} (h : OkR t w g rest wage) {wd : Wd} (hw : wd ∈ g)
include h hw in
theorem cand_len {goal : Int} : ∀ (l : List Int) (r : Bool) (σ : Wk) (m : Int), OkW t σ → candP t w rest wd goal r σ l m → l.length ≤ measP σ r
  | [], _, _, _, _, _ => Nat.zero_le _
  | s :: l, r, σ, m, hσ, hc => by
    obtain ⟨h1, h0, hc⟩ := hc;have := cand_len l _ _ m (step_ok h hw hσ h0).1 hc;have := meas_step h hσ h1 h0;rw [List.length_cons]; omega
end
end Go.Proofs.Ytohjpfkcahlfkaa.Sy
