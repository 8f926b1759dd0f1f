/- Rounds: winding days that are right; how long the clocks go. -/
import Derived.Test.YtohjpfkcahlfkaaPeEvRoundD
set_option linter.unusedSimpArgs false
set_option linter.unusedVariables false
namespace Go.Proofs.Ytohjpfkcahlfkaa.Sy
open Go.RowKit
set_option maxRecDepth 100000
abbrev Dy := Int × List Int
structure OkDs (k : Nat) (ds : List Dy) : Prop where
  asc : ds.Pairwise (fun a b => a.1 < b.1)
  day : ∀ d ∈ ds, 1 ≤ d.1 ∧ d.1 ≤ 36524
  tow : ∀ d ∈ ds, ∀ x ∈ d.2, 0 ≤ x ∧ x < k
  nd : ∀ d ∈ ds, d.2.Nodup
  short : ∀ d ∈ ds, d.2.length ≤ 100
  len : ds.length ≤ 400
theorem OkDs.after {k : Nat} {ds : List Dy} (h : OkDs k ds) {i : Nat} (hi : i < ds.length) : ∀ d ∈ ds.drop (i + 1), ds[i].1 < d.1 := by
  have := h.asc.sublist (List.drop_sublist i ds);rw [List.drop_eq_getElem_cons hi, List.pairwise_cons] at this;exact this.1
end Go.Proofs.Ytohjpfkcahlfkaa.Sy
