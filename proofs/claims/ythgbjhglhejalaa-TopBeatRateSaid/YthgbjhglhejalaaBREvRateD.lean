/- Regulation, with the rules of chapter 7's example: visit by visit, fewer visits are left. -/
import Derived.Test.YthgbjhglhejalaaBREvRateC
set_option linter.unusedSimpArgs false
set_option linter.unusedVariables false
namespace Go.Proofs.Ythgbjhglhejalaa.Sy
open Go.RowKit
set_option maxRecDepth 100000
def ub (b : Bool) : Int := if b = true then 1 else 0
theorem ub_or (b : Bool) : ub b = 0 ∨ ub b = 1 := by cases b <;> decide
theorem check_ev {n : Nat} (hn : 5 < n) : ev_rate_Check n 5 1 8 10 3 [(4, 6)] = some 0 := by
  obtain ⟨m, rfl⟩ : ∃ m, n = m + 6 := ⟨n - 6, by omega⟩
  rfl
theorem start_ev {n : Nat} (hn : 5 < n) {lo hi : Int} (b : Bool) (h0 : -300 ≤ lo) (h1 : lo ≤ hi) (h2 : hi ≤ 300) : ev_rate_start n 5 1 8 10 3 [(4, 6)] lo hi [b] = some (5, 1, 8, 10, 3, [(4, 6)], [], 0) := by
  have hs : ev_p_rate_shop_isState n 5 1 8 10 3 [(4, 6)] lo hi [b] = some true := by
    unfold ev_p_rate_shop_isState ev_rate_isSpan;rw [decide_eq_true h1, cond_true, wi2_rate (by omega)];have e : ((decide (-300 ≤ lo) && decide (lo ≤ 300)) && (decide (-300 ≤ hi) && decide (hi ≤ 300))) = true := by simp; omega
    rw [e]
    rfl
  unfold ev_rate_start ev_rate_open;rw [check_ev hn];simp only [Option.bind_some];rw [hs]
  rfl
theorem newSet_ev {n : Nat} (hn : 5 < n) (b : Bool) : ev_rate_newSet n [b] = some (ub b) := by
  obtain ⟨m, rfl⟩ : ∃ m, n = m + 6 := ⟨n - 6, by omega⟩;cases b <;> rfl
theorem Fewest_ev {n : Nat} (hn : 900 < n) {lo hi : Int} (b : Bool) (h0 : -300 ≤ lo) (h1 : lo ≤ hi) (h2 : hi ≤ 300) :
    ev_rate_Fewest n 5 1 8 10 3 [(4, 6)] lo hi [b] = some (match fewF (ub b) lo hi with | some v => ((v : Int), 0) | none => (0, 7)) := by
  obtain ⟨s', e1, _⟩ := fewest_ev (n := n) (by omega) (ub_or b) h0 (show lo ≤ 300 by omega) (hi := hi) tinv_nil;unfold ev_rate_Fewest;rw [start_ev (by omega) b h0 h1 h2, Option.bind_some, newSet_ev (by omega)];simp only [Option.bind_some];rw [e1, Option.bind_some];cases fewF (ub b) lo hi <;> rfl
theorem Act_ev {n : Nat} (hn : 900 < n) {lo hi : Int} (b : Bool) (h0 : -300 ≤ lo) (h1 : lo ≤ hi) (h2 : hi ≤ 300) {v : Nat} (hv : v ≤ 100) (hf : fewF (ub b) lo hi = some (v + 1)) {a : Int × Int} (ha : actF v (ub b) lo hi = some a) :
    ev_rate_Act n 5 1 8 10 3 [(4, 6)] lo hi [b] = some (a.1, a.2, 0) := by
  obtain ⟨s', e1, t1⟩ := fewest_ev (n := n) (by omega) (ub_or b) h0 (show lo ≤ 300 by omega) (hi := hi) tinv_nil;obtain ⟨r, e2⟩ := act_ev hn hv (ub_or b) h0 h1 h2 t1 ha;unfold ev_rate_Act;rw [start_ev (by omega) b h0 h1 h2, Option.bind_some, newSet_ev (by omega)];simp only [Option.bind_some];rw [e1, hf];simp only [Option.bind_some];have e3 : (((v + 1 : Nat) : Int) == 0) = false := by
    rw [beq_eq_false_iff_ne]; omega
  have e4 : ((v + 1 : Nat) : Int) = (v : Int) + 1 := by omega
  rw [e3, e4, e2]
  rfl
theorem few_ex : fewF 0 8 18 = some 2 := by decide +kernel
theorem act_ex : actF 1 0 8 18 = some (-2, -1) := by decide +kernel
theorem pubRate_ev {n : Nat} (hn : 900 < n) : ev_top_pubRate n = some true := by
  have e1 : ev_top_pubSpan n 8 18 = some (8, 18) := rfl;have e2 : ev_top_pubNut n = some (5, 1, 8, 10, 3, [(4, 6)]) := rfl;unfold ev_top_pubRate;rw [e1, e2];simp only [Option.bind_some];rw [Fewest_ev hn false (by omega) (by omega) (by omega), Act_ev hn false (by omega) (by omega) (by omega) (v := 1) (by omega) few_ex act_ex];have e3 : fewF (ub false) 8 18 = some 2 := few_ex;rw [e3]
  rfl
end Go.Proofs.Ythgbjhglhejalaa.Sy
