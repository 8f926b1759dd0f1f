/- What plans do: what the law computes is true. -/
import Derived.Test.YtglgkcfgjaoabaaGStrikePlays
import Derived.Test.YtglgkcfgjaoabaaEvRefPlay
set_option linter.unusedSimpArgs false
set_option linter.unusedVariables false
namespace Go.Proofs.Ytglgkcfgjaoabaa.Sy
open Go.RowKit
set_option maxRecDepth 100000

theorem strikePlays_evx {rr1 : Bool} {rr2 : Bool} {rr3 : List (Int × Int)} {at_4 : Int} {at_5 : Int} {plan6 : List (Int × Bool)} (h0 : True ∧ True ∧ (rr3.length ≤ maxLen ∧ ∀ el81 ∈ rr3, (Lit.int .i64 el81.1).wf = true ∧ (Lit.int .i64 el81.2).wf = true)) (h1 : (Lit.int .i64 at_4).wf = true ∧ (Lit.int .i64 at_5).wf = true) (h2 : (plan6.length ≤ maxLen ∧ ∀ el73 ∈ plan6, (Lit.int .i64 el73.1).wf = true ∧ True)) :
    ∃ n, ev_law05_StrikePlays n rr1 rr2 rr3 at_4 at_5 plan6 = some true := by
  refine ⟨3100, ?_⟩
  rw [ev_law05_StrikePlays, cond_if]
  by_cases hl : 20 < rr3.length
  · rw [if_pos (decide_eq_true (by omega)), bind_of known_ev]
  · rw [if_neg (fun h => hl (by have := of_decide_eq_true h; omega)), cond_if]
    by_cases hp : 110 < plan6.length
    · rw [if_pos (decide_eq_true (by omega)), bind_of known_ev]
    · have hq : rr3.length ≤ 20 := by omega
      rw [if_neg (fun h => hp (by have := of_decide_eq_true h; omega)), ev_law05_StrikePlays_j0, bind_of (ev_stepsC (by omega)), bind_of (ev_copied (by omega))]
      simp only
      rw [bind_of (ev_PlayP (by decide) hq at_4 at_5 plan6), bind_of (ev_refCheck (by decide) hq), cond_if]
      have fin : ∀ (r : Int × Int × Int), ev_law05_StrikePlays_j2 3100 plan6 plan6 r r.2.2 r.1 r.2.1 = some true := by
        intro r
        rw [ev_law05_StrikePlays_j2, bind_of (ev_refEqual (by omega) (by omega)), cond_if, if_pos rfl, cond_if, if_pos (by simp), cond_if, if_pos (by simp), cond_if, if_pos (by simp), bind_of known_ev]
      by_cases hc : chkP rr1 rr3 = 0
      · rw [if_pos (by simpa using hc), if_neg (by simp [hc]), bind_of (ev_refBegin at_4 at_5), ev_law05_StrikePlays_j1, cond_if]
        by_cases hb : begP rr1 rr2 at_4 at_5 = 0
        · obtain ⟨b1, b2, b3⟩ := begP_ok hb
          rw [if_pos (by simpa using hb), if_neg (by simp [hb]), bind_of (ev_refPlay (by decide) hq b1 b2 plan6)]
          exact fin _
        · rw [if_neg (by simpa using hb), if_pos hb]
          exact fin (0, 0, begP rr1 rr2 at_4 at_5)
      · rw [if_neg (by simpa using hc), if_pos hc, ev_law05_StrikePlays_j1, cond_if, if_neg (by simpa using hc)]
        exact fin (0, 0, chkP rr1 rr3)
end Go.Proofs.Ytglgkcfgjaoabaa.Sy
