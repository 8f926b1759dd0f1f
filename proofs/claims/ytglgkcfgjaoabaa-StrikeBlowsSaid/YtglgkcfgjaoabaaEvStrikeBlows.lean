/- The blows of a strike: what the law computes is true. -/
import Derived.Test.YtglgkcfgjaoabaaGStrikeBlows
import Derived.Test.YtglgkcfgjaoabaaEvKnown
set_option linter.unusedSimpArgs false
set_option linter.unusedVariables false
namespace Go.Proofs.Ytglgkcfgjaoabaa.Sy
open Go.RowKit
set_option maxRecDepth 100000

theorem strikeBlows_evx {rr1 : Bool} {rr2 : Bool} {rr3 : List (Int × Int)} {slot4 : Int} (h0 : True ∧ True ∧ (rr3.length ≤ maxLen ∧ ∀ el81 ∈ rr3, (Lit.int .i64 el81.1).wf = true ∧ (Lit.int .i64 el81.2).wf = true)) (h1 : (Lit.int .i64 slot4).wf = true) :
    ∃ n, ev_law05_StrikeBlows n rr1 rr2 rr3 slot4 = some true := by
  refine ⟨3100, ?_⟩
  rw [ev_law05_StrikeBlows, cond_if]
  by_cases hl : 20 < rr3.length
  · rw [if_pos (decide_eq_true (by omega)), bind_of known_ev]
  · have hq : rr3.length ≤ 20 := by omega
    have hN := plNs rr1
    have hNc := nN_cast rr1
    rw [if_neg (fun h => hl (by have := of_decide_eq_true h; omega)), bind_of (ev_copied (by omega))]
    simp only
    rw [bind_of (ev_CheckP (by decide) hq), bind_of (ev_BlowsP (by decide) hq slot4), bind_of (ev_DayP (by decide) hq), bind_of (ev_refCheck (by decide) hq), bind_of (ev_quiet (by omega) (by omega)), cond_if, if_neg (by simp), cond_if, if_neg (by simp), cond_if]
    by_cases hc : chkP rr1 rr3 = 0
    · rw [if_neg (by simp [hc]), ev_law05_StrikeBlows_j1, if_neg (by simp [hc]), if_neg (by simp [hc])]
      have key : ∀ (k m i : Nat) (c : Int), i + k = 2 * nN rr1 → k < m → 0 ≤ c → c ≤ 12 * (i : Int) → c + dayS rr1 rr3 k i = dayP rr1 rr3 →
          ev_law05_StrikeBlows_l2 3100 rr1 rr2 rr3 (dayP rr1 rr3, 0) slot4 (if 0 ≤ slot4 ∧ slot4 ≤ 2000000 then (blP rr1 rr3 slot4 (slot4 % plN rr1), 0) else (0, 3)) m c (i : Int) = some true := by
        intro k
        induction k with
        | zero =>
          intro m i c hi hm h0 h1 hs
          cases m with
          | zero => omega
          | succ m =>
            simp only [dayS, Int.add_zero] at hs
            rw [ev_law05_StrikeBlows_l2, bind_of ev_refN, chk_of (in64_of (by omega)), cond_if, if_neg (by simp only [decide_eq_true_eq]; omega), cond_if, if_neg (by simp), cond_if, if_neg (by simp [hs]), ev_law05_StrikeBlows_j3, bind_of ev_refSlot, cond_if]
            by_cases hsl : 0 ≤ slot4 ∧ slot4 ≤ 2000000
            · have he := emod_place rr1 slot4
              rw [if_neg (by simp [hsl]), if_pos hsl, cond_if, if_pos (by rfl), bind_of ev_refN, chk_of (by simp; omega), Int.tmod_eq_emod_of_nonneg hsl.1, bind_of (ev_refBlows (by decide) hq hsl.1 (by omega)), cond_if, if_pos (by simp), bind_of known_ev]
            · rw [if_pos (by rw [decide_eq_false hsl]; rfl), if_neg hsl, cond_if, if_pos (by rfl), cond_if, if_pos (by rfl), bind_of known_ev]
        | succ k ih =>
          intro m i c hi hm h0 h1 hs
          cases m with
          | zero => omega
          | succ m =>
            have he := emod_place rr1 (i : Int)
            have hb := blP_range (h := rr1) (q := rr3) (slot := (i : Int)) he
            have e : ((i : Int) + 1) = ((i + 1 : Nat) : Int) := by omega
            simp only [dayS] at hs
            rw [e] at hs
            rw [ev_law05_StrikeBlows_l2, bind_of ev_refN, chk_of (in64_of (by omega)), cond_if, if_pos (by simp only [decide_eq_true_eq]; omega), bind_of ev_refN, chk_of (by simp; omega), Int.tmod_eq_emod_of_nonneg (by omega), bind_of (ev_refBlows (by decide) hq (by omega) (by omega)), chk_of (in64_of (by omega)), chk_of (in64_of (by omega)), e]
            exact ih m (i + 1) _ (by omega) (by omega) (by omega) (by omega) (by omega)
      exact key (2 * nN rr1) 3100 0 0 (by omega) (by omega) (by omega) (by omega) (by rw [Int.zero_add]; rfl)
    · rw [if_pos (by simpa using hc), if_pos hc, if_pos hc, ev_law05_StrikeBlows_j0, cond_if, if_pos (by simpa using hc), cond_if, if_pos (by simp), bind_of (ev_quiet (show rr3.length < 3100 by omega) (by omega)), cond_if, if_pos rfl, cond_if, if_pos (by simp), cond_if, if_pos (by simp), cond_if, if_pos (by rfl), cond_if, if_pos (by rfl), bind_of known_ev]
end Go.Proofs.Ytglgkcfgjaoabaa.Sy
