/- How often a strike has missed: what the law computes is true. -/
import Derived.Test.YtglgkcfgjaoabaaGStrikeHears
import Derived.Test.YtglgkcfgjaoabaaEvRefMiss2
set_option linter.unusedSimpArgs false
set_option linter.unusedVariables false
namespace Go.Proofs.Ytglgkcfgjaoabaa.Sy
open Go.RowKit
set_option maxRecDepth 100000

theorem ev_refSame {n : Nat} {q : List Int} (hn : q.length < n) (hq : q.length ≤ 1000) : ev_ref05_Same n q q = some true := by
  have key : ∀ (k m i : Nat), i + k = q.length → k < m → ev_ref05_Same_l0 n q q m (i : Int) = some true := by
    intro k
    induction k with
    | zero =>
      intro m i hi hm
      cases m with
      | zero => omega
      | succ m => rw [ev_ref05_Same_l0, cond_if, if_neg (by simp; omega)]
    | succ k ih =>
      intro m i hi hm
      cases m with
      | zero => omega
      | succ m =>
        have hlt : i < q.length := by omega
        rw [ev_ref05_Same_l0, cond_if, if_pos (decide_eq_true (by omega)), idx_nat (List.getElem?_eq_getElem hlt), idx_nat (List.getElem?_eq_getElem hlt), cond_if, if_neg (by simp), chk_of (in64_of (by omega))]
        exact ih m (i + 1) (by omega) (by omega)
  rw [ev_ref05_Same, cond_if, if_neg (by simp)]
  exact key q.length n 0 (by omega) hn
theorem strikeHears_evx {rr1 : Bool} {rr2 : Bool} {rr3 : List (Int × Int)} {l4 : List (Int × Int)} (h0 : True ∧ True ∧ (rr3.length ≤ maxLen ∧ ∀ el81 ∈ rr3, (Lit.int .i64 el81.1).wf = true ∧ (Lit.int .i64 el81.2).wf = true)) (h1 : (l4.length ≤ maxLen ∧ ∀ el43 ∈ l4, (Lit.int .i64 el43.1).wf = true ∧ (Lit.int .i64 el43.2).wf = true)) :
    ∃ n, ev_law05_StrikeHears n rr1 rr2 rr3 l4 = some true := by
  refine ⟨3100, ?_⟩
  rw [ev_law05_StrikeHears, cond_if]
  by_cases hl : 20 < rr3.length
  · rw [if_pos (decide_eq_true (by omega)), bind_of known_ev]
  · rw [if_neg (fun h => hl (by have := of_decide_eq_true h; omega)), cond_if]
    by_cases hp : 210 < l4.length
    · rw [if_pos (decide_eq_true (by omega)), bind_of known_ev]
    · have hq : rr3.length ≤ 20 := by omega
      rw [if_neg (fun h => hp (by have := of_decide_eq_true h; omega)), ev_law05_StrikeHears_j0, bind_of (ev_heard (by omega)), bind_of (ev_copied (by omega))]
      simp only
      -- the copy
      have cp : ∀ r9 : Int × (List Int) × Int, ((ev_ref05_Check 3100 rr1 rr2 rr3).bind fun r13 => cond (r13 == 0) ((ev_ref05_Heard 3100 l4).bind fun r14 => ev_law05_StrikeHears_j2 3100 r9 rr1 rr2 rr3 l4 r14) (ev_law05_StrikeHears_j2 3100 r9 rr1 rr2 rr3 l4 r13)) = some true → ev_law05_StrikeHears_l1 3100 l4 l4 rr1 rr2 rr3 r9 3100 0 = some true := by
        intro r9 hr
        have key : ∀ (k m i : Nat), i + k = l4.length → k < m → ev_law05_StrikeHears_l1 3100 l4 l4 rr1 rr2 rr3 r9 m (i : Int) = some true := by
          intro k
          induction k with
          | zero =>
            intro m i hi hm
            cases m with
            | zero => omega
            | succ m =>
              rw [ev_law05_StrikeHears_l1, cond_if, if_neg (by simp; omega)]
              exact hr
          | succ k ih =>
            intro m i hi hm
            cases m with
            | zero => omega
            | succ m =>
              have hlt : i < l4.length := by omega
              rw [ev_law05_StrikeHears_l1, cond_if, if_pos (decide_eq_true (by omega)), idx_nat (List.getElem?_eq_getElem hlt), idx_nat (List.getElem?_eq_getElem hlt), cond_if, if_neg (by simp), chk_of (in64_of (by omega))]
              exact ih m (i + 1) (by omega) (by omega)
        exact key l4.length 3100 0 (by omega) (by omega)
      obtain ⟨E, hE⟩ : ∃ E, E = if chkP rr1 rr3 = 0 then hearE l4 else chkP rr1 rr3 := ⟨_, rfl⟩
      by_cases he : E = 0
      · -- what was heard is valid
        have hc : chkP rr1 rr3 = 0 := by
          rw [he] at hE
          split at hE
          · assumption
          · omega
        rw [if_pos hc] at hE
        have hd := okHd_of (hE.symm.trans he)
        have hlen := hd.len
        have hx0 : l4[0]? = some l4[0] := List.getElem?_eq_getElem (by omega)
        have h24 : nN rr1 ≤ 24 := by cases rr1 <;> simp [nN]
        have hM := ev_Misses (n := 3100) (by decide) (h := rr1) (rack := rr2) (q := rr3) (chkP_len hc) (by rw [ev_CheckP (by decide) hq, hc]) hd hx0 (fun z hz => so_int z (by decide) (by omega) trivial)
        have hR := ev_refMisses (n := 3100) (by decide) (h := rr1) (rack := rr2) (q := rr3) hq hd hx0
        rw [bind_of hM]
        refine cp _ ?_
        rw [bind_of (ev_refCheck (by decide) hq), cond_if, if_pos (by simpa using hc), bind_of (ev_refHeard (by decide) l4), ← hE, he, ev_law05_StrikeHears_j2, cond_if, if_neg (by simp), bind_of hR]
        unfold ansP
        by_cases hn : canL (nN rr1) (missF rr1 rr2 rr3 l4 l4[0].1 (firstF rr1 rr2 l4[0].1)) = []
        · rw [if_pos hn, if_pos hn, cond_if, if_pos (by rfl), cond_if, if_pos (by rfl), cond_if, if_pos (by rfl), cond_if, if_pos (by rfl), bind_of known_ev]
        · rw [if_neg hn, if_neg hn, cond_if, if_neg (by simp), cond_if, if_pos (by simp), cond_if, if_pos (by simp), bind_of (ev_refSame ?_ ?_), cond_if, if_pos rfl, bind_of known_ev]
          all_goals
            have h2 := List.length_filter_le (fun x : Int × Int => x.2 == minE (canL (nN rr1) (missF rr1 rr2 rr3 l4 l4[0].1 (firstF rr1 rr2 l4[0].1)))) (canL (nN rr1) (missF rr1 rr2 rr3 l4 l4[0].1 (firstF rr1 rr2 l4[0].1)))
            have h3 := canL_len rr1 (missF rr1 rr2 rr3 l4 l4[0].1 (firstF rr1 rr2 l4[0].1))
            have : nN rr1 ≤ 24 := by cases rr1 <;> simp [nN]
            simp only [List.length_map]
            omega
      · rw [hE] at he
        rw [bind_of (ev_MissesE (by decide) hq he), ← hE]
        rw [← hE] at he
        refine cp _ ?_
        have j2 : ev_law05_StrikeHears_j2 3100 (0, [], E) rr1 rr2 rr3 l4 E = some true := by
          rw [ev_law05_StrikeHears_j2, cond_if, if_pos (by simpa using he), cond_if, if_pos (by simp), cond_if, if_pos (by rfl), cond_if, if_pos (by rfl), bind_of known_ev]
        rw [bind_of (ev_refCheck (by decide) hq), cond_if]
        by_cases hc : chkP rr1 rr3 = 0
        · rw [if_pos hc] at hE
          rw [if_pos (by simpa using hc), bind_of (ev_refHeard (by decide) l4), ← hE]
          exact j2
        · rw [if_neg hc] at hE
          rw [if_neg (by simpa using hc), ← hE]
          exact j2
end Go.Proofs.Ytglgkcfgjaoabaa.Sy
