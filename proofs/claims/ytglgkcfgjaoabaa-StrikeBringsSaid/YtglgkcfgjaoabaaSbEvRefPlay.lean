/- What a plan does, or its error, in plain terms: the program's and the reference's. -/
import Derived.Test.YtglgkcfgjaoabaaSbEvKnown
import Derived.Test.YtglgkcfgjaoabaaSbEvFree
set_option linter.unusedSimpArgs false
set_option linter.unusedVariables false
namespace Go.Proofs.Ytglgkcfgjaoabaa.Sy
open Go.RowKit
set_option maxRecDepth 100000
def begP (h rack : Bool) (slot p : Int) : Int := if ¬ (0 ≤ slot ∧ slot ≤ 2000000) then 3 else if p < 0 ∨ plN h ≤ p ∨ (rack = true ∧ p ≠ slot % plN h) then 2 else 0
theorem begP_ok {h rack : Bool} {slot p : Int} (hb : begP h rack slot p = 0) : (0 ≤ slot ∧ slot ≤ 2000000) ∧ (0 ≤ p ∧ p < plN h) ∧ (rack = true → p = slot % plN h) := by
  unfold begP at hb
  split at hb
  · cases hb
  · rename_i h1
    have h1 := Classical.not_not.1 h1
    split at hb
    · cases hb
    · rename_i h2
      exact ⟨h1, by omega, fun hr => Classical.not_not.1 fun hne => h2 (.inr (.inr ⟨hr, hne⟩))⟩
theorem ev_beginP {n : Nat} (hn : 60 < n) {h rack : Bool} {q : List (Int × Int)} (hq : q.length ≤ 20) (slot p : Int) :
    ev_strike_begin n h rack q slot p = some (h, rack, q, plN h, if chkP h q ≠ 0 then chkP h q else begP h rack slot p) := by
  have hN := plNs h;rw [ev_strike_begin, bind_of (ev_openP (by omega) hq), cond_if];simp only
  by_cases hc : chkP h q = 0
  · rw [if_neg (by simp [hc]), if_neg (by simp [hc]), bind_of (ev_isSlotP (by omega)), cond_if];unfold begP
    by_cases hs : 0 ≤ slot ∧ slot ≤ 2000000
    · rw [if_neg (by rw [decide_eq_true hs]; simp), if_neg (by simp [hs]), chk_of (in64_of (by omega)), bind_of (wi1_strike (by omega)), cond_if]
      by_cases hp : 0 ≤ p ∧ p ≤ plN h - 1
      · rw [if_neg (by simp; omega), cond_if]
        cases rack with
        | false => rw [if_neg (by simp), if_neg (by simp; omega)]
        | true =>
          rw [if_pos rfl, chk_of (by simp; omega), Int.tmod_eq_emod_of_nonneg hs.1, cond_if]
          by_cases he : p = slot % plN h
          · rw [if_neg (by simp [he]), if_neg (by simp [← he]; omega)]
          · rw [if_pos (by simpa using he), if_pos (by simp [he])]
      · rw [if_pos (by simp; omega), cond_if, if_pos (by simp; omega), if_pos (by omega)]
    · rw [if_pos (by rw [decide_eq_false hs]; rfl), if_pos hs]
  · rw [if_pos (by simpa using hc), if_pos hc]
theorem ev_refBegin {n : Nat} {h rack : Bool} {q : List (Int × Int)} (slot p : Int) : ev_ref05_Begin n h rack q slot p = some (begP h rack slot p) := by
  have hN := plNs h;rw [ev_ref05_Begin, bind_of ev_refSlot, cond_if];unfold begP
  by_cases hs : 0 ≤ slot ∧ slot ≤ 2000000
  · rw [if_neg (by rw [decide_eq_true hs]; simp), if_neg (by simp [hs]), cond_if]
    by_cases h1 : p < 0
    · rw [if_pos (decide_eq_true h1), if_pos (.inl h1)]
    · rw [if_neg (by simpa using h1), bind_of ev_refN, cond_if]
      by_cases h2 : plN h ≤ p
      · rw [if_pos (decide_eq_true h2), if_pos (.inr (.inl h2))]
      · rw [if_neg (by simpa using h2), cond_if]
        cases rack with
        | false => rw [if_neg (by simp), if_neg (by simp; omega)]
        | true =>
          rw [if_pos rfl, bind_of ev_refN, chk_of (by simp; omega), Int.tmod_eq_emod_of_nonneg hs.1, cond_if]
          by_cases he : p = slot % plN h
          · rw [if_neg (by simp [he]), if_neg (by simp [← he]; omega)]
          · rw [if_pos (by simpa using he), if_pos (by simp [he])]
  · rw [if_pos (by rw [decide_eq_false hs]; rfl), if_pos hs]
theorem ev_refStep {n : Nat} (hn : 60 < n) {h rack : Bool} {q : List (Int × Int)} (hq : q.length ≤ 20) {slot p : Int} (hs : 0 ≤ slot) (hp : 0 ≤ p ∧ p < plN h) (s : Int × Bool) : ev_ref05_Step n h rack q slot p s.1 s.2 = some (stepE h rack q slot p s) := by
  have hN := plNs h;unfold stepE
  by_cases hok : 0 ≤ s.1 ∧ s.1 ≤ 48
  · have key : ∀ (k m : Nat) (i a c : Int), i + k = s.1 → k < m → 0 ≤ i → (0 ≤ a ∧ a < plN h) → 0 ≤ c → c ≤ 12 * i → ev_ref05_Step_l2 n s.1 h rack q (plN h) s.2 m a c i = some (endP rack s.2 (plN h) (letP h rack (plN h) k a).1, c + (letP h rack (plN h) k a).2, 0) := by
      intro k
      induction k with
      | zero =>
        intro m i a c hi hm h0 ha hc hc2
        cases m with
        | zero => omega
        | succ m =>
          have e1 : Int.tmod (a + 1) (plN h) = (a + 1) % plN h := Int.tmod_eq_emod_of_nonneg (by omega);rw [ev_ref05_Step_l2, cond_if, if_neg (by simp; omega), cond_if];simp only [letP, Int.add_zero];unfold endP
          cases rack with
          | true => rw [if_pos rfl, chk_of (in64_of (by omega)), chk_of (by simp; omega), e1]; simp
          | false =>
            rw [if_neg (by simp), cond_if]
            cases s.2 with
            | true => rw [if_neg (by simp)]; simp
            | false => rw [if_pos (by simp), chk_of (in64_of (by omega)), chk_of (by simp; omega), e1]; simp
      | succ k ih =>
        intro m i a c hi hm h0 ha hc hc2
        cases m with
        | zero => omega
        | succ m =>
          have hat := atP_range ha;have had := advP_range (rack := rack) ha;have e1 : Int.tmod (a + 1) (plN h) = (a + 1) % plN h := Int.tmod_eq_emod_of_nonneg (by omega);have nx := ih m (i + 1) (advP rack (plN h) a) (c + atP h a) (by omega) (by omega) (by omega) had (by omega) (by omega);rw [ev_ref05_Step_l2, cond_if, if_pos (decide_eq_true (by omega)), bind_of (ev_refB (by omega)), chk_of (in64_of (by omega)), cond_if];simp only [letP];rw [← Int.add_assoc, ← nx];unfold advP
          cases rack with
          | true => rw [if_neg (by simp), chk_of (in64_of (by omega))]; rfl
          | false => rw [if_pos (by simp), chk_of (in64_of (by omega)), chk_of (by simp; omega), chk_of (in64_of (by omega)), e1]; rfl
    have j1 : ev_ref05_Step_j1 n s.1 h rack q (plN h) s.2 p = some (endP rack s.2 (plN h) (letP h rack (plN h) s.1.toNat p).1, (letP h rack (plN h) s.1.toNat p).2, 0) := by
      have := key s.1.toNat n 0 p 0 (by omega) (by omega) (by omega) hp (by omega) (by omega);rw [Int.zero_add] at this;exact this
    have hnot : ¬ ((!(decide (0 ≤ s.1) && decide (s.1 ≤ 48))) = true) := by simp; omega
    rw [if_neg hnot, ev_ref05_Step, bind_of ev_refN, cond_if, if_neg (by simp; omega), cond_if, if_neg (by simp; omega), ev_ref05_Step_j0, cond_if]
    by_cases h0 : 0 < s.1
    · rw [if_pos (decide_eq_true h0), bind_of (ev_refSilent (by omega) hq hs), cond_if, decide_eq_true h0, Bool.true_and, j1]
      split <;> rfl
    · rw [if_neg (by simpa using h0), decide_eq_false h0, Bool.false_and, j1, if_neg (by simp)]
  · rw [if_pos (by simp; omega), ev_ref05_Step, bind_of ev_refN, cond_if, cond_if]
    by_cases h1 : s.1 < 0
    · rw [if_pos (decide_eq_true h1)]
    · rw [if_neg (by simpa using h1), if_pos (decide_eq_true (by omega))]
end Go.Proofs.Ytglgkcfgjaoabaa.Sy
