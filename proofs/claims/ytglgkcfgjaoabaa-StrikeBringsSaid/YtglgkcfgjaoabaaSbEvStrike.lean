/- What a strike does, in plain terms. -/
import Derived.Test.YtglgkcfgjaoabaaSbGStrike
import Derived.Test.YtglgkcfgjaoabaaSbSpStrikeA
import Derived.Test.YtglgkcfgjaoabaaSbEvCmp
set_option linter.unusedSimpArgs false
set_option linter.unusedVariables false
namespace Go.Proofs.Ytglgkcfgjaoabaa.Sy
open Go.RowKit
set_option maxRecDepth 100000
def plN (h : Bool) : Int := if h then 24 else 12
theorem plN_or (h : Bool) : plN h = 24 ∨ plN h = 12 := by cases h <;> simp [plN]
def nN (h : Bool) : Nat := if h then 24 else 12
theorem nN_cast (h : Bool) : ((nN h : Nat) : Int) = plN h := by cases h <;> rfl
def atP (h : Bool) (p : Int) : Int := if h then (if p % 2 = 1 then 1 else if p / 2 = 0 then 12 else p / 2) else if p = 0 then 12 else p
def silP (q : List (Int × Int)) (N slot : Int) : Bool := q.any fun s => decide (s.1 ≤ slot % (2 * N)) && decide (slot % (2 * N) ≤ s.2)
def advP (rack : Bool) (N p : Int) : Int := if rack then p else (p + 1) % N
def blP (h : Bool) (q : List (Int × Int)) (slot p : Int) : Int := if silP q (plN h) slot then 0 else atP h p
theorem atP_range {h : Bool} {p : Int} (hp : 0 ≤ p ∧ p < plN h) : 1 ≤ atP h p ∧ atP h p ≤ 12 := by
  unfold atP plN at *; cases h <;> simp at hp ⊢ <;> (repeat' split) <;> omega
theorem ev_at {n : Nat} {h rack : Bool} {q : List (Int × Int)} {N p : Int} (hp : 0 ≤ p ∧ p < 100) : ev_strike_train_at n h rack q N p = some (atP h p) := by
  have e1 : Int.tmod p 2 = p % 2 := Int.tmod_eq_emod_of_nonneg hp.1;have e2 : Int.tdiv p 2 = p / 2 := Int.tdiv_eq_ediv_of_nonneg hp.1;unfold atP;rw [ev_strike_train_at, cond_if, cond_if, cond_if, cond_if, e1, e2, chk_of (in64_of (by omega))];cases h
  · simp only [Bool.false_eq_true, if_false]
    by_cases h0 : p = 0
    · simp [h0]
    · simp [h0]
  · simp only [if_true]
    by_cases h0 : p % 2 = 1
    · simp [h0]
    · simp only [h0, beq_iff_eq, if_false]
      by_cases h1 : p / 2 = 0
      · simp [h1]
      · simp [h1]
theorem ev_next {n : Nat} {h rack : Bool} {q : List (Int × Int)} {N p : Int} (hN : 1 ≤ N ∧ N ≤ 100) (hp : 0 ≤ p ∧ p < 100) : ev_strike_train_next n h rack q N p = some ((p + 1) % N) := by
  have e1 : Int.tmod (p + 1) N = (p + 1) % N := Int.tmod_eq_emod_of_nonneg (by omega);rw [ev_strike_train_next, chk_of (in64_of (by omega)), chk_of (by simp; omega), e1]
theorem ev_missed {n : Nat} {h rack : Bool} {q : List (Int × Int)} {N p : Int} (hN : 1 ≤ N ∧ N ≤ 100) (hp : 0 ≤ p ∧ p < 100) : ev_strike_train_missed n h rack q N p = some (if rack then (p + 1) % N else p) := by
  rw [ev_strike_train_missed, cond_if];cases rack
  · simp
  · simp only [if_true]; rw [bind_of (ev_next hN hp)]
theorem ev_isSilent {n : Nat} (hn : 20 < n) {h rack : Bool} {q : List (Int × Int)} (hq : q.length ≤ 8) {N slot : Int} (hN : 1 ≤ N ∧ N ≤ 100) (hs : 0 ≤ slot) : ev_strike_train_isSilent n h rack q N slot = some (silP q N slot) := by
  have e1 : Int.tmod slot (2 * N) = slot % (2 * N) := Int.tmod_eq_emod_of_nonneg hs;rw [ev_strike_train_isSilent, chk_of (in64_of (by omega)), chk_of (by simp; omega), e1, bind_of (cf_Lapi_Span_api_Span (g := fun s => decide (s.1 ≤ slot % (2 * N)) && decide (slot % (2 * N) ≤ s.2)) (fun x hx => ?_) (by omega) (by omega))]
  · rfl
  · show ev_strike_train_isSilent_1 n x.1 x.2 _ = _;rw [ev_strike_train_isSilent_1, bind_of (wi1_strike (by omega))]
theorem ev_blows {n : Nat} (hn : 20 < n) {h rack : Bool} {q : List (Int × Int)} (hq : q.length ≤ 8) {slot p : Int} (hs : 0 ≤ slot) (hp : 0 ≤ p ∧ p < 100) : ev_strike_train_blows n h rack q (plN h) slot p = some (blP h q slot p) := by
  have hN : 1 ≤ plN h ∧ plN h ≤ 100 := by rcases plN_or h with e | e <;> omega
  rw [ev_strike_train_blows, bind_of (ev_isSilent hn hq hN hs), cond_if, bind_of (ev_at hp)];unfold blP; split <;> rfl
def letP (h rack : Bool) (N : Int) : Nat → Int → Int × Int
  | 0, p => (p, 0)
  | k + 1, p => ((letP h rack N k (advP rack N p)).1, atP h p + (letP h rack N k (advP rack N p)).2)
def endP (rack hold : Bool) (N p : Int) : Int := if hold && !rack then p else (p + 1) % N
def stepE (h rack : Bool) (q : List (Int × Int)) (slot p : Int) (s : Int × Bool) : Int × Int × Int :=
  if !(decide (0 ≤ s.1) && decide (s.1 ≤ 48)) then (0, 0, 2) else if decide (0 < s.1) && silP q (plN h) slot then (0, 0, 9) else (endP rack s.2 (plN h) (letP h rack (plN h) s.1.toNat p).1, (letP h rack (plN h) s.1.toNat p).2, 0)
theorem advP_range {h rack : Bool} {p : Int} (hp : 0 ≤ p ∧ p < plN h) : 0 ≤ advP rack (plN h) p ∧ advP rack (plN h) p < plN h := by
  unfold advP; rcases plN_or h with e | e <;> rw [e] at hp ⊢ <;> split <;> omega
theorem letP_range {h rack : Bool} : ∀ (k : Nat) (p : Int), (0 ≤ p ∧ p < plN h) → (0 ≤ (letP h rack (plN h) k p).1 ∧ (letP h rack (plN h) k p).1 < plN h) ∧ (k : Int) ≤ (letP h rack (plN h) k p).2 ∧ (letP h rack (plN h) k p).2 ≤ 12 * k := by
  intro k
  induction k with
  | zero => intro p hp; simp [letP]; exact hp
  | succ k ih =>
    intro p hp;have := ih (advP rack (plN h) p) (advP_range hp);have h2 := atP_range hp;simp only [letP];refine ⟨this.1, ?_, ?_⟩ <;> omega
theorem endP_range {h rack hold : Bool} {p : Int} (hp : 0 ≤ p ∧ p < plN h) : 0 ≤ endP rack hold (plN h) p ∧ endP rack hold (plN h) p < plN h := by
  unfold endP; rcases plN_or h with e | e <;> rw [e] at hp ⊢ <;> split <;> omega
theorem stepE_range {h rack : Bool} {q : List (Int × Int)} {slot p : Int} {s : Int × Bool} (hp : 0 ≤ p ∧ p < plN h) : (0 ≤ (stepE h rack q slot p s).1 ∧ (stepE h rack q slot p s).1 < plN h) ∧ 0 ≤ (stepE h rack q slot p s).2.1 ∧ (stepE h rack q slot p s).2.1 ≤ 576 := by
  have hN := plN_or h;unfold stepE
  split
  · simp only; omega
  · rename_i h1
    simp only [Bool.not_eq_true', Bool.and_eq_false_iff, decide_eq_false_iff_not] at h1
    split
    · simp only; omega
    · have := letP_range (rack := rack) s.1.toNat p hp;have h2 := endP_range (rack := rack) (hold := s.2) this.1;simp only; omega
theorem ev_step {n : Nat} (hn : 60 < n) {h rack : Bool} {q : List (Int × Int)} (hq : q.length ≤ 8) {slot p : Int} (hs : 0 ≤ slot) (hp : 0 ≤ p ∧ p < plN h) (s : Int × Bool) : ev_strike_train_step n h rack q (plN h) slot p s.1 s.2 = some (stepE h rack q slot p s) := by
  have hN : 12 ≤ plN h ∧ plN h ≤ 24 := by rcases plN_or h with e | e <;> omega
  have hloop : 0 ≤ s.1 → s.1 ≤ 48 → ev_strike_train_step_j0 n s.1 h rack q (plN h) s.2 p = some (endP rack s.2 (plN h) (letP h rack (plN h) s.1.toNat p).1, (letP h rack (plN h) s.1.toNat p).2, 0) := by
    intro h0 h1;have key : ∀ (k m i : Nat) (a c : Int), (i : Int) + k = s.1 → k < m → (0 ≤ a ∧ a < plN h) → 0 ≤ c → c ≤ 12 * i → ev_strike_train_step_l1 n s.1 h rack q (plN h) s.2 m a c (i : Int) = some (endP rack s.2 (plN h) (letP h rack (plN h) k a).1, c + (letP h rack (plN h) k a).2, 0) := by
      intro k
      induction k with
      | zero =>
        intro m i a c hi hm ha hc hc2
        cases m with
        | zero => omega
        | succ m =>
          rw [ev_strike_train_step_l1, cond_if, if_neg (by simp only [decide_eq_true_eq]; omega), cond_if, bind_of (ev_missed (by omega) (by omega)), bind_of (ev_next (by omega) (by omega))];simp only [letP, endP, Int.add_zero];cases s.2 <;> cases rack <;> simp
      | succ k ih =>
        intro m i a c hi hm ha hc hc2
        cases m with
        | zero => omega
        | succ m =>
          have hat := atP_range ha;rw [ev_strike_train_step_l1, cond_if, if_pos (by simp only [decide_eq_true_eq]; omega), bind_of (ev_at (by omega)), chk_of (in64_of (by omega)), cond_if, bind_of (ev_next (by omega) (by omega)), chk_of (in64_of (by omega))];have e : ((i : Int) + 1) = ((i + 1 : Nat) : Int) := by omega
          have hadv := advP_range (rack := rack) ha;have := ih m (i + 1) (advP rack (plN h) a) (c + atP h a) (by omega) (by omega) hadv (by omega) (by omega);simp only [letP, ← Int.add_assoc];rw [← this, e];unfold advP;have hin : in64 ((i + 1 : Nat) : Int) = true := in64_of (by omega);cases rack <;> simp only [Bool.not_true, Bool.not_false, if_true, if_false, Bool.false_eq_true, chk_of hin]
    have := key s.1.toNat n 0 p 0 (by omega) (by omega) hp (by omega) (by omega);rw [ev_strike_train_step_j0];refine Eq.trans this ?_;simp
  rw [ev_strike_train_step, bind_of (wi1_strike (by omega)), cond_if];unfold stepE
  by_cases hr : (decide (0 ≤ s.1) && decide (s.1 ≤ 48)) = true
  · have hr' := hr;simp only [Bool.and_eq_true, decide_eq_true_eq] at hr';rw [if_neg (by simp [hr']), if_neg (by simp [hr']), cond_if, bind_of (ev_isSilent (by omega) hq (by omega) hs), cond_if, hloop hr'.1 hr'.2]
    by_cases h0 : 0 < s.1
    · simp only [h0, decide_true, if_true, Bool.true_and]
      split <;> rfl
    · simp only [h0, decide_false, Bool.false_eq_true, if_false, Bool.false_and]
  · have hr2 : (decide (0 ≤ s.1) && decide (s.1 ≤ 48)) = false := by simpa only [Bool.not_eq_true] using hr
    simp only [hr2, Bool.not_false, if_true]
end Go.Proofs.Ytglgkcfgjaoabaa.Sy
