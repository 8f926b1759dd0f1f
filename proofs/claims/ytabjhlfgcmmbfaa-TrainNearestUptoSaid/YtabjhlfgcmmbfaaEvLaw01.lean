/- What the laws of trains all use: copies, comparisons, the great fuel. -/
import Derived.Test.YtabjhlfgcmmbfaaGturretlaw01
import Derived.Test.YtabjhlfgcmmbfaaEvTrain
import Derived.Test.YtabjhlfgcmmbfaaEvChoose
set_option linter.unusedSimpArgs false
set_option linter.unusedVariables false
namespace Go.Proofs.Ytabjhlfgcmmbfaa.Sy
open Go.RowKit
set_option maxRecDepth 100000

theorem law_copied {n : Nat} {a b : List Int} (ha : a.length ≤ 1000000) (hb : b.length ≤ 1000000) : ev_law01_copied n a b = some (a, b) := by
  rw [ev_law01_copied, chk_of (room_iff.2 (by simp; omega)), chk_of (room_iff.2 (by simp; omega))]; rfl
theorem lawGcd_l {n : Nat} : ∀ (m : Nat) (x y : Int), ev_law01_gcd_l0 n m x y = ev_train_gcd_l0 n m x y := by
  intro m
  induction m with
  | zero => intro x y; rfl
  | succ m ih => intro x y; simp only [ev_law01_gcd_l0, ev_train_gcd_l0, ih]
theorem lawGcd_eq {n : Nat} (x y : Int) : ev_law01_gcd n x y = ev_train_gcd n x y := lawGcd_l n x y
/-- the ratio in lowest terms, and whether it may be wanted -/
theorem law_lowest {n : Nat} (hn : 200 < n) {a b : Int} (ha : 1 ≤ a ∧ a ≤ 9223372036854775807) (hb : 1 ≤ b ∧ b ≤ 9223372036854775807) :
    ev_law01_lowest n a b = some ((lowP a b).1, (lowP a b).2, decide ((lowP a b).1 ≤ 1000000) && decide ((lowP a b).2 ≤ 1000000)) := by
  obtain ⟨q1, q2, q3, q4⟩ := lowP_pos ha.1 hb.1
  have hg := gcd_pos (b := b) ha.1
  have e1 : Int.tdiv a (Int.gcd a b : Nat) = (lowP a b).1 := Int.tdiv_eq_ediv_of_nonneg (by omega)
  have e2 : Int.tdiv b (Int.gcd a b : Nat) = (lowP a b).2 := Int.tdiv_eq_ediv_of_nonneg (by omega)
  rw [ev_law01_lowest, lawGcd_eq, bind_of (ev_gcd hn (by omega) (by omega)), chk_of (by simp; omega), e1, e2, chk_of (in64_of (by omega)), chk_of (by simp; omega), chk_of (in64_of (by omega)), cond_if]
  by_cases h : (lowP a b).1 ≤ 1000000
  · rw [if_pos (by simpa using h)]; simp [h]
  · rw [if_neg (by simpa using h)]; simp [h]
/-- lists that are compared -/
theorem ref_Same {n : Nat} {a b : List Int} (hl : a.length < n) (hb : a.length ≤ 100000000) : ev_ref01_Same n a b = some (decide (a = b)) := by
  rw [ev_ref01_Same, cond_if]
  by_cases he : a.length = b.length
  · rw [if_neg (by simp [he])]
    have key : ∀ (k m i : Nat), i + k = a.length → k < m → ev_ref01_Same_l0 n a b m (i : Int) = some (decide (a.drop i = b.drop i)) := by
      intro k
      induction k with
      | zero =>
        intro m i hi hm
        obtain ⟨m, rfl⟩ : ∃ m', m = m' + 1 := ⟨m - 1, by omega⟩
        rw [ev_ref01_Same_l0, cond_if, if_neg (by simp; omega), List.drop_eq_nil_of_le (by omega), List.drop_eq_nil_of_le (by omega)]; rfl
      | succ k ih =>
        intro m i hi hm
        obtain ⟨m, rfl⟩ : ∃ m', m = m' + 1 := ⟨m - 1, by omega⟩
        have h1 : i < a.length := by omega
        have h2 : i < b.length := by omega
        rw [ev_ref01_Same_l0, cond_if, if_pos (decide_eq_true (by omega)), idx_nat (List.getElem?_eq_getElem h1), idx_nat (List.getElem?_eq_getElem h2), cond_if, List.drop_eq_getElem_cons h1, List.drop_eq_getElem_cons h2]
        by_cases hx : a[i] = b[i]
        · rw [if_neg (by simp [hx]), chk_of (in64_of (by omega))]
          refine (ih m (i + 1) (by omega) (by omega)).trans ?_
          simp only [List.cons.injEq, hx, true_and]
        · rw [if_pos (by simpa using hx)]
          simp only [List.cons.injEq, hx, false_and, decide_false]
    have := key a.length n 0 (by omega) hl
    simpa using this
  · rw [if_pos (by simp; omega)]
    have : a ≠ b := fun e => he (by rw [e])
    simp [this]
theorem ref_Same2 {a : List Int} (hl : a.length < 2000000) : ev_ref01_Same 2000000 a a = some true := by rw [ref_Same hl (by omega)]; simp
end Go.Proofs.Ytabjhlfgcmmbfaa.Sy
