/- Regulation, with the rules of chapter 7's example: how many visits are enough, what is to be done, and what is known then. -/
import Derived.Test.YthgbjhglhejalaaBREvRateB
import Derived.Test.YthgbjhglhejalaaBRSpRate
set_option linter.unusedSimpArgs false
set_option linter.unusedVariables false
namespace Go.Proofs.Ythgbjhglhejalaa.Sy
open Go.RowKit
set_option maxRecDepth 100000
def fewL (u lo hi : Int) (l : List Nat) : Option Nat := l.find? fun v => decide (hi ≤ stF v u lo)
def fewF (u lo hi : Int) : Option Nat := fewL u lo hi (List.range' 0 7)
theorem fewl_ev {n : Nat} (hn : 800 < n) {u lo hi : Int} (hu : u = 0 ∨ u = 1) (h0 : -300 ≤ lo) (h1 : lo ≤ 300) : ∀ (k i m : Nat) (s : Tabs), i + k = 7 → k < m → TInv s →
    ∃ s', ev_p_rate_shop_fewest_l0 n u m (i : Int) 5 1 8 10 3 lo hi [(4, 6)] s = some (match fewL u lo hi (List.range' i k) with | some v => ((v : Int), true, s') | none => (0, false, s')) ∧ TInv s' := by
  intro k
  induction k with
  | zero =>
    intro i m s hi_ hm ht;obtain ⟨m, rfl⟩ : ∃ q, m = q + 1 := ⟨m - 1, by omega⟩;refine ⟨s, ?_, ht⟩;rw [ev_p_rate_shop_fewest_l0, decide_eq_false (by omega)]
    rfl
  | succ k ih =>
    intro i m s hi_ hm ht;obtain ⟨m, rfl⟩ : ∃ q, m = q + 1 := ⟨m - 1, by omega⟩;obtain ⟨s1, e1, t1⟩ := table_ev i n u s hu (by omega) (by omega) ht;rw [ev_p_rate_shop_fewest_l0, decide_eq_true (by omega), cond_true, e1, Option.bind_some, at_ev h0 h1, Option.bind_some];have ep : (0 + (lo + 300).toNat * 1) = (lo + 300).toNat := by omega
    rw [ep];show ∃ s', idx (tb (tabF i u)) _ _ = _ ∧ _;rw [idx_tb (by omega)];have ef : tabF i u (lo + 300).toNat = stF i u lo := by
      unfold tabF;rw [if_pos (by omega)]
      congr 1
      omega
    rw [ef]
    by_cases hd : hi ≤ stF i u lo
    · refine ⟨s1, ?_, t1⟩;rw [decide_eq_true hd, cond_true, List.range'_succ];unfold fewL;rw [List.find?_cons_of_pos (by simpa using hd)]
    · obtain ⟨s', h3, h4⟩ := ih (i + 1) m s1 (by omega) (by omega) t1;refine ⟨s', ?_, h4⟩;rw [decide_eq_false hd, cond_false, chk_t (i64ok (by omega) (by omega)), List.range'_succ];have e2 : fewL u lo hi (i :: List.range' (i + 1) k) = fewL u lo hi (List.range' (i + 1) k) := by
        unfold fewL;rw [List.find?_cons_of_neg (by simpa using hd)]
      rw [e2];have e3 : (i : Int) + 1 = ((i + 1 : Nat) : Int) := by omega
      rw [e3];exact h3
theorem fewest_ev {n : Nat} (hn : 800 < n) {u lo hi : Int} (hu : u = 0 ∨ u = 1) (h0 : -300 ≤ lo) (h1 : lo ≤ 300) {s : Tabs} (ht : TInv s) :
    ∃ s', ev_p_rate_shop_fewest n 5 1 8 10 3 [(4, 6)] s lo hi u = some (match fewF u lo hi with | some v => ((v : Int), true, s') | none => (0, false, s')) ∧ TInv s' :=
  fewl_ev hn hu h0 h1 7 0 n s rfl (by omega) ht
def actB (v : Nat) (u lo hi : Int) (a : Int × Int) : Bool := match effA u a with
  | some b => decide (-300 ≤ lo + b.1) && decide (hi + b.2.1 ≤ 300) && decide (hi + b.2.1 ≤ imR (stF v b.2.2) 2 300 (300 - (lo + b.1)).toNat)
  | none => false
def actL (v : Nat) (u lo hi : Int) (l : List (Int × Int)) : Option (Int × Int) := l.find? (actB v u lo hi)
def actF (v : Nat) (u lo hi : Int) : Option (Int × Int) := actL v u lo hi actsL
theorem move_ev {n : Nat} (hn : 4 < n) {u lo hi : Int} (hu : u = 0 ∨ u = 1) (h0 : -300 ≤ lo) (h1 : lo ≤ hi) (h2 : hi ≤ 300) {a : Int × Int} (ha : a ∈ actsL) :
    ev_p_rate_shop_move n 5 1 8 10 3 [(4, 6)] lo hi u a.1 a.2 = some (match effA u a with | some b => (lo + b.1, hi + b.2.1, b.2.2, decide (-300 ≤ lo + b.1) && decide (hi + b.2.1 ≤ 300)) | none => (0, 0, 0, false)) := by
  unfold ev_p_rate_shop_move;rw [shift_ev hn hu ha, Option.bind_some]
  cases he : effA u a with
  | none => rfl
  | some b =>
    obtain ⟨hb1, hb2, hb3, hb4⟩ := eff_mem hu ha he;simp only [Bool.not_true, cond_false];rw [chk_t (i64ok (by omega) (by omega)), chk_t (i64ok (by omega) (by omega))];have key : ∀ z, ev_p_rate_shop_move_j0 n (lo + b.1) (hi + b.2.1) z = some (lo + b.1, hi + b.2.1, z, decide (-300 ≤ lo + b.1) && decide (hi + b.2.1 ≤ 300)) := by
      intro z;unfold ev_p_rate_shop_move_j0 ev_rate_isSpan;rw [decide_eq_true (show lo + b.1 ≤ hi + b.2.1 by omega), cond_true, wi2_rate (by omega)];simp only [Option.bind_some];have e1 : decide (lo + b.1 ≤ 300) = decide (hi + b.2.1 ≤ 300) || decide (lo + b.1 ≤ 300) := by
        by_cases q : lo + b.1 ≤ 300
        · simp [q]
        · have q2 : ¬ hi + b.2.1 ≤ 300 := by omega
          simp [q, q2]
      have e2 : ((decide (-300 ≤ lo + b.1) && decide (lo + b.1 ≤ 300)) && (decide (-300 ≤ hi + b.2.1) && decide (hi + b.2.1 ≤ 300))) = (decide (-300 ≤ lo + b.1) && decide (hi + b.2.1 ≤ 300)) := by
        by_cases q1 : -300 ≤ lo + b.1 <;> by_cases q2 : hi + b.2.1 ≤ 300
        · have q3 : lo + b.1 ≤ 300 := by omega
          have q4 : -300 ≤ hi + b.2.1 := by omega
          simp [q1, q2, q3, q4]
        · simp [q2]
        · simp [q1]
        · simp [q1]
      rw [e2]
    by_cases hw : a.2 = -1
    · have : (a.2 != -1) = false := by rw [hw]; rfl
      rw [this, cond_false, key, eff_same he hw]
    · have : (a.2 != -1) = true := by simp [hw]
      rw [this, cond_true, with_ev hu ha he hw, Option.bind_some, key]
abbrev ActY : Type := Int × Int × Int × Int × Int × Tabs
theorem actr_ev {n : Nat} (hn : 900 < n) {v : Nat} (hv : v ≤ 100) {u lo hi : Int} (hu : u = 0 ∨ u = 1) (h0 : -300 ≤ lo) (h1 : lo ≤ hi) (h2 : hi ≤ 300) {a : Int × Int} (ha : a ∈ actsL) (y : ActY) (ht : TInv y.2.2.2.2.2) :
    ∃ s', TInv s' ∧ ev_p_rate_shop_act_r0 n 5 1 8 10 3 [(4, 6)] lo hi u ((v : Int) + 1) a y =
      some (if actB v u lo hi a = true then (1, (lo + ((effA u a).getD (0, 0, 0)).1, hi + ((effA u a).getD (0, 0, 0)).2.1, ((effA u a).getD (0, 0, 0)).2.2, a.1, a.2, s')) else (0, (y.1, y.2.1, y.2.2.1, y.2.2.2.1, y.2.2.2.2.1, s'))) := by
  unfold ev_p_rate_shop_act_r0;rw [move_ev (by omega) hu h0 h1 h2 ha, Option.bind_some]
  cases he : effA u a with
  | none =>
    refine ⟨_, ht, ?_⟩;have : actB v u lo hi a = false := by unfold actB; rw [he]
    rw [this]
    rfl
  | some b =>
    obtain ⟨hb1, hb2, hb3, hb4⟩ := eff_mem hu ha he
    by_cases hm : -300 ≤ lo + b.1 ∧ hi + b.2.1 ≤ 300
    · obtain ⟨s', h3, h4⟩ := table_ev v n b.2.2 y.2.2.2.2.2 hb4 (by omega) (by omega) ht;refine ⟨s', h4, ?_⟩;have em : (decide (-300 ≤ lo + b.1) && decide (hi + b.2.1 ≤ 300)) = true := by simp [hm.1, hm.2]
      have ev : (v : Int) + 1 - 1 = (v : Int) := by omega
      simp only [em, cond_true];rw [chk_t (i64ok (by omega) (by omega)), ev, h3, Option.bind_some, at_ev (by omega) (by omega), Option.bind_some];have ep : (601 + (lo + b.1 + 300).toNat * 1) = 601 + (lo + b.1 + 300).toNat := by omega
      rw [ep];show idx (tb (tabF v b.2.2)) _ _ = _;rw [idx_tb (by omega)];have ef : tabF v b.2.2 (601 + (lo + b.1 + 300).toNat) = imR (stF v b.2.2) 2 300 (300 - (lo + b.1)).toNat := by
        unfold tabF;rw [if_neg (by omega)]
        congr 1
        omega
      rw [ef];have eB : actB v u lo hi a = decide (hi + b.2.1 ≤ imR (stF v b.2.2) 2 300 (300 - (lo + b.1)).toNat) := by
        unfold actB; rw [he]; simp only [em, Bool.true_and]
      rw [eB]
      by_cases hc : hi + b.2.1 ≤ imR (stF v b.2.2) 2 300 (300 - (lo + b.1)).toNat
      · rw [decide_eq_true hc, cond_true, if_pos rfl]; rfl
      · rw [decide_eq_false hc, cond_false, if_neg (by decide)]
    · refine ⟨_, ht, ?_⟩;have em : (decide (-300 ≤ lo + b.1) && decide (hi + b.2.1 ≤ 300)) = false := by
        rw [Bool.and_eq_false_iff, decide_eq_false_iff_not, decide_eq_false_iff_not]; omega
      have eB : actB v u lo hi a = false := by unfold actB; rw [he]; simp only [em, Bool.false_and]
      simp only [em, cond_false, eB]
      rfl
theorem runact_ev {n : Nat} (hn : 900 < n) {v : Nat} (hv : v ≤ 100) {u lo hi : Int} (hu : u = 0 ∨ u = 1) (h0 : -300 ≤ lo) (h1 : lo ≤ hi) (h2 : hi ≤ 300) : ∀ (l : List (Int × Int)), (∀ a ∈ l, a ∈ actsL) → ∀ (y : ActY), TInv y.2.2.2.2.2 →
    ∃ s', TInv s' ∧ runA (loopStep (ev_p_rate_shop_act_r0 n 5 1 8 10 3 [(4, 6)] lo hi u ((v : Int) + 1))) l (y, 0) =
      some (match actL v u lo hi l with | some a => ((lo + ((effA u a).getD (0, 0, 0)).1, hi + ((effA u a).getD (0, 0, 0)).2.1, ((effA u a).getD (0, 0, 0)).2.2, a.1, a.2, s'), 1) | none => ((y.1, y.2.1, y.2.2.1, y.2.2.2.1, y.2.2.2.2.1, s'), 0)) := by
  intro l
  induction l with
  | nil => intro _ y ht; exact ⟨_, ht, rfl⟩
  | cons a l ih =>
    intro hl y ht;obtain ⟨s1, t1, e1⟩ := actr_ev hn hv hu h0 h1 h2 (hl a (List.mem_cons_self ..)) y ht;rw [runA];have hstep : loopStep (ev_p_rate_shop_act_r0 n 5 1 8 10 3 [(4, 6)] lo hi u ((v : Int) + 1)) a (y, 0) = (ev_p_rate_shop_act_r0 n 5 1 8 10 3 [(4, 6)] lo hi u ((v : Int) + 1) a y).bind fun r => some (r.1 == 0, (r.2, r.1)) := rfl
    rw [hstep, e1, Option.bind_some]
    by_cases hb : actB v u lo hi a = true
    · refine ⟨s1, t1, ?_⟩;rw [if_pos hb];unfold actL;rw [List.find?_cons_of_pos hb]
      rfl
    · rw [if_neg hb];obtain ⟨s', t2, e2⟩ := ih (fun a ha => hl a (List.mem_cons_of_mem _ ha)) (y.1, y.2.1, y.2.2.1, y.2.2.2.1, y.2.2.2.2.1, s1) t1;refine ⟨s', t2, ?_⟩;have : actL v u lo hi (a :: l) = actL v u lo hi l := by unfold actL; rw [List.find?_cons_of_neg hb]
      rw [this];exact e2
theorem act_ev {n : Nat} (hn : 900 < n) {v : Nat} (hv : v ≤ 100) {u lo hi : Int} (hu : u = 0 ∨ u = 1) (h0 : -300 ≤ lo) (h1 : lo ≤ hi) (h2 : hi ≤ 300) {s : Tabs} (ht : TInv s) {a : Int × Int} (ha : actF v u lo hi = some a) :
    ∃ r, ev_p_rate_shop_act n 5 1 8 10 3 [(4, 6)] s lo hi ((v : Int) + 1) u = some (a.1, a.2, r) := by
  obtain ⟨s', t1, e1⟩ := runact_ev hn hv hu h0 h1 h2 actsL (fun a h => h) ((0, 0, 0, 0, 0, s) : ActY) ht;unfold ev_p_rate_shop_act;rw [acts_ev (by omega), e1, Option.bind_some];have : actL v u lo hi actsL = some a := ha;rw [this];exact ⟨_, rfl⟩
end Go.Proofs.Ythgbjhglhejalaa.Sy
