/- Turns and cycles: what the reference computes. -/
import Derived.Test.YtabjhlfgcmmbfaaGTurretref01
import Derived.Test.YtabjhlfgcmmbfaaEvTrain
set_option linter.unusedSimpArgs false
set_option linter.unusedVariables false
namespace Go.Proofs.Ytabjhlfgcmmbfaa.Sy
open Go.RowKit
set_option maxRecDepth 100000

theorem refGcd_l {n : Nat} : ∀ (m : Nat) (x y : Int), ev_ref01_Gcd_l0 n m x y = ev_train_gcd_l0 n m x y := by
  intro m
  induction m with
  | zero => intro x y; rfl
  | succ m ih => intro x y; simp only [ev_ref01_Gcd_l0, ev_train_gcd_l0, ih]
theorem refGcd_eq {n : Nat} (x y : Int) : ev_ref01_Gcd n x y = ev_train_gcd n x y := refGcd_l n x y
theorem refLow_eq {n : Nat} (x y : Int) : ev_ref01_Lowest n x y = ev_train_lowest n x y := by rw [ev_ref01_Lowest, refGcd_eq, ev_train_lowest]
def turnP : Int × Int → List (Int × Int) → Int × Int
  | r, [] => r
  | r, p :: l => turnP (lowP (r.1 * p.1) (r.2 * p.2)) l
theorem arb_turn : ∀ (l : List (Int × Int)) (r : Int × Int), (arbP r l).getLast? = some (turnP r l) ∧ (arbP r l).length = l.length + 1 ∧ ∀ i, i ≤ l.length → (arbP r l)[i]? = some (turnP r (l.take i)) := by
  intro l
  induction l with
  | nil => intro r; exact ⟨rfl, rfl, fun i hi => by have : i = 0 := by simpa using hi
                                                    subst this; rfl⟩
  | cons p l ih =>
    intro r
    obtain ⟨h1, h2, h3⟩ := ih (lowP (r.1 * p.1) (r.2 * p.2))
    refine ⟨?_, by simp only [arbP, List.length_cons, h2], fun i hi => ?_⟩
    · simp only [arbP, turnP]
      rw [List.getLast?_cons, h1]; rfl
    · cases i with
      | zero => rfl
      | succ i =>
        simp only [arbP, List.getElem?_cons_succ, List.take_succ_cons, turnP]
        exact h3 i (by simpa using hi)
theorem ev_refTurns {n : Nat} (hn : 200 < n) {l : List (Int × Int)} (h : OkP l) : ev_ref01_Turns n l = some (turnP (1, 1) l) := by
  have hlen := h.len
  have key : ∀ (k m i : Nat) (r : Int × Int), i + k = l.length → k < m → 1 ≤ r.1 ∧ r.1 ≤ 400 ^ i → 1 ≤ r.2 ∧ r.2 ≤ 400 ^ i → ev_ref01_Turns_l0 n m (i : Int) l 0 0 r.1 r.2 = some (turnP r (l.drop i)) := by
    intro k
    induction k with
    | zero =>
      intro m i r hi hm h1 h2
      cases m with
      | zero => omega
      | succ m => rw [ev_ref01_Turns_l0, cond_if, if_neg (by simp; omega), List.drop_eq_nil_of_le (by omega)]; rfl
    | succ k ih =>
      intro m i r hi hm h1 h2
      cases m with
      | zero => omega
      | succ m =>
        have hlt : i < l.length := by omega
        obtain ⟨g1, g2⟩ := h.ok _ (List.getElem_mem hlt)
        have hp := pow_le (i := i + 1) (by omega)
        have hs : (400 : Int) ^ (i + 1) = 400 ^ i * 400 := by rw [Int.pow_succ]
        have b1 := mul_bound h1 (show 1 ≤ l[i].1 ∧ l[i].1 ≤ 400 by omega)
        have b2 := mul_bound h2 (show 1 ≤ l[i].2 ∧ l[i].2 ≤ 400 by omega)
        obtain ⟨q1, q2, q3, q4⟩ := lowP_pos b1.1 b2.1
        rw [ev_ref01_Turns_l0, cond_if, if_pos (decide_eq_true (by omega)), idx_nat (List.getElem?_eq_getElem hlt), chk_of (in64_of (by omega)), chk_of (in64_of (by omega)), refLow_eq, bind_of (ev_lowest hn (by omega) (by omega)), chk_of (in64_of (by omega)), List.drop_eq_getElem_cons hlt]
        exact ih m (i + 1) (lowP (r.1 * l[i].1) (r.2 * l[i].2)) (by omega) (by omega) ⟨q1, by omega⟩ ⟨q3, by omega⟩
  have := key l.length n 0 (1, 1) (by omega) (by omega) (by decide) (by decide)
  rw [List.drop_zero] at this
  rw [ev_ref01_Turns]; exact this
theorem turn_low {l : List (Int × Int)} (h : ∀ p ∈ l, 1 ≤ p.1 ∧ 1 ≤ p.2) : turnP (1, 1) l = lowP (wP l) (pP l) := by
  have h1 := arb_last l 1 1 (by decide) (by decide) h
  rw [low11, (arb_turn l (1, 1)).1, Int.one_mul, Int.one_mul] at h1
  exact Option.some.inj h1
theorem ev_refCycle {n : Nat} (hn : 200 < n) {l : List (Int × Int)} (h : OkP l) : ev_ref01_Cycle n l = some (cycP l) := by
  have hlen := h.len
  have hp : ∀ p ∈ l, 1 ≤ p.1 ∧ 1 ≤ p.2 := fun p hp => by have := h.ok p hp; omega
  obtain ⟨_, hP⟩ := h.bound
  have hd := arb_den l 1 1 (by decide) (by decide) hp
  rw [low11, Int.one_mul] at hd
  obtain ⟨_, hal, hag⟩ := arb_turn l (1, 1)
  have key : ∀ (k m i : Nat) (y : Int), i + k = l.length + 1 → k < m → 1 ≤ i → 1 ≤ y → y ∣ pP l → ev_ref01_Cycle_l0 n m y (i : Int) l = some (lcmP ((arbP (1, 1) l).drop i) y) := by
    intro k
    induction k with
    | zero =>
      intro m i y hi hm h1 hy hyd
      cases m with
      | zero => omega
      | succ m => rw [ev_ref01_Cycle_l0, cond_if, if_neg (by simp; omega), List.drop_eq_nil_of_le (by omega)]; rfl
    | succ k ih =>
      intro m i y hi hm h1 hy hyd
      cases m with
      | zero => omega
      | succ m =>
        have hil : i ≤ l.length := by omega
        have hlt : i < (arbP (1, 1) l).length := by omega
        have hok : OkP (l.take i) := ⟨fun p hp => h.ok p (List.mem_of_mem_take hp), by rw [List.length_take]; omega⟩
        obtain ⟨r, hr⟩ : ∃ r, r = turnP (1, 1) (l.take i) := ⟨_, rfl⟩
        have hgi := hag i hil
        rw [← hr] at hgi
        have hri : (arbP (1, 1) l)[i] = r := by rw [List.getElem?_eq_getElem hlt] at hgi; exact Option.some.inj hgi
        obtain ⟨_, hr2, hrd⟩ := hd r (List.mem_of_getElem? hgi)
        have hyP := Int.le_of_dvd (by omega) hyd
        have hrP := Int.le_of_dvd (by omega) hrd
        have e := lcm_eq hy hr2
        have hpos : 1 ≤ ((Int.lcm y r.2 : Nat) : Int) := by
          have : 0 < Int.lcm y r.2 := Int.lcm_pos (by omega) (by omega)
          omega
        have hld : ((Int.lcm y r.2 : Nat) : Int) ∣ pP l := Int.ofNat_dvd_left.2 (Int.lcm_dvd (Int.dvd_natAbs.2 hyd) (Int.dvd_natAbs.2 hrd))
        have hlP := Int.le_of_dvd (by omega) hld
        have hg := gcd_pos (b := r.2) hy
        have hq0 := Int.ediv_nonneg (show 0 ≤ r.2 by omega) (show 0 ≤ ((Int.gcd y r.2 : Nat) : Int) by omega)
        have hq1 := Int.ediv_le_self (a := r.2) ((Int.gcd y r.2 : Nat) : Int) (by omega)
        have et : Int.tdiv r.2 (Int.gcd y r.2 : Nat) = r.2 / (Int.gcd y r.2 : Nat) := Int.tdiv_eq_ediv_of_nonneg (by omega)
        have etk : List.drop ((0 : Int)).toNat (List.take ((i : Int)).toNat l) = l.take i := by rw [Int.toNat_natCast]; rfl
        have e1 : ((i : Int) + 1) = ((i + 1 : Nat) : Int) := by omega
        rw [ev_ref01_Cycle_l0, cond_if, if_pos (decide_eq_true (by omega)), chk_of (by simp; omega), etk, bind_of (ev_refTurns hn hok), ← hr, refGcd_eq, bind_of (ev_gcd hn (by omega) (by omega)), chk_of (by simp; omega), et, chk_of (in64_of (by omega)), e, chk_of (in64_of (by omega)), chk_of (in64_of (by omega)), e1, List.drop_eq_getElem_cons hlt, hri]
        simp only [lcmP, e]
        exact ih m (i + 1) _ (by omega) (by omega) (by omega) hpos hld
  have h1 := key l.length n 1 1 (by omega) (by omega) (by omega) (by decide) (Int.one_dvd _)
  rw [ev_ref01_Cycle]
  refine Eq.trans h1 ?_
  unfold cycP
  have : arbP (1, 1) l = (1, 1) :: (arbP (1, 1) l).drop 1 := by cases l <;> rfl
  rw [this]
  rfl
/-- the error of pairs -/
def teethB (p : Int × Int) : Bool := (decide (6 ≤ p.1) && decide (p.1 ≤ 400)) && (decide (6 ≤ p.2) && decide (p.2 ≤ 400))
def prE (l : List (Int × Int)) : Int := if 6 < l.length then 5 else if l.all teethB = true then 0 else 2
theorem ev_newChainP {n : Nat} (hn : 20 < n) {l : List (Int × Int)} : ev_train_newChain n l = some (if prE l = 0 then l else [], prE l) := by
  rw [ev_train_newChain, cond_if]
  unfold prE
  by_cases h6 : 6 < l.length
  · rw [if_pos (decide_eq_true (by omega)), if_pos h6, if_neg (by decide)]
  · rw [if_neg (fun h => h6 (by have := of_decide_eq_true h; omega)), if_neg h6, bind_of (cf_Lapi_TrainPair_api_TrainPair (g := fun x => !teethB x) (fun x _ => ?_) (by omega) (by omega)), cond_if]
    · by_cases ha : l.all teethB = true
      · rw [if_pos ha, if_neg (by
          rw [List.any_eq_true]
          rintro ⟨x, hx, hb⟩
          have := List.all_eq_true.1 ha x hx
          rw [this] at hb; simp at hb)]
        rfl
      · rw [if_neg ha, if_pos (by
          rw [List.any_eq_true]
          apply Classical.byContradiction
          intro hne
          apply ha
          rw [List.all_eq_true]
          intro x hx
          cases hb : teethB x with
          | true => rfl
          | false => exact absurd ⟨x, hx, by rw [hb]; rfl⟩ hne)]
        rfl
    · show ev_train_newChain_1 n x.1 x.2 = some (!teethB x)
      have : ev_train_isTeeth n [x.1, x.2] = some (teethB x) := by rw [ev_train_isTeeth, bind_of (wi2_train (by omega))]; rfl
      rw [ev_train_newChain_1, bind_of this]
theorem ev_refTeeth {n : Nat} (z : Int) : ev_ref01_Teeth n z = some (decide (6 ≤ z) && decide (z ≤ 400)) := by
  rw [ev_ref01_Teeth, cond_if]
  by_cases h : 6 ≤ z <;> simp [h]
theorem ev_refPairs {n : Nat} (hn : 20 < n) {l : List (Int × Int)} : ev_ref01_Pairs n l = some (prE l) := by
  rw [ev_ref01_Pairs, cond_if]
  unfold prE
  by_cases h6 : 6 < l.length
  · rw [if_pos (decide_eq_true (by omega)), if_pos h6]
  · rw [if_neg (fun h => h6 (by have := of_decide_eq_true h; omega)), if_neg h6]
    have key : ∀ (k m i : Nat), i + k = l.length → k < m → ev_ref01_Pairs_l0 n l m (i : Int) = some (if (l.drop i).all teethB = true then 0 else 2) := by
      intro k
      induction k with
      | zero =>
        intro m i hi hm
        cases m with
        | zero => omega
        | succ m => rw [ev_ref01_Pairs_l0, cond_if, if_neg (by simp; omega), List.drop_eq_nil_of_le (by omega)]; rfl
      | succ k ih =>
        intro m i hi hm
        cases m with
        | zero => omega
        | succ m =>
          have hlt : i < l.length := by omega
          rw [ev_ref01_Pairs_l0, cond_if, if_pos (decide_eq_true (by omega)), idx_nat (List.getElem?_eq_getElem hlt), bind_of (ev_refTeeth _), List.drop_eq_getElem_cons hlt, List.all_cons]
          unfold teethB
          cases h1 : (decide (6 ≤ l[i].1) && decide (l[i].1 ≤ 400)) with
          | false => simp
          | true =>
            rw [Bool.not_true, cond_false, bind_of (ev_refTeeth _)]
            cases h2 : (decide (6 ≤ l[i].2) && decide (l[i].2 ≤ 400)) with
            | false => simp
            | true =>
              rw [Bool.not_true, cond_false, chk_of (in64_of (by omega)), Bool.and_self, Bool.true_and]
              exact ih m (i + 1) (by omega) (by omega)
    exact key l.length n 0 (by omega) (by omega)
end Go.Proofs.Ytabjhlfgcmmbfaa.Sy
