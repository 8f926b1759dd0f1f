/- After a cycle all stands as at first. -/
import Derived.Test.YtabjhlfgcmmbfaaGTrainCycles
import Derived.Test.YtabjhlfgcmmbfaaEvLaw01
import Derived.Test.YtabjhlfgcmmbfaaEvTrainTurns
set_option linter.unusedSimpArgs false
set_option linter.unusedVariables false
namespace Go.Proofs.Ytabjhlfgcmmbfaa.Sy
open Go.RowKit
set_option maxRecDepth 100000

theorem low_one {m a b : Int} (hm : 1 ≤ m) (ha : 1 ≤ a) (hb : 1 ≤ b) : (lowP (m * a) b).2 = 1 ↔ (lowP a b).2 ∣ m := by
  have hma : 1 ≤ m * a := by have := Int.mul_le_mul hm ha (by omega) (by omega); omega
  obtain ⟨_, e2⟩ := lowP_mul (a := m * a) (b := b) hma
  obtain ⟨f1, f2⟩ := lowP_mul (a := a) (b := b) ha
  have hg := gcd_pos (a := m * a) (b := b) hma
  have hg1 := gcd_pos (a := a) (b := b) ha
  have hco : Int.gcd (lowP a b).1 (lowP a b).2 = 1 := by
    unfold lowP
    have : 0 < Int.gcd a b := by omega
    simp only
    exact Int.gcd_ediv_gcd_ediv_gcd this
  have k1 : (lowP (m * a) b).2 = 1 ↔ b ∣ m * a := by
    constructor
    · intro h
      rw [h, Int.one_mul] at e2
      rw [← e2]
      exact Int.gcd_dvd_left _ _
    · intro h
      have h1 : (Int.gcd (m * a) b : Int) = b := by
        have d1 : (Int.gcd (m * a) b : Int) ∣ b := Int.gcd_dvd_right _ _
        have d2 : b ∣ (Int.gcd (m * a) b : Int) := Int.dvd_coe_gcd h (Int.dvd_refl _)
        have := Int.le_of_dvd (by omega) d1
        have := Int.le_of_dvd (by omega) d2
        omega
      rw [h1] at e2
      have : ((lowP (m * a) b).2 - 1) * b = 0 := by rw [Int.sub_mul, e2]; omega
      rcases Int.mul_eq_zero.1 this with h | h <;> omega
  rw [k1]
  have k2 : b ∣ m * a ↔ (lowP a b).2 ∣ m * (lowP a b).1 := by
    have hb' : b = (lowP a b).2 * (Int.gcd a b : Nat) := f2.symm
    have ha' : m * a = m * (lowP a b).1 * (Int.gcd a b : Nat) := by rw [Int.mul_assoc, f1]
    constructor
    · intro h
      rw [ha'] at h
      have h' : (lowP a b).2 * (Int.gcd a b : Nat) ∣ m * (lowP a b).1 * (Int.gcd a b : Nat) := by rw [f2]; exact h
      exact Int.dvd_of_mul_dvd_mul_right (by omega) h'
    · intro h
      rw [ha']
      have := Int.mul_dvd_mul_right ((Int.gcd a b : Nat) : Int) h
      rw [f2] at this
      exact this
  rw [k2]
  constructor
  · intro h
    have : Int.gcd (lowP a b).2 (lowP a b).1 = 1 := by rw [Int.gcd_comm]; exact hco
    have h2 := Int.dvd_mul_gcd_iff_dvd_mul.2 h
    rw [this] at h2
    simpa using h2
  · intro h
    exact Int.dvd_trans h (Int.dvd_mul_right _ _)
theorem wP_snoc (l : List (Int × Int)) (p : Int × Int) : wP (l ++ [p]) = wP l * p.1 ∧ pP (l ++ [p]) = pP l * p.2 := by
  induction l with
  | nil => simp [wP, pP]
  | cons q l ih => simp only [List.cons_append, wP, pP, ih.1, ih.2, Int.mul_assoc, and_self]
theorem take_snoc {α : Type} (l : List α) (i : Nat) (h : i < l.length) : l.take (i + 1) = l.take i ++ [l[i]] := by
  rw [List.take_add_one, List.getElem?_eq_getElem h]; rfl
/-- the arbors up to one turn a whole number of times -/
def whole (l : List (Int × Int)) (m : Int) (i : Nat) : Bool := decide (∀ j, j < i → (lowP (m * wP (l.take (j + 1))) (pP (l.take (j + 1)))).2 = 1)
theorem whole_succ (l : List (Int × Int)) (m : Int) (i : Nat) : whole l m (i + 1) = (whole l m i && ((lowP (m * wP (l.take (i + 1))) (pP (l.take (i + 1)))).2 == 1)) := by
  unfold whole
  rw [Bool.eq_iff_iff, Bool.and_eq_true, decide_eq_true_eq, decide_eq_true_eq, beq_iff_eq]
  constructor
  · intro h; exact ⟨fun j hj => h j (by omega), h i (by omega)⟩
  · rintro ⟨h1, h2⟩ j hj
    rcases Nat.lt_or_ge j i with h | h
    · exact h1 j h
    · have : j = i := by omega
      subst this; exact h2
theorem take_ok {l : List (Int × Int)} (h : OkP l) (i : Nat) : OkP (l.take i) := ⟨fun p hp => h.ok p (List.mem_of_mem_take hp), by have := h.len; rw [List.length_take]; omega⟩
theorem whole_iff {l : List (Int × Int)} (h : OkP l) {m : Int} (hm : 1 ≤ m) : whole l m l.length = (Int.tmod m (cycP l) == 0) := by
  have hpos : ∀ p ∈ l, 1 ≤ p.1 ∧ 1 ≤ p.2 := fun p hp => by have := h.ok p hp; omega
  obtain ⟨c1, c2, c3⟩ := cycP_dvd hpos
  have hone : ∀ i, (lowP (m * wP (l.take i)) (pP (l.take i))).2 = 1 ↔ (lowP (wP (l.take i)) (pP (l.take i))).2 ∣ m := fun i => by
    obtain ⟨a, b⟩ := (take_ok h i).bound
    exact low_one hm a.1 b.1
  obtain ⟨_, ar1, ar2⟩ := arb_turn l (1, 1)
  have hr : ∀ i, i ≤ l.length → (arbP (1, 1) l)[i]? = some (lowP (wP (l.take i)) (pP (l.take i))) := fun i hi => by
    rw [ar2 i hi, turn_low fun p hp => hpos p (List.mem_of_mem_take hp)]
  rw [Bool.eq_iff_iff, beq_iff_eq]
  unfold whole
  rw [decide_eq_true_eq]
  constructor
  · intro hw
    refine Int.tmod_eq_zero_of_dvd (c3 m fun r hrm => ?_)
    obtain ⟨i, hi⟩ := List.mem_iff_getElem?.1 hrm
    have hlt := (List.getElem?_eq_some_iff.1 hi).1
    rw [ar1] at hlt
    rw [hr i (by omega)] at hi
    cases hi
    cases i with
    | zero => exact (hone 0).1 (by simp [wP, pP, lowP])
    | succ i => exact (hone (i + 1)).1 (hw i (by omega))
  · intro hd j hj
    have hd := Int.dvd_of_tmod_eq_zero hd
    exact (hone (j + 1)).2 (Int.dvd_trans (c2 _ (List.mem_of_getElem? (hr (j + 1) (by omega)))) hd)
theorem ev_whole {n : Nat} (hn : 200 < n) {l : List (Int × Int)} (h : OkP l) (hl : l.length ≤ 3) {r11 : Int × Int} {m : Int} (hm : 1 ≤ m ∧ m ≤ 64000000) (hc : r11.1 = cycP l) {i13 : Int} {K : Int → Option Bool} (h13 : 0 ≤ i13 ∧ i13 ≤ 100) (hK : K (i13 + 1) = some true) :
    ev_law01_TrainCycles_j5 n l r11 i13 K m = some true := by
  have hpos : ∀ p ∈ l, 1 ≤ p.1 ∧ 1 ≤ p.2 := fun p hp => by have := h.ok p hp; omega
  obtain ⟨c1, _, _⟩ := cycP_dvd hpos
  have key : ∀ (k q i : Nat) (a b : Int), i + k = l.length → k < q → a = (lowP (m * wP (l.take i)) (pP (l.take i))).1 → b = (lowP (m * wP (l.take i)) (pP (l.take i))).2 → ev_law01_TrainCycles_l6 n l r11 m i13 K q (whole l m i) a b (i : Int) = some true := by
    intro k
    induction k with
    | zero =>
      intro q i a b hi hq ha hb
      obtain ⟨q, rfl⟩ : ∃ q', q = q' + 1 := ⟨q - 1, by omega⟩
      rw [ev_law01_TrainCycles_l6, cond_if, if_neg (by simp; omega), chk_of (by rw [hc]; simp; omega), cond_if, hc, show i = l.length by omega, whole_iff h hm.1, if_neg (by simp), chk_of (in64_of (by omega)), hK]
    | succ k ih =>
      intro q i a b hi hq ha hb
      obtain ⟨q, rfl⟩ : ∃ q', q = q' + 1 := ⟨q - 1, by omega⟩
      have hlt : i < l.length := by omega
      obtain ⟨g1, g2⟩ := h.ok _ (List.getElem_mem hlt)
      obtain ⟨B1, B2⟩ := pP_bound (take_ok h i).ok
      have hp2 : (400 : Int) ^ (l.take i).length ≤ 160000 := by
        have : ∀ j : Fin 3, (400 : Int) ^ j.1 ≤ 160000 := by decide
        exact this ⟨(l.take i).length, by rw [List.length_take]; omega⟩
      have hmw := mul_bound hm (show 1 ≤ wP (l.take i) ∧ wP (l.take i) ≤ 160000 by omega)
      obtain ⟨p1, p2, p3, p4⟩ := lowP_pos (a := m * wP (l.take i)) (b := pP (l.take i)) hmw.1 B2.1
      have b1 := mul_bound (show 1 ≤ a ∧ a ≤ 64000000 * 160000 by omega) (show 1 ≤ l[i].1 ∧ l[i].1 ≤ 400 by omega)
      have b2 := mul_bound (show 1 ≤ b ∧ b ≤ 160000 by omega) (show 1 ≤ l[i].2 ∧ l[i].2 ≤ 400 by omega)
      have hs : lowP (a * l[i].1) (b * l[i].2) = lowP (m * wP (l.take (i + 1))) (pP (l.take (i + 1))) := by
        rw [ha, hb, lowP_step hmw.1 B2.1 (by omega), take_snoc l i hlt, (wP_snoc _ _).1, (wP_snoc _ _).2, Int.mul_assoc]
      obtain ⟨q1, q2, q3, q4⟩ := lowP_pos (a := a * l[i].1) (b := b * l[i].2) b1.1 b2.1
      have hg := gcd_pos (a := a * l[i].1) (b := b * l[i].2) b1.1
      have e1 : Int.tdiv (a * l[i].1) (Int.gcd (a * l[i].1) (b * l[i].2) : Nat) = (lowP (a * l[i].1) (b * l[i].2)).1 := Int.tdiv_eq_ediv_of_nonneg (by omega)
      have e2 : Int.tdiv (b * l[i].2) (Int.gcd (a * l[i].1) (b * l[i].2) : Nat) = (lowP (a * l[i].1) (b * l[i].2)).2 := Int.tdiv_eq_ediv_of_nonneg (by omega)
      have hw := whole_succ l m i
      have ih' := ih q (i + 1) (lowP (a * l[i].1) (b * l[i].2)).1 (lowP (a * l[i].1) (b * l[i].2)).2 (by omega) (by omega) (by rw [hs]) (by rw [hs])
      rw [ev_law01_TrainCycles_l6, cond_if, if_pos (decide_eq_true (by omega)), idx_nat (List.getElem?_eq_getElem hlt), chk_of (in64_of (by omega)), chk_of (in64_of (by omega)), lawGcd_eq, bind_of (ev_gcd hn (by omega) (by omega)), e1, e2, chk_of (by simp; omega), chk_of (in64_of (by omega)), chk_of (by simp; omega), chk_of (in64_of (by omega)), cond_if]
      by_cases hb : whole l m i = true
      · rw [if_pos hb, chk_of (in64_of (by omega))]
        rw [hw, hb, Bool.true_and, ← hs] at ih'
        exact ih'
      · rw [if_neg hb, chk_of (in64_of (by omega))]
        have hb' : whole l m i = false := by simpa using hb
        rw [hw, hb', Bool.false_and] at ih'
        exact ih'
  have h0 : whole l m 0 = true := by unfold whole; simp
  have := key l.length n 0 m 1 (by omega) (by omega) (by simp [wP, pP, lowP]) (by simp [wP, pP, lowP])
  rw [h0] at this
  exact this
/-- the other order -/
def othP : List (Int × Int) → List (Int × Int)
  | [] => []
  | [a] => [(a.1, a.2)]
  | [a, b] => [(b.1, a.2), (a.1, b.2)]
  | [a, b, c] => [(c.1, a.2), (b.1, c.2), (a.1, b.2)]
  | l => l
theorem oth_ok {l : List (Int × Int)} (h : OkP l) (hl : l.length ≤ 3) : OkP (othP l) ∧ (othP l).length = l.length ∧ wP (othP l) = wP l ∧ pP (othP l) = pP l := by
  have ok := h.ok
  match l, hl with
  | [], _ => exact ⟨h, rfl, rfl, rfl⟩
  | [a], _ => exact ⟨h, rfl, rfl, rfl⟩
  | [a, b], _ =>
    have h1 := ok a (by simp); have h2 := ok b (by simp)
    refine ⟨⟨fun p hp => ?_, by simp [othP]⟩, rfl, ?_, ?_⟩
    · simp only [othP, List.mem_cons, List.not_mem_nil, or_false] at hp
      rcases hp with rfl | rfl <;> simp only <;> omega
    · simp only [othP, wP, Int.mul_one]; exact Int.mul_comm _ _
    · simp only [othP, pP]
  | [a, b, c], _ =>
    have h1 := ok a (by simp); have h2 := ok b (by simp); have h3 := ok c (by simp)
    refine ⟨⟨fun p hp => ?_, by simp [othP]⟩, rfl, ?_, ?_⟩
    · simp only [othP, List.mem_cons, List.not_mem_nil, or_false] at hp
      rcases hp with rfl | rfl | rfl <;> simp only <;> omega
    · simp only [othP, wP, Int.mul_one]; rw [Int.mul_comm b.1 a.1, Int.mul_left_comm, Int.mul_comm c.1 b.1]
    · simp only [othP, pP, Int.mul_one]; rw [Int.mul_comm c.2 b.2]
theorem ev_oth {l : List (Int × Int)} (h : OkP l) (hl : l.length ≤ 3) {r9 : Int × Int × Bool × Int} {a b : Int} (hr : r9 = (a, b, (Int.tmod (l.length : Int) 2 == 1), 0)) (ha : a = (lowP (wP l) (pP l)).1) (hb : b = (lowP (wP l) (pP l)).2) :
    ev_law01_TrainCycles_l7 2000000 r9 2000000 ((l.length : Int) - 1) l a b [] = some true := by
  obtain ⟨o1, o2, o3, o4⟩ := oth_ok h hl
  have fin : ∀ m, ev_law01_TrainCycles_l7 2000000 r9 (m + 1) (-1) l a b (othP l) = some true := by
    intro m
    rw [ev_law01_TrainCycles_l7, cond_if, if_neg (by decide), bind_of (ev_Turns (by decide) o1), o2, o3, o4, cond_if, if_pos (by rfl), cond_if, if_pos (by rw [← ha, ← hb]; simp), cond_if, if_pos (by rw [hr]; simp), cond_if, if_pos (by rw [hr]; simp), bind_of knownB]
  match l, hl with
  | [], _ => exact fin 1999999
  | [x], _ =>
    refine Eq.trans ?_ (fin 1999998)
    rw [show ((([x] : List (Int × Int)).length : Int) - 1) = 0 from rfl, ev_law01_TrainCycles_l7, cond_if, if_pos (by decide), idx_of (x := x) (by decide) rfl, chk_of (by decide), chk_of (by rfl), show Int.tmod (0 + 1) (([x] : List (Int × Int)).length : Int) = 0 by simp, idx_of (x := x) (by decide) rfl, chk_of (by simp [room]), chk_of (by decide)]
    rfl
  | [x, y], _ =>
    refine Eq.trans ?_ (fin 1999997)
    rw [show ((([x, y] : List (Int × Int)).length : Int) - 1) = 1 from rfl, ev_law01_TrainCycles_l7, cond_if, if_pos (by decide), idx_of (x := y) (by decide) rfl, chk_of (by decide), chk_of (by rfl), show Int.tmod (1 + 1) (([x, y] : List (Int × Int)).length : Int) = 0 by simp, idx_of (x := x) (by decide) rfl, chk_of (by simp [room]), chk_of (by decide), show (1 : Int) - 1 = 0 from rfl,
      ev_law01_TrainCycles_l7, cond_if, if_pos (by decide), idx_of (x := x) (by decide) rfl, chk_of (by decide), chk_of (by rfl), show Int.tmod (0 + 1) (([x, y] : List (Int × Int)).length : Int) = 1 by simp, idx_of (x := y) (by decide) rfl, chk_of (by simp [room]), chk_of (by decide)]
    rfl
  | [x, y, z], _ =>
    refine Eq.trans ?_ (fin 1999996)
    rw [show ((([x, y, z] : List (Int × Int)).length : Int) - 1) = 2 from rfl, ev_law01_TrainCycles_l7, cond_if, if_pos (by decide), idx_of (x := z) (by decide) rfl, chk_of (by decide), chk_of (by rfl), show Int.tmod (2 + 1) (([x, y, z] : List (Int × Int)).length : Int) = 0 by simp, idx_of (x := x) (by decide) rfl, chk_of (by simp [room]), chk_of (by decide), show (2 : Int) - 1 = 1 from rfl,
      ev_law01_TrainCycles_l7, cond_if, if_pos (by decide), idx_of (x := y) (by decide) rfl, chk_of (by decide), chk_of (by rfl), show Int.tmod (1 + 1) (([x, y, z] : List (Int × Int)).length : Int) = 2 by simp, idx_of (x := z) (by decide) rfl, chk_of (by simp [room]), chk_of (by decide), show (1 : Int) - 1 = 0 from rfl,
      ev_law01_TrainCycles_l7, cond_if, if_pos (by decide), idx_of (x := x) (by decide) rfl, chk_of (by decide), chk_of (by rfl), show Int.tmod (0 + 1) (([x, y, z] : List (Int × Int)).length : Int) = 1 by simp, idx_of (x := y) (by decide) rfl, chk_of (by simp [room]), chk_of (by decide)]
    rfl
theorem ev_cycles1 {l : List (Int × Int)} (h : OkP l) (hl : l.length ≤ 3) {turns : Int} (ht : 0 ≤ turns ∧ turns ≤ 65535) : ev_law01_TrainCycles_j1 2000000 turns l = some true := by
  have hpos : ∀ p ∈ l, 1 ≤ p.1 ∧ 1 ≤ p.2 := fun p hp => by have := h.ok p hp; omega
  obtain ⟨B1, B2⟩ := pP_bound h.ok
  have hp3 : (400 : Int) ^ l.length ≤ 64000000 := by
    have : ∀ j : Fin 4, (400 : Int) ^ j.1 ≤ 64000000 := by decide
    exact this ⟨l.length, by omega⟩
  obtain ⟨q1, q2, q3, q4⟩ := lowP_pos B1.1 B2.1
  obtain ⟨c1, c2, c3⟩ := cycP_dvd hpos
  have hcb : cycP l ≤ pP l := by
    have hd := arb_den l 1 1 (by decide) (by decide) hpos
    rw [low11] at hd
    exact Int.le_of_dvd (by omega) (c3 (pP l) fun r hr => by simpa using (hd r hr).2.2)
  have hg1 : Int.gcd (lowP (wP l) (pP l)).1 (lowP (wP l) (pP l)).2 = 1 := by
    have hg := gcd_pos (b := pP l) B1.1
    exact Int.gcd_ediv_gcd_ediv_gcd (by omega)
  have hdc := c2 _ (arb_mem_last hpos)
  rw [ev_law01_TrainCycles_j1, bind_of (law_pairs (by omega)), bind_of (ev_Turns (by decide) h), bind_of (law_pairs (by omega)), bind_of (ev_Cycle (by decide) h)]
  dsimp only
  rw [cond_if, if_neg (by simp), cond_if, if_neg (by simp), cond_if, if_neg (by simp; omega), cond_if, if_neg (by simp; omega), cond_if, if_neg (by simp; omega), lawGcd_eq, bind_of (ev_gcd (by decide) (by omega) (by omega)), hg1, cond_if, if_neg (by decide), chk_of (by simp only [bne_iff_ne, ne_eq]; omega), cond_if, if_neg (by simp; exact Int.tmod_eq_zero_of_dvd hdc)]
  rw [ev_law01_TrainCycles_j2]
  have step : ∀ (k i m : Nat), i + k = 63 → 1 ≤ i → k < m → ev_law01_TrainCycles_l3 2000000 turns l (cycP l, 0) ((lowP (wP l) (pP l)).1, (lowP (wP l) (pP l)).2, (Int.tmod (l.length : Int) 2 == 1), 0) m (i : Int) = some true := by
    intro k
    induction k with
    | zero =>
      intro i m hi h1 hm
      obtain ⟨m, rfl⟩ : ∃ m', m = m' + 1 := ⟨m - 1, by omega⟩
      rw [ev_law01_TrainCycles_l3, cond_if, if_neg (by simp; omega), chk_of (in64_of (by omega))]
      exact ev_oth h hl rfl rfl rfl
    | succ k ih =>
      intro i m hi h1 hm
      obtain ⟨m, rfl⟩ : ∃ m', m = m' + 1 := ⟨m - 1, by omega⟩
      have hk := ih (i + 1) m (by omega) (by omega) (by omega)
      rw [show ((i + 1 : Nat) : Int) = (i : Int) + 1 by omega] at hk
      have j4 : ∀ z : Int, 1 ≤ z ∧ z ≤ 64000000 → ev_law01_TrainCycles_j4 2000000 (i : Int) l (cycP l, 0) (fun i13q => ev_law01_TrainCycles_l3 2000000 turns l (cycP l, 0) ((lowP (wP l) (pP l)).1, (lowP (wP l) (pP l)).2, (Int.tmod (l.length : Int) 2 == 1), 0) m i13q) z = some true := by
        intro z hz
        rw [ev_law01_TrainCycles_j4, cond_if]
        split
        · exact ev_whole (by decide) h hl (by simp only; omega) rfl (by omega) hk
        · exact ev_whole (by decide) h hl hz rfl (by omega) hk
      rw [ev_law01_TrainCycles_l3, cond_if, if_pos (decide_eq_true (by omega)), cond_if]
      split
      · rw [chk_of (in64_of (by omega)), chk_of (in64_of (by omega))]
        exact j4 _ (by omega)
      · exact j4 _ (by omega)
  exact step 62 1 2000000 (by omega) (by omega) (by omega)
theorem trainCycles_evx {by_1 : List (Int × Int)} {turns2 : Int} (h0 : (by_1.length ≤ maxLen ∧ ∀ el76 ∈ by_1, (Lit.int .u8 el76.1).wf = true ∧ (Lit.int .u8 el76.2).wf = true)) (h1 : (Lit.int .u16 turns2).wf = true) :
    ∃ n, ev_law01_TrainCycles n by_1 turns2 = some true := by
  refine ⟨2000000, ?_⟩
  have ht : 0 ≤ turns2 ∧ turns2 ≤ 65535 := by
    simpa only [Lit.wf, Bool.and_eq_true, decide_eq_true_eq, show IntKind.u16.min = 0 from rfl, show IntKind.u16.max = 65535 from rfl] using h1
  have key : ∀ (k m i : Nat) (l : List (Int × Int)), i + k = 3 → k < m → l.length = i → OkP l → ev_law01_TrainCycles_l0 2000000 turns2 m (i : Int) by_1 l = some true := by
    intro k
    induction k with
    | zero =>
      intro m i l hi hm hl hok
      obtain ⟨m, rfl⟩ : ∃ m', m = m' + 1 := ⟨m - 1, by omega⟩
      rw [ev_law01_TrainCycles_l0, cond_if, cond_if]
      split
      · rw [if_neg (by simp; omega)]; exact ev_cycles1 hok (by omega) ht
      · exact ev_cycles1 hok (by omega) ht
    | succ k ih =>
      intro m i l hi hm hl hok
      obtain ⟨m, rfl⟩ : ∃ m', m = m' + 1 := ⟨m - 1, by omega⟩
      rw [ev_law01_TrainCycles_l0, cond_if, cond_if]
      split
      · rename_i hlt
        have hlt : i < by_1.length := by simpa using hlt
        obtain ⟨w1, w2⟩ := h0.2 _ (List.getElem_mem hlt)
        rw [wf8] at w1 w2
        rw [if_pos (decide_eq_true (by omega)), idx_nat (List.getElem?_eq_getElem hlt), chk_of (in64_of (by omega)), chk_of (in64_of (by omega)), chk_of (in64_of (by omega)), chk_of (in64_of (by omega)), chk_of (room_iff.2 (by simp; omega)), chk_of (in64_of (by omega))]
        refine ih m (i + 1) _ (by omega) (by omega) (by simp; omega) ⟨fun p hp => ?_, by simp; omega⟩
        rcases List.mem_append.1 hp with hp | hp
        · exact hok.ok p hp
        · rw [List.mem_singleton] at hp
          subst hp
          simp only; omega
      · exact ev_cycles1 hok (by omega) ht
  rw [ev_law01_TrainCycles]
  exact key 3 2000000 0 [] (by omega) (by omega) rfl ⟨by simp, by simp⟩
end Go.Proofs.Ytabjhlfgcmmbfaa.Sy
