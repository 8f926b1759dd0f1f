/- What a train's arbors turn, in plain terms. -/
import Derived.Test.YtgkoldcmbcbbpaaCmGTrain
import Derived.Test.YtgkoldcmbcbbpaaCmSpTrain
import Derived.Test.YtgkoldcmbcbbpaaCmEvL
set_option linter.unusedSimpArgs false
set_option linter.unusedVariables false
namespace Go.Proofs.Ytgkoldcmbcbbpaa.Sy
open Go.RowKit
set_option maxRecDepth 100000
theorem mod_half {x y : Nat} (hy : 0 < y) (hr : 0 < x % y) : 2 * (y % (x % y)) < y := by
  have h1 := Nat.mod_lt x hy;obtain ⟨r, h⟩ : ∃ r, r = x % y := ⟨_, rfl⟩;rw [← h] at hr h1 ⊢;have h2 := Nat.mod_lt y hr;rcases Nat.lt_or_ge (2 * r) y with h3 | h3
  · omega
  · rw [Nat.mod_eq_sub_mod (by omega)];rcases Nat.eq_or_lt_of_le h3 with h4 | h4
    · have : y - r = r := by omega
      rw [this, Nat.mod_self]; omega
    · have := Nat.mod_le (y - r) r
      omega
theorem gcd_l {n : Nat} : ∀ (k m x y : Nat), y < 2 ^ k → 2 * k < m → ev_train_gcd_l0 n m (x : Int) (y : Int) = some ((Nat.gcd x y : Nat) : Int) := by
  intro k
  induction k with
  | zero =>
    intro m x y hy hm;have : y = 0 := by simpa using hy
    subst this
    cases m with
    | zero => omega
    | succ m => rw [ev_train_gcd_l0, cond_if, if_neg (by simp)]; simp
  | succ k ih =>
    intro m x y hy hm;rcases Nat.eq_zero_or_pos y with h0 | h0
    · subst h0
      cases m with
      | zero => omega
      | succ m => rw [ev_train_gcd_l0, cond_if, if_neg (by simp)]; simp
    · obtain ⟨m, rfl⟩ : ∃ q, m = q + 2 := ⟨m - 2, by omega⟩;have e1 : Int.tmod (x : Int) (y : Int) = ((x % y : Nat) : Int) := by rw [Int.tmod_eq_emod_of_nonneg (by omega)]; rfl
      rw [ev_train_gcd_l0, cond_if, if_pos (by simp; omega), chk_of (by simp; omega), e1];rcases Nat.eq_zero_or_pos (x % y) with h1 | h1
      · rw [h1, ev_train_gcd_l0, cond_if, if_neg (by simp)];rw [Nat.gcd_comm, Nat.gcd_rec, h1]; simp
      · have e2 : Int.tmod (y : Int) ((x % y : Nat) : Int) = ((y % (x % y) : Nat) : Int) := by rw [Int.tmod_eq_emod_of_nonneg (by omega)]; rfl
        rw [ev_train_gcd_l0, cond_if, if_pos (by simp; omega), chk_of (by simp; omega), e2, ih m (x % y) (y % (x % y)) (by have := mod_half h0 h1; rw [Nat.pow_succ] at hy; omega) (by omega)]
        congr 2
        rw [Nat.gcd_comm x y, Nat.gcd_rec y x, Nat.gcd_rec (x % y) y, Nat.gcd_comm]
theorem ev_gcd {n : Nat} (hn : 200 < n) {a b : Int} (ha : 0 ≤ a) (hb : 0 ≤ b ∧ b ≤ 9223372036854775807) : ev_train_gcd n a b = some ((Int.gcd a b : Nat) : Int) := by
  obtain ⟨x, rfl⟩ := Int.eq_ofNat_of_zero_le ha;obtain ⟨y, rfl⟩ := Int.eq_ofNat_of_zero_le hb.1;rw [ev_train_gcd];exact gcd_l 64 n x y (by omega) (by omega)
def lowP (a b : Int) : Int × Int := (a / (Int.gcd a b : Nat), b / (Int.gcd a b : Nat))
theorem gcd_pos {a b : Int} (ha : 1 ≤ a) : 1 ≤ ((Int.gcd a b : Nat) : Int) := by
  have : 0 < Int.gcd a b := Int.gcd_pos_of_ne_zero_left _ (by omega)
  omega
theorem lowP_pos {a b : Int} (ha : 1 ≤ a) (hb : 1 ≤ b) : 1 ≤ (lowP a b).1 ∧ (lowP a b).1 ≤ a ∧ 1 ≤ (lowP a b).2 ∧ (lowP a b).2 ≤ b := by
  have hg := gcd_pos (b := b) ha;have h1 : ((Int.gcd a b : Nat) : Int) ∣ a := Int.gcd_dvd_left ..;have h2 : ((Int.gcd a b : Nat) : Int) ∣ b := Int.gcd_dvd_right ..;refine ⟨?_, Int.ediv_le_self _ (by omega), ?_, Int.ediv_le_self _ (by omega)⟩
  · exact Int.le_ediv_of_mul_le (by omega) (by have := Int.le_of_dvd (by omega) h1; omega)
  · exact Int.le_ediv_of_mul_le (by omega) (by have := Int.le_of_dvd (by omega) h2; omega)
theorem lowP_mul {a b : Int} (ha : 1 ≤ a) : (lowP a b).1 * (Int.gcd a b : Nat) = a ∧ (lowP a b).2 * (Int.gcd a b : Nat) = b := by
  constructor
  · exact Int.ediv_mul_cancel (Int.gcd_dvd_left ..)
  · exact Int.ediv_mul_cancel (Int.gcd_dvd_right ..)
theorem lowP_scale {g a b : Int} (hg : 1 ≤ g) (ha : 1 ≤ a) : lowP (g * a) (g * b) = lowP a b := by
  have e : ((Int.gcd (g * a) (g * b) : Nat) : Int) = g * (Int.gcd a b : Nat) := by
    rw [Int.gcd_mul_left, Int.natCast_mul, Int.natAbs_of_nonneg (by omega)]
  unfold lowP;rw [e, Int.mul_ediv_mul_of_pos _ _ (by omega), Int.mul_ediv_mul_of_pos _ _ (by omega)]
theorem lowP_step {a b u v : Int} (ha : 1 ≤ a) (hb : 1 ≤ b) (hu : 1 ≤ u) : lowP ((lowP a b).1 * u) ((lowP a b).2 * v) = lowP (a * u) (b * v) := by
  obtain ⟨h1, h2⟩ := lowP_mul (b := b) ha;have hg := gcd_pos (b := b) ha;obtain ⟨p1, _⟩ := lowP_pos ha hb;have hp : 1 ≤ (lowP a b).1 * u := by have := Int.mul_pos (show 0 < (lowP a b).1 by omega) (show 0 < u by omega); omega
  rw [← lowP_scale (g := (Int.gcd a b : Nat)) (b := (lowP a b).2 * v) hg hp];have e1 : ((Int.gcd a b : Nat) : Int) * ((lowP a b).1 * u) = a * u := by rw [← Int.mul_assoc, Int.mul_comm ((Int.gcd a b : Nat) : Int), h1]
  have e2 : ((Int.gcd a b : Nat) : Int) * ((lowP a b).2 * v) = b * v := by rw [← Int.mul_assoc, Int.mul_comm ((Int.gcd a b : Nat) : Int), h2]
  rw [e1, e2]
theorem ev_lowest {n : Nat} (hn : 200 < n) {a b : Int} (ha : 1 ≤ a ∧ a ≤ 9223372036854775807) (hb : 1 ≤ b ∧ b ≤ 9223372036854775807) : ev_train_lowest n a b = some (lowP a b) := by
  have hg := gcd_pos (b := b) ha.1;obtain ⟨q1, q2, q3, q4⟩ := lowP_pos ha.1 hb.1;have e1 : Int.tdiv a (Int.gcd a b : Nat) = (lowP a b).1 := by rw [Int.tdiv_eq_ediv_of_nonneg (by omega)]; rfl
  have e2 : Int.tdiv b (Int.gcd a b : Nat) = (lowP a b).2 := by rw [Int.tdiv_eq_ediv_of_nonneg (by omega)]; rfl
  rw [ev_train_lowest, bind_of (ev_gcd hn (by omega) (by omega)), chk_of (by simp; omega), e1, chk_of (in64_of (by omega)), chk_of (by simp; omega), e2, chk_of (in64_of (by omega))]
def arbP : Int × Int → List (Int × Int) → List (Int × Int)
  | r, [] => [r]
  | r, p :: l => r :: arbP (lowP (r.1 * p.1) (r.2 * p.2)) l
def foldO {σ : Type} (f : Int × Int → σ → Option (Nat × σ)) : List (Int × Int) → σ → Option σ
  | [], y => some y
  | r :: rs, y => match f r y with
    | some (0, y') => foldO f rs y'
    | _ => none
structure OkP (l : List (Int × Int)) : Prop where
  ok : ∀ p ∈ l, (6 ≤ p.1 ∧ p.1 ≤ 400) ∧ (6 ≤ p.2 ∧ p.2 ≤ 400)
  len : l.length ≤ 6
theorem pow_le {i : Nat} (h : i ≤ 6) : 1 ≤ (400 : Int) ^ i ∧ (400 : Int) ^ i ≤ 4096000000000000 := by
  have : ∀ j : Fin 7, 1 ≤ (400 : Int) ^ j.1 ∧ (400 : Int) ^ j.1 ≤ 4096000000000000 := by decide
  exact this ⟨i, by omega⟩
theorem mul_bound {a b A B : Int} (ha : 1 ≤ a ∧ a ≤ A) (hb : 1 ≤ b ∧ b ≤ B) : 1 ≤ a * b ∧ a * b ≤ A * B := by
  have h1 := Int.mul_pos (show 0 < a by omega) (show 0 < b by omega);have h2 := Int.mul_le_mul ha.2 hb.2 (by omega) (by omega)
  omega
theorem ev_arbors {σ : Type} {n : Nat} (hn : 200 < n) {f : Int × Int → σ → Option (Nat × σ)} {l : List (Int × Int)} (h : OkP l) : ∀ (k m i : Nat) (r : Int × Int) (y y' : σ), i + k = l.length → k < m → 1 ≤ r.1 ∧ r.1 ≤ 400 ^ i → 1 ≤ r.2 ∧ r.2 ≤ 400 ^ i → foldO f (arbP r (l.drop i)) y = some y' →
    ev_train_chain_arbors_l0 (loopStep f) n l m (i : Int) r.1 r.2 l (y, 0) = some (y', 0) := by
  have hlen := h.len;intro k
  induction k with
  | zero =>
    intro m i r y y' hi hm h1 h2 hf
    cases m with
    | zero => omega
    | succ m =>
      rw [List.drop_eq_nil_of_le (by omega)] at hf;simp only [arbP, foldO] at hf
      split at hf
      · rename_i y1 he
        cases hf;rw [ev_train_chain_arbors_l0, cond_if, if_neg (by simp; omega), bind_of (loopStep_of he)]
      · cases hf
  | succ k ih =>
    intro m i r y y' hi hm h1 h2 hf
    cases m with
    | zero => omega
    | succ m =>
      have hlt : i < l.length := by omega
      obtain ⟨g1, g2⟩ := h.ok _ (List.getElem_mem hlt);rw [List.drop_eq_getElem_cons hlt] at hf;simp only [arbP, foldO] at hf
      split at hf
      · rename_i y1 he
        have hp := pow_le (i := i + 1) (by omega);have hs : (400 : Int) ^ (i + 1) = 400 ^ i * 400 := by rw [Int.pow_succ]
        have b1 := mul_bound h1 (show 1 ≤ l[i].1 ∧ l[i].1 ≤ 400 by omega);have b2 := mul_bound h2 (show 1 ≤ l[i].2 ∧ l[i].2 ≤ 400 by omega);obtain ⟨q1, q2, q3, q4⟩ := lowP_pos b1.1 b2.1;rw [ev_train_chain_arbors_l0, cond_if, if_pos (by simp; omega), idx_nat (List.getElem?_eq_getElem hlt), bind_of (loopStep_of he), cond_if, if_neg (by simp), chk_of (in64_of (by omega)), chk_of (in64_of (by omega)), bind_of (ev_lowest hn (by omega) (by omega)), chk_of (in64_of (by omega))];exact ih m (i + 1) (lowP (r.1 * l[i].1) (r.2 * l[i].2)) y1 y' (by omega) (by omega) ⟨q1, by omega⟩ ⟨q3, by omega⟩ hf
      · cases hf
theorem ev_newChain {n : Nat} (hn : 10 < n) {l : List (Int × Int)} (h : OkP l) : ev_train_newChain n l = some (l, 0) := by
  have hlen := h.len;rw [ev_train_newChain, cond_if, if_neg (by simp; omega), bind_of (cf_Lapi_TrainPair_api_TrainPair (g := fun _ => false) (fun x hx => ?_) (by omega) (by omega)), cond_if, if_neg (by simp)];obtain ⟨h1, h2⟩ := h.ok x hx;show ev_train_newChain_1 n x.1 x.2 = some false;have : ev_train_isTeeth n [x.1, x.2] = some true := by
    rw [ev_train_isTeeth, bind_of (wi2_train (by omega))]; congr 1; simp; omega
  rw [ev_train_newChain_1, bind_of this]; rfl
def wP : List (Int × Int) → Int
  | [] => 1
  | p :: l => p.1 * wP l
def pP : List (Int × Int) → Int
  | [] => 1
  | p :: l => p.2 * pP l
theorem low11 : lowP 1 1 = (1, 1) := by decide
def lcmP : List (Int × Int) → Int → Int
  | [], y => y
  | r :: rs, y => lcmP rs (y * (r.2 / (Int.gcd y r.2 : Nat)))
theorem lcm_eq {a b : Int} (ha : 1 ≤ a) (hb : 1 ≤ b) : a * (b / (Int.gcd a b : Nat)) = (Int.lcm a b : Nat) := by
  have h := Int.gcd_mul_lcm a b;have hg := gcd_pos (b := b) ha;have hd : ((Int.gcd a b : Nat) : Int) ∣ b := Int.gcd_dvd_right ..;have h1 : ((Int.gcd a b : Nat) : Int) * (a * (b / (Int.gcd a b : Nat))) = a * b := by
    rw [Int.mul_left_comm, Int.mul_ediv_cancel' hd]
  have h2 : ((Int.gcd a b : Nat) : Int) * (Int.lcm a b : Nat) = a * b := by
    have : ((Int.gcd a b * Int.lcm a b : Nat) : Int) = ((a * b).natAbs : Int) := by rw [h, Int.natAbs_mul]
    rw [Int.natCast_mul] at this;rw [this, Int.natAbs_of_nonneg (Int.mul_nonneg (by omega) (by omega))]
  exact Int.eq_of_mul_eq_mul_left (by omega) (h1.trans h2.symm)
theorem arb_den : ∀ (l : List (Int × Int)) (a b : Int), 1 ≤ a → 1 ≤ b → (∀ p ∈ l, 1 ≤ p.1 ∧ 1 ≤ p.2) → ∀ r ∈ arbP (lowP a b) l, 1 ≤ r.1 ∧ 1 ≤ r.2 ∧ r.2 ∣ b * pP l := by
  intro l
  induction l with
  | nil =>
    intro a b ha hb _ r hr;simp only [arbP, List.mem_singleton] at hr;subst hr;obtain ⟨q1, q2, q3, q4⟩ := lowP_pos ha hb;refine ⟨q1, q3, ?_⟩;rw [pP, Int.mul_one];exact ⟨_, (lowP_mul (b := b) ha).2.symm⟩
  | cons p l ih =>
    intro a b ha hb h r hr;obtain ⟨h1, h2⟩ := h p (by simp);have a1 := Int.mul_pos (show 0 < a by omega) (show 0 < p.1 by omega);have b1 := Int.mul_pos (show 0 < b by omega) (show 0 < p.2 by omega);simp only [arbP, List.mem_cons] at hr;rcases hr with rfl | hr
    · obtain ⟨q1, q2, q3, q4⟩ := lowP_pos ha hb;exact ⟨q1, q3, Int.dvd_trans ⟨_, (lowP_mul (b := b) ha).2.symm⟩ (Int.dvd_mul_right _ _)⟩
    · rw [lowP_step ha hb h1] at hr;have := ih (a * p.1) (b * p.2) (by omega) (by omega) (fun q hq => h q (by simp [hq])) r hr;rw [pP, ← Int.mul_assoc]; exact this
theorem foldO_cycle {n : Nat} (hn : 200 < n) {P : Int} (hP : 1 ≤ P ∧ P ≤ 4096000000000000) : ∀ (rs : List (Int × Int)) (y : Int), 1 ≤ y → y ∣ P → (∀ r ∈ rs, 1 ≤ r.2 ∧ r.2 ∣ P) → foldO (ev_train_Cycle_r0 n) rs y = some (lcmP rs y) := by
  intro rs
  induction rs with
  | nil => intro y _ _ _; rfl
  | cons r rs ih =>
    intro y hy hd h;obtain ⟨hr, hrd⟩ := h r (by simp);have hyP := Int.le_of_dvd (by omega) hd;have hrP := Int.le_of_dvd (by omega) hrd;have e := lcm_eq hy hr;have hpos : 1 ≤ ((Int.lcm y r.2 : Nat) : Int) := by
      have : 0 < Int.lcm y r.2 := Int.lcm_pos (by omega) (by omega)
      omega
    have hld : ((Int.lcm y r.2 : Nat) : Int) ∣ P := Int.ofNat_dvd_left.2 (Int.lcm_dvd (Int.dvd_natAbs.2 hd) (Int.dvd_natAbs.2 hrd));have hlP := Int.le_of_dvd (by omega) hld;have hg := gcd_pos (b := r.2) hy;have hq0 := Int.ediv_nonneg (show 0 ≤ r.2 by omega) (show 0 ≤ ((Int.gcd y r.2 : Nat) : Int) by omega);have hq1 := Int.ediv_le_self (a := r.2) ((Int.gcd y r.2 : Nat) : Int) (by omega);have et : Int.tdiv r.2 (Int.gcd y r.2 : Nat) = r.2 / (Int.gcd y r.2 : Nat) := Int.tdiv_eq_ediv_of_nonneg (by omega);have hstep : ev_train_Cycle_r0 n r y = some (0, ((Int.lcm y r.2 : Nat) : Int)) := by
      rw [ev_train_Cycle_r0, bind_of (ev_gcd hn (by omega) (by omega)), chk_of (by simp; omega), et, chk_of (in64_of (by omega)), e, chk_of (in64_of (by omega))]
    simp only [foldO, hstep, lcmP, e];exact ih _ hpos hld fun x hx => h x (by simp [hx])
theorem pP_bound : ∀ {l : List (Int × Int)} (h : ∀ p ∈ l, (6 ≤ p.1 ∧ p.1 ≤ 400) ∧ (6 ≤ p.2 ∧ p.2 ≤ 400)), (1 ≤ wP l ∧ wP l ≤ 400 ^ l.length) ∧ (1 ≤ pP l ∧ pP l ≤ 400 ^ l.length) := by
  intro l
  induction l with
  | nil => intro _; simp [wP, pP]
  | cons p l ih =>
    intro h;obtain ⟨h1, h2⟩ := h p (by simp);obtain ⟨i1, i2⟩ := ih fun q hq => h q (by simp [hq])
    have a := mul_bound (show 1 ≤ p.1 ∧ p.1 ≤ 400 by omega) i1;have b := mul_bound (show 1 ≤ p.2 ∧ p.2 ≤ 400 by omega) i2;have e : (400 : Int) ^ (l.length + 1) = 400 * 400 ^ l.length := by rw [Int.pow_succ, Int.mul_comm]
    simp only [wP, pP, List.length_cons, e]; omega
theorem OkP.bound {l : List (Int × Int)} (h : OkP l) : (1 ≤ wP l ∧ wP l ≤ 4096000000000000) ∧ (1 ≤ pP l ∧ pP l ≤ 4096000000000000) := by
  obtain ⟨a, b⟩ := pP_bound h.ok;have := pow_le h.len
  omega
def cycP (l : List (Int × Int)) : Int := lcmP (arbP (1, 1) l) 1
theorem ev_Cycle {n : Nat} (hn : 200 < n) {l : List (Int × Int)} (h : OkP l) : ev_train_Cycle n l = some (cycP l, 0) := by
  have hp : ∀ p ∈ l, 1 ≤ p.1 ∧ 1 ≤ p.2 := fun p hp => by have := h.ok p hp; omega
  obtain ⟨_, hb⟩ := h.bound;have hd := arb_den l 1 1 (by decide) (by decide) hp;rw [low11, Int.one_mul] at hd;have hf := foldO_cycle hn hb (arbP (1, 1) l) 1 (by decide) (Int.one_dvd _) fun r hr => ⟨(hd r hr).2.1, (hd r hr).2.2⟩
  have := ev_arbors hn h l.length n 0 (1, 1) 1 _ (by omega) (by have := h.len; omega) (by decide) (by decide) hf;have hA : ev_train_chain_arbors (loopStep (ev_train_Cycle_r0 n)) n l (1, 0) = some (cycP l, 0) := this;rw [ev_train_Cycle, bind_of (ev_newChain (by omega) h), cond_if, if_neg (by simp), bind_of hA, cond_if, if_pos (by rfl)]
end Go.Proofs.Ytgkoldcmbcbbpaa.Sy
