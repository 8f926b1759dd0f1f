/- Primes by trial division, in plain terms. -/
import Derived.Test.YtabjhlfgcmmbfaaEvLaw01
set_option linter.unusedSimpArgs false
set_option linter.unusedVariables false
namespace Go.Proofs.Ytabjhlfgcmmbfaa.Sy
open Go.RowKit
set_option maxRecDepth 100000

/-- a prime -/
def Pri (q : Nat) : Prop := 2 ≤ q ∧ ∀ d, 2 ≤ d → d ∣ q → d = q
/-- no divisor below -/
def Rough (p n : Nat) : Prop := ∀ d, 2 ≤ d → d < p → ¬ d ∣ n
theorem rough_two (n : Nat) : Rough 2 n := fun d h1 h2 => by omega
theorem rough_dvd {p n m : Nat} (h : Rough p n) (hm : m ∣ n) : Rough p m := fun d h1 h2 hd => h d h1 h2 (Nat.dvd_trans hd hm)
theorem rough_succ {p n : Nat} (h : Rough p n) (hp : ¬ p ∣ n) : Rough (p + 1) n := fun d h1 h2 hd => by
  rcases Nat.lt_or_ge d p with h3 | h3
  · exact h d h1 h3 hd
  · have : d = p := by omega
    subst this; exact hp hd
theorem rough_pri {p n : Nat} (h2 : 2 ≤ p) (h : Rough p n) (hd : p ∣ n) : Pri p := ⟨h2, fun d h1 hdp => by
  have hle := Nat.le_of_dvd (by omega) hdp
  rcases Nat.lt_or_ge d p with h3 | h3
  · exact absurd (Nat.dvd_trans hdp hd) (h d h1 h3)
  · omega⟩
theorem rough_sq {p n : Nat} (hn : 2 ≤ n) (h : Rough p n) (hpp : n < p * p) : Pri n := ⟨hn, fun d h1 hdn => by
  have hle := Nat.le_of_dvd (by omega) hdn
  obtain ⟨c, hc⟩ := hdn
  have hcd : c ∣ n := ⟨d, by rw [hc, Nat.mul_comm]⟩
  rcases Nat.lt_or_ge d p with h3 | h3
  · exact absurd ⟨c, hc⟩ (h d h1 h3)
  · rcases Nat.lt_or_ge c 2 with h4 | h4
    · have : c = 0 ∨ c = 1 := by omega
      rcases this with rfl | rfl
      · simp at hc; omega
      · simp at hc; exact hc.symm
    · rcases Nat.lt_or_ge c p with h5 | h5
      · exact absurd hcd (h c h4 h5)
      · have := Nat.mul_le_mul h3 h5
        omega⟩
theorem pri_dvd {q a b : Nat} (hq : Pri q) (h : q ∣ a * b) : q ∣ a ∨ q ∣ b := by
  have hg := Nat.gcd_dvd_left q a
  rcases Nat.lt_or_ge (Nat.gcd q a) 2 with h1 | h1
  · have h0 : Nat.gcd q a ≠ 0 := fun e => by have := (Nat.gcd_eq_zero_iff.1 e).1; have := hq.1; omega
    have h1 : Nat.gcd q a = 1 := by omega
    exact .inr (Nat.Coprime.dvd_of_dvd_mul_left h1 h)
  · have := hq.2 _ h1 hg
    exact .inl (this ▸ Nat.gcd_dvd_right q a)
theorem pri_pow {q p a : Nat} (hq : Pri q) (hp : Pri p) : q ∣ p ^ a → q = p := by
  induction a with
  | zero => intro h; rw [Nat.pow_zero] at h; have h1 := Nat.le_of_dvd (by decide) h; have := hq.1; omega
  | succ a ih =>
    intro h
    rw [Nat.pow_succ] at h
    rcases pri_dvd hq h with h | h
    · exact ih h
    · exact hp.2 q hq.1 h
def stripN (p : Nat) : Nat → Nat → Nat
  | 0, n => n
  | k + 1, n => if n % p = 0 then stripN p k (n / p) else n
theorem strip_spec {p : Nat} (hp : 2 ≤ p) : ∀ (k n : Nat), 1 ≤ n → n < 2 ^ k → ∃ a, n = p ^ a * stripN p k n ∧ ¬ p ∣ stripN p k n ∧ 1 ≤ stripN p k n := by
  intro k
  induction k with
  | zero => intro n h1 h2; simp at h2; omega
  | succ k ih =>
    intro n h1 h2
    unfold stripN
    split
    · rename_i h
      have hd := Nat.dvd_of_mod_eq_zero h
      have hpos : 1 ≤ n / p := Nat.div_pos (Nat.le_of_dvd h1 hd) (by omega)
      have hlt : n / p < 2 ^ k := by
        rw [Nat.div_lt_iff_lt_mul (by omega)]
        rw [Nat.pow_succ] at h2
        have := Nat.mul_le_mul_left (2 ^ k) hp
        omega
      obtain ⟨a, e, h3, h4⟩ := ih _ hpos hlt
      refine ⟨a + 1, ?_, h3, h4⟩
      have hm := Nat.div_mul_cancel hd
      calc n = n / p * p := hm.symm
        _ = p ^ a * stripN p k (n / p) * p := by rw [← e]
        _ = p ^ (a + 1) * stripN p k (n / p) := by rw [Nat.pow_succ, Nat.mul_assoc, Nat.mul_assoc, Nat.mul_comm p]
    · rename_i h
      exact ⟨0, by simp, fun hd => h (Nat.mod_eq_zero_of_dvd hd), h1⟩
/-- the step of trial division -/
theorem strip_mem {p n m a q : Nat} (hp : Pri p) (e : n = p ^ a * m) (hm : ¬ p ∣ m) (hq : Pri q) (hpn : p ∣ n) : q ∣ n ↔ q = p ∨ q ∣ m := by
  constructor
  · intro h
    rw [e] at h
    rcases pri_dvd hq h with h | h
    · exact .inl (pri_pow hq hp h)
    · exact .inr h
  · rintro (rfl | h)
    · exact hpn
    · rw [e]; exact Nat.dvd_trans h (Nat.dvd_mul_left m _)
/-- the primes of a number, ascending -/
structure PrimesOf (n : Nat) (l : List Nat) : Prop where
  asc : l.Pairwise (· < ·)
  mem : ∀ q, q ∈ l ↔ Pri q ∧ q ∣ n
theorem primesOf_one : PrimesOf 1 [] := ⟨.nil, fun q => by
  simp only [List.not_mem_nil, false_iff]
  rintro ⟨h, hd⟩
  have := Nat.le_of_dvd (by omega) hd
  have := h.1
  omega⟩
theorem primesOf_cons {p n m a : Nat} {l : List Nat} (h2 : 2 ≤ p) (hr : Rough p n) (hd : p ∣ n) (e : n = p ^ a * m) (hm : ¬ p ∣ m) (h : PrimesOf m l) : PrimesOf n (p :: l) := by
  have hp := rough_pri h2 hr hd
  refine ⟨List.pairwise_cons.2 ⟨fun q hq => ?_, h.asc⟩, fun q => ?_⟩
  · obtain ⟨h1, h3⟩ := (h.mem q).1 hq
    have hqn : q ∣ n := e ▸ Nat.dvd_trans h3 (Nat.dvd_mul_left m _)
    rcases Nat.lt_or_ge q p with h4 | h4
    · exact absurd hqn (hr q h1.1 h4)
    · rcases Nat.lt_or_ge p q with h5 | h5
      · exact h5
      · have : q = p := by omega
        subst this; exact absurd h3 hm
  · rw [List.mem_cons]
    constructor
    · rintro (rfl | hq)
      · exact ⟨hp, hd⟩
      · obtain ⟨h1, h3⟩ := (h.mem q).1 hq
        exact ⟨h1, e ▸ Nat.dvd_trans h3 (Nat.dvd_mul_left m _)⟩
    · rintro ⟨h1, h3⟩
      rcases (strip_mem hp e hm h1 hd).1 h3 with h | h4
      · exact .inl h
      · exact .inr ((h.mem q).2 ⟨h1, h4⟩)
theorem asc_ext {a b : List Nat} (ha : a.Pairwise (· < ·)) (hb : b.Pairwise (· < ·)) (h : ∀ q, q ∈ a ↔ q ∈ b) : a = b := by
  have na : a.Nodup := ha.imp fun h => by omega
  have nb : b.Nodup := hb.imp fun h => by omega
  have p := (List.perm_ext_iff_of_nodup na nb).2 h
  exact p.eq_of_pairwise (fun x y _ _ h1 h2 => by omega) ha hb
theorem primesOf_eq {n : Nat} {a b : List Nat} (ha : PrimesOf n a) (hb : PrimesOf n b) : a = b := asc_ext ha.asc hb.asc fun q => (ha.mem q).trans (hb.mem q).symm
theorem strip_lt {p k n : Nat} (hp : 2 ≤ p) (h1 : 1 ≤ n) (h2 : n < 2 ^ k) (hd : p ∣ n) : stripN p k n < n := by
  obtain ⟨a, e, h3, h4⟩ := strip_spec hp k n h1 h2
  cases a with
  | zero => rw [Nat.pow_zero, Nat.one_mul] at e; rw [← e] at h3; exact absurd hd h3
  | succ a =>
    rw [Nat.pow_succ] at e
    have h5 : 1 ≤ p ^ a := Nat.one_le_pow _ _ (by omega)
    have h6 := Nat.mul_le_mul h5 hp
    have h7 := Nat.mul_le_mul_right (stripN p k n) h6
    omega
theorem primes_from : ∀ (d n p : Nat), n + n - p < d → 1 ≤ n → 2 ≤ p → p ≤ n + n → Rough p n → ∃ l, PrimesOf n l := by
  intro d
  induction d with
  | zero => intro n p h; omega
  | succ d ih =>
    intro n p h h1 h2 hpn hr
    by_cases hn : n = 1
    · subst hn; exact ⟨[], primesOf_one⟩
    · have hpn : p ≤ n := by
        rcases Nat.lt_or_ge n p with h | h
        · exact absurd (Nat.dvd_refl n) (hr n (by omega) h)
        · exact h
      by_cases hd : p ∣ n
      · have hlt : n < 2 ^ n := Nat.lt_two_pow_self
        obtain ⟨a, e, h3, h4⟩ := strip_spec h2 n n h1 hlt
        have hs := strip_lt h2 h1 hlt hd
        have hr' : Rough (p + 1) (stripN p n n) := rough_succ (rough_dvd hr ⟨p ^ a, by rw [Nat.mul_comm]; exact e⟩) h3
        by_cases hs1 : stripN p n n = 1
        · exact ⟨[p], primesOf_cons h2 hr hd e h3 (hs1 ▸ primesOf_one)⟩
        · have hps : p + 1 ≤ stripN p n n := by
            rcases Nat.lt_or_ge (stripN p n n) (p + 1) with h | h
            · exact absurd (Nat.dvd_refl _) (hr' _ (by omega) h)
            · exact h
          obtain ⟨l, hl⟩ := ih (stripN p n n) (p + 1) (by omega) h4 (by omega) (by omega) hr'
          exact ⟨p :: l, primesOf_cons h2 hr hd e h3 hl⟩
      · exact ih n (p + 1) (by omega) h1 (by omega) (by omega) (rough_succ hr hd)
theorem exists_primes {n : Nat} (h : 1 ≤ n) : ∃ l, PrimesOf n l := primes_from (n + n) n 2 (by omega) h (by omega) (by omega) (rough_two n)
theorem asc_len : ∀ (l : List Nat) (k d : Nat), l.Pairwise (· < ·) → (∀ x ∈ l, k ≤ x ∧ x < k + d) → l.length ≤ d
  | [], _, _, _, _ => Nat.zero_le _
  | x :: l, k, d, h, hb => by
    have h' := List.pairwise_cons.1 h
    have hx := hb x (by simp)
    have := asc_len l (x + 1) (k + d - (x + 1)) h'.2 fun y hy => by
      have h1 := h'.1 y hy
      have h2 := hb y (by simp [hy])
      omega
    simp only [List.length_cons]
    omega
theorem PrimesOf.len {n : Nat} {l : List Nat} (hn : 1 ≤ n) (h : PrimesOf n l) : l.length ≤ n := by
  refine asc_len l 1 n h.asc fun x hx => ?_
  obtain ⟨h1, h2⟩ := (h.mem x).1 hx
  have := Nat.le_of_dvd hn h2
  have := h1.1
  omega
/-- what trial division goes on with at p, as a list -/
theorem primes_step {n p k : Nat} {l : List Nat} (h1 : 1 ≤ n) (h2 : 2 ≤ p) (hr : Rough p n) (hd : p ∣ n) (hk : n < 2 ^ k) (h : PrimesOf n l) :
    ∃ l', l = p :: l' ∧ PrimesOf (stripN p k n) l' ∧ Rough (p + 1) (stripN p k n) ∧ 1 ≤ stripN p k n ∧ stripN p k n < n := by
  obtain ⟨a, e, h3, h4⟩ := strip_spec h2 k n h1 hk
  obtain ⟨l', hl⟩ := exists_primes h4
  exact ⟨l', primesOf_eq h (primesOf_cons h2 hr hd e h3 hl), hl, rough_succ (rough_dvd hr ⟨p ^ a, by rw [Nat.mul_comm]; exact e⟩) h3, h4, strip_lt h2 h1 hk hd⟩
theorem pri_rough {p : Nat} (h : Pri p) : Rough p p := fun d h1 h2 hd => by have := h.2 d h1 hd; omega
theorem tmod_nat (a b : Nat) : Int.tmod (a : Int) (b : Int) = ((a % b : Nat) : Int) := by rw [Int.tmod_eq_emod_of_nonneg (by omega)]; rfl
theorem tdiv_nat (a b : Nat) : Int.tdiv (a : Int) (b : Int) = ((a / b : Nat) : Int) := by rw [Int.tdiv_eq_ediv_of_nonneg (by omega)]; rfl
end Go.Proofs.Ytabjhlfgcmmbfaa.Sy
