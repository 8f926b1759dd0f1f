/- The primes for which there is no cutter: the program, and the reference. -/
import Derived.Test.YtabjhlfgcmmbfaaEvPrimes
import Derived.Test.YtabjhlfgcmmbfaaSpTurretref01
set_option linter.unusedSimpArgs false
set_option linter.unusedVariables false
namespace Go.Proofs.Ytabjhlfgcmmbfaa.Sy
open Go.RowKit
set_option maxRecDepth 100000

theorem nat_div {p N : Nat} (hp : 2 ≤ p) (h1 : 1 ≤ N) {k : Nat} (h2 : N < 2 ^ (k + 1)) (hm : N % p = 0) : 1 ≤ N / p ∧ N / p < 2 ^ k ∧ N / p ≤ N := by
  have hd := Nat.dvd_of_mod_eq_zero hm
  refine ⟨Nat.div_pos (Nat.le_of_dvd h1 hd) (by omega), ?_, Nat.div_le_self _ _⟩
  rw [Nat.div_lt_iff_lt_mul (by omega)]
  rw [Nat.pow_succ] at h2
  have := Nat.mul_le_mul_left (2 ^ k) hp
  omega
/-- a prime is divided out -/
theorem ev_strip {σ : Type} {yb : Int → σ → Option (Bool × σ)} {n p : Nat} {K : Int → Int → σ → Option (σ × Int)} {y : σ} (hp : 2 ≤ p ∧ p ≤ 1000000) : ∀ (k m N : Nat), 1 ≤ N → N ≤ 1000000 → N < 2 ^ k → k < m →
    ev_train_primes_1_l3 yb n (p : Int) K m (N : Int) y = K ((p + 1 : Nat) : Int) (stripN p k N : Nat) y := by
  intro k
  induction k with
  | zero => intro m N h1 _ h2; simp at h2; omega
  | succ k ih =>
    intro m N h1 hN h2 hm
    obtain ⟨m, rfl⟩ : ∃ m', m = m' + 1 := ⟨m - 1, by omega⟩
    rw [ev_train_primes_1_l3, chk_of (by simp only [bne_iff_ne, ne_eq]; omega), tmod_nat, tdiv_nat, cond_if]
    unfold stripN
    by_cases h : N % p = 0
    · obtain ⟨a, b, c⟩ := nat_div hp.1 h1 h2 h
      rw [if_pos (by simp; omega), if_pos h, chk_of (by simp only [bne_iff_ne, ne_eq]; omega), chk_of (in64_of (by omega))]
      exact ih m (N / p) a (by omega) b (by omega)
    · rw [if_neg (by simp; omega), if_neg h, chk_of (in64_of (by omega))]
      rfl
theorem strip_le {p : Nat} : ∀ (k N : Nat), stripN p k N ≤ N := by
  intro k
  induction k with
  | zero => intro N; exact Nat.le_refl _
  | succ k ih =>
    intro N
    unfold stripN
    split
    · exact Nat.le_trans (ih _) (Nat.div_le_self _ _)
    · exact Nat.le_refl _
/-- the primes of a number, one after another -/
theorem ev_primes {σ : Type} {f : Int → σ → Option (Nat × σ)} {n : Nat} (hn : 50 < n) : ∀ (m p N : Nat) (l : List Nat) (y y' : σ), 1 ≤ N → N ≤ 1000000 → 2 ≤ p → (N = 1 ∨ p ≤ 1001) → Rough p N → PrimesOf N l → (if N = 1 then 1 else 1004 - p) < m →
    foldG f (l.map fun q : Nat => (q : Int)) y = some y' → ∃ c, ev_train_primes_1_l0 (loopStep f) n m (p : Int) (N : Int) (y, 0) = some ((y', 0), c) := by
  intro m
  induction m with
  | zero => intro p N l y y' _ _ _ _ _ _ h; omega
  | succ m ih =>
    intro p N l y y' h1 hN hp hp2 hr hl hm hf
    rw [ev_train_primes_1_l0, cond_if]
    by_cases h : N = 1
    · subst h
      have : l = [] := primesOf_eq hl primesOf_one
      subst this
      cases hf
      rw [if_neg (by decide)]
      exact ⟨_, rfl⟩
    · rw [if_neg h] at hm
      have hp1001 : p ≤ 1001 := hp2.resolve_left h
      have hpp : (p : Int) * (p : Int) = ((p * p : Nat) : Int) := by simp
      have hppb : p * p ≤ 1001 * 1001 := Nat.mul_le_mul hp1001 hp1001
      rw [if_pos (decide_eq_true (by omega)), hpp, chk_of (in64_of (by omega)), cond_if]
      have body : ∀ (q : Nat), 2 ≤ q → q ≤ 1000000 → Rough q N → q ∣ N → (stripN q 40 N = 1 ∨ q + 1 ≤ 1001 ∧ p ≤ q) →
          ∃ c, ev_train_primes_1_j1 (loopStep f) n (N : Int) (fun i3q i4q y5q => ev_train_primes_1_l0 (loopStep f) n m i3q i4q y5q) (q : Int) (y, 0) = some ((y', 0), c) := by
        intro q h2 hq6 hrq hd hs
        obtain ⟨l', e, hl', hr', hs1, hs2⟩ := primes_step (k := 40) h1 h2 hrq hd (by omega) hl
        subst e
        rw [List.map_cons] at hf
        obtain ⟨y1, hf1, hf2⟩ : ∃ y1, f (q : Int) y = some (0, y1) ∧ foldG f (l'.map fun q : Nat => (q : Int)) y1 = some y' := by
          have h := hf
          simp only [foldG] at h
          cases hfy : f (q : Int) y with
          | none => rw [hfy] at h; cases h
          | some r =>
            rw [hfy] at h
            obtain ⟨a, b⟩ := r
            cases a with
            | zero => exact ⟨b, rfl, h⟩
            | succ a => cases h
        rw [ev_train_primes_1_j1, chk_of (by simp only [bne_iff_ne, ne_eq]; omega), tmod_nat, cond_if, if_pos (by rw [beq_iff_eq, Nat.mod_eq_zero_of_dvd hd]; rfl), loopStep_of hf1, bind_of rfl, cond_if, if_neg (by simp), ev_train_primes_1_j2, ev_strip ⟨h2, hq6⟩ 40 n N h1 hN (by omega) (by omega)]
        have hle := strip_le (p := q) 40 N
        refine ih (q + 1) (stripN q 40 N) l' y1 y' hs1 (by omega) (by omega) ?_ hr' hl' ?_ hf2
        · rcases hs with hs | hs
          · exact .inl hs
          · exact .inr hs.1
        · split
          · omega
          · rename_i hne
            rcases hs with hs | hs
            · exact absurd hs hne
            · omega
      by_cases hlt : N < p * p
      · rw [if_pos (decide_eq_true (by omega))]
        have hpri := rough_sq (by omega) hr hlt
        have hrN := pri_rough hpri
        refine body N (by omega) (by omega) hrN (Nat.dvd_refl _) (.inl ?_)
        obtain ⟨a, e, h3, h4⟩ := strip_spec (p := N) (by omega) 40 N h1 (by omega)
        cases a with
        | zero => rw [Nat.pow_zero, Nat.one_mul] at e; rw [← e] at h3; exact absurd (Nat.dvd_refl _) h3
        | succ a =>
          rw [Nat.pow_succ, Nat.mul_assoc, Nat.mul_comm N, ← Nat.mul_assoc] at e
          have h5 : 1 ≤ N ^ a := Nat.one_le_pow _ _ (by omega)
          have h6 : 1 * stripN N 40 N ≤ N ^ a * stripN N 40 N := Nat.mul_le_mul_right _ h5
          have h7 : (N ^ a * stripN N 40 N) * N = 1 * N := by omega
          have h8 := Nat.eq_of_mul_eq_mul_right (by omega) h7
          omega
      · rw [if_neg (by simp; omega)]
        have hp3 : p ≤ 1000 := by
          rcases Nat.lt_or_ge 1000 p with h | h
          · have := Nat.mul_le_mul h h; omega
          · exact h
        by_cases hd : p ∣ N
        · exact body p hp (by omega) hr hd (.inr ⟨by omega, Nat.le_refl _⟩)
        · have hns : ∀ k, stripN p (k + 1) N = N := fun k => by
            unfold stripN; rw [if_neg fun h => hd (Nat.dvd_of_mod_eq_zero h)]
          rw [ev_train_primes_1_j1, chk_of (by simp only [bne_iff_ne, ne_eq]; omega), tmod_nat, cond_if, if_neg (by rw [beq_iff_eq]; exact fun h => hd (Nat.dvd_of_mod_eq_zero (Int.ofNat.inj h))), ev_train_primes_1_j2, ev_strip ⟨hp, by omega⟩ 40 n N h1 hN (by omega) (by omega), hns 39]
          exact ih (p + 1) N l y y' h1 hN (by omega) (.inr (by omega)) (rough_succ hr hd) hl (by rw [if_neg h]; omega) hf
/-- what is missing on one side -/
def missP (l : List Nat) (W : List Int) : List Int := (l.map fun q : Nat => (q : Int)).filter fun p => !W.any fun c => Int.tmod c p == 0
theorem ev_any {n : Nat} {W : List Int} (hW : W.length ≤ 100) (hn : 100 < n) {p : Int} (hp : p ≠ 0) : ev_slices_ContainsFunc_Lint_int n W (fun a => ev_train_Missing_1_1 n a p) = some (W.any fun c => Int.tmod c p == 0) := by
  refine cf_Lint_int (fun x _ => ?_) (by omega) (by omega)
  rw [ev_train_Missing_1_1, chk_of (by simpa using hp)]
theorem fold_miss {n : Nat} {W : List Int} (hW : W.length ≤ 100) (hn : 100 < n) {f : Int → List Int → Option (Nat × List Int)} (hf : ∀ x y, f x y = ev_train_Missing_1_r0 n W x y) : ∀ (l : List Nat) (y : List Int), (∀ q ∈ l, 2 ≤ q) → y.length + l.length ≤ 2000000 →
    foldG f (l.map fun q : Nat => (q : Int)) y = some (y ++ missP l W) := by
  intro l
  induction l with
  | nil => intro y _ _; simp [foldG, missP]
  | cons q l ih =>
    intro y hq hl
    have h2 := hq q (by simp)
    simp only [List.length_cons] at hl
    rw [List.map_cons]
    by_cases hb : (W.any fun c => Int.tmod c (q : Int) == 0) = true
    · rw [foldG_cons (y1 := y) (by rw [hf, ev_train_Missing_1_r0, bind_of (ev_any hW hn (by omega)), cond_if, if_neg (by simp [hb])]), ih y (fun q hq' => hq q (by simp [hq'])) (by omega)]
      unfold missP
      rw [List.map_cons, List.filter_cons_of_neg (by simp [hb])]
    · have hb' : (W.any fun c => Int.tmod c (q : Int) == 0) = false := by simpa using hb
      rw [foldG_cons (y1 := y ++ [(q : Int)]) (by rw [hf, ev_train_Missing_1_r0, bind_of (ev_any hW hn (by omega)), cond_if, if_pos (by simp [hb']), chk_of (room_iff.2 (by simp; omega))]), ih _ (fun q hq' => hq q (by simp [hq'])) (by simp; omega)]
      unfold missP
      rw [List.map_cons, List.filter_cons_of_pos (by simp [hb'])]
      simp
theorem missP_len (l : List Nat) (W : List Int) : (missP l W).length ≤ l.length := by
  have := List.length_filter_le (fun p : Int => !W.any fun c => Int.tmod c p == 0) (l.map fun q : Nat => (q : Int))
  rw [List.length_map] at this
  exact this
/-- Missing, of a valid shop -/
theorem ev_Missing {n : Nat} (hn : 1010 < n) {W P : List Int} (hW : OkCut W) (hP : OkCut P) {a b : Int} (ha : 1 ≤ a ∧ a ≤ 1000000) (hb : 1 ≤ b ∧ b ≤ 1000000) {A B : Nat} (hA : (A : Int) = (lowP a b).1) (hB : (B : Int) = (lowP a b).2) {la lb : List Nat} (hla : PrimesOf A la) (hlb : PrimesOf B lb) :
    ev_train_Missing n W P a b = some (srt (missP la W ++ missP lb P), 0) := by
  obtain ⟨q1, q2, q3, q4⟩ := lowP_pos ha.1 hb.1
  have l1 := hW.len
  have l2 := hP.len
  have lena := hla.len (by omega)
  have lenb := hlb.len (by omega)
  have f1 := fold_miss (n := n) (W := W) (f := ev_train_Missing_1_r0 n W) (by omega) (by omega) (fun _ _ => rfl) la [] (fun q hq => ((hla.mem q).1 hq).1.1) (by simp; omega)
  have m1 := missP_len la W
  have m2 := missP_len lb P
  have f2 := fold_miss (n := n) (W := P) (f := ev_train_Missing_1_v1_r0 n P) (by omega) (by omega) (fun _ _ => rfl) lb (missP la W) (fun q hq => ((hlb.mem q).1 hq).1.1) (by omega)
  rw [List.nil_append] at f1
  obtain ⟨c1, h1⟩ := ev_primes (n := n) (by omega) n 2 A la [] _ (by omega) (by omega) (by omega) (.inr (by omega)) (rough_two _) hla (by split <;> omega) f1
  obtain ⟨c2, h2⟩ := ev_primes (n := n) (by omega) n 2 B lb (missP la W) _ (by omega) (by omega) (by omega) (.inr (by omega)) (rough_two _) hlb (by split <;> omega) f2
  rw [show ((2 : Nat) : Int) = 2 from rfl] at h1 h2
  have e1 : ev_train_Missing_1 n (lowP a b).1 W = some (missP la W) := by
    rw [ev_train_Missing_1, ev_train_primes, bind_of rfl, ev_train_primes_1, ← hA, bind_of h1, cond_if, if_pos (by rfl)]
  have e2 : ev_train_Missing_1_v1 n (lowP a b).2 P (missP la W) = some (missP la W ++ missP lb P) := by
    rw [ev_train_Missing_1_v1, ev_train_primes, bind_of rfl, ev_train_primes_1, ← hB, bind_of h2, cond_if, if_pos (by rfl)]
  rw [ev_train_Missing, bind_of (ev_open_ok (by omega) hW hP ha hb), cond_if, if_neg (by simp)]
  dsimp only
  rw [bind_of e1, bind_of e2, ev_slices_Sort_Lint_int, chk_of (room_iff.2 (by simp; omega)), bind_of rfl]
theorem miss_asc {l : List Nat} (h : l.Pairwise (· < ·)) (W : List Int) : (missP l W).Pairwise (· < ·) := by
  unfold missP
  refine List.Pairwise.filter _ ?_
  rw [List.pairwise_map]
  exact h.imp fun h => by omega
theorem miss_disj {a b : Int} (ha : 1 ≤ a) (hb : 1 ≤ b) {A B : Nat} (hA : (A : Int) = (lowP a b).1) (hB : (B : Int) = (lowP a b).2) {la lb : List Nat} (hla : PrimesOf A la) (hlb : PrimesOf B lb) {W P : List Int} : ∀ x ∈ missP la W, ∀ y ∈ missP lb P, x ≠ y := by
  intro x hx y hy e
  subst e
  unfold missP at hx hy
  obtain ⟨p, hp, e1⟩ := List.mem_map.1 (List.mem_filter.1 hx).1
  obtain ⟨q, hq, e2⟩ := List.mem_map.1 (List.mem_filter.1 hy).1
  have : p = q := by omega
  subst this
  obtain ⟨h1, h2⟩ := (hla.mem p).1 hp
  obtain ⟨_, h3⟩ := (hlb.mem p).1 hq
  have hg1 : Int.gcd (lowP a b).1 (lowP a b).2 = 1 := by
    have hg := gcd_pos (b := b) ha
    exact Int.gcd_ediv_gcd_ediv_gcd (by omega)
  rw [← hA, ← hB] at hg1
  have : p ∣ Nat.gcd A B := Nat.dvd_gcd h2 h3
  have hg2 : Nat.gcd A B = 1 := hg1
  rw [hg2] at this
  have := Nat.le_of_dvd (by decide) this
  have := h1.1
  omega
end Go.Proofs.Ytabjhlfgcmmbfaa.Sy
