/- Whether a line corrects: the plain law: all lists of faults are tried, and the answer is the one of the program. -/
import Derived.Test.YtpjlihkpnhamlaaPulseRefCor
import Derived.Test.YtpjlihkpnhamlaaPulseCorr
set_option linter.unusedSimpArgs false
set_option linter.unusedVariables false
namespace Go.Proofs.Ytpjlihkpnhamlaa
namespace Pu

def okG (l : Ln) : Int → Dl → Nat → Bool
  | _, _, 0 => true
  | t, d, n + 1 => (decide (t < 2 * l.e) || (imp l t 1 d).s == t % 720) && okG l (t + 1) (imp l t 1 d) n
theorem okT_okG {l : Ln} {d : Dl} : ∀ (n j : Nat), okT l d (j + n) = (okT l d j && okG l (l.e + j) (runP l d j) n)
  | 0, j => by simp [okG]
  | n + 1, j => by
    rw [show j + (n + 1) = (j + 1) + n by omega, okT_okG n (j + 1), okT, okG]
    rw [show l.e + ((j + 1 : Nat) : Int) = l.e + j + 1 by omega, runP, Bool.and_assoc]
theorem okT_eq {l : Ln} {d : Dl} (n : Nat) : okT l d n = okG l l.e d n := by
  have := okT_okG (l := l) (d := d) n 0
  simpa [okT, runP] using this

def endB (r e c s : Int) : Bool := decide (e - 1 - c ≤ s) && (r == 2 || decide (s ≤ e - 1 + c))
theorem tail_dec : ∀ r : Fin 3, ∀ e : Fin 8, ∀ c : Fin 5, ∀ s : Fin 17, 2 * c.val < e.val + 2 → (r.val = 1 → s.val ≤ e.val + 1) →
    okG ⟨(r.val : Int) + 1, (e.val : Int) + 2, c.val⟩ ((e.val : Int) + 2) ⟨s.val, s.val⟩ (4 * (e.val + 2) + 1) = endB ((r.val : Int) + 1) ((e.val : Int) + 2) c.val s.val := by
  decide +kernel
theorem tail_ok {r e c s : Int} (hr : 1 ≤ r ∧ r ≤ 3) (he : 2 ≤ e ∧ e ≤ 9) (hc : 0 ≤ c ∧ 2 * c < e) (hs : 0 ≤ s ∧ s ≤ 16) (h2 : r = 2 → s ≤ e - 1) :
    okT ⟨r, e, c⟩ ⟨s, s⟩ (4 * e + 1).toNat = endB r e c s := by
  obtain ⟨r', rfl⟩ : ∃ r' : Nat, r = (r' : Int) + 1 := ⟨(r - 1).toNat, by omega⟩
  obtain ⟨e', rfl⟩ : ∃ e' : Nat, e = (e' : Int) + 2 := ⟨(e - 2).toNat, by omega⟩
  obtain ⟨c', rfl⟩ : ∃ c' : Nat, c = (c' : Int) := ⟨c.toNat, by omega⟩
  obtain ⟨s', rfl⟩ : ∃ s' : Nat, s = (s' : Int) := ⟨s.toNat, by omega⟩
  have := tail_dec ⟨r', by omega⟩ ⟨e', by omega⟩ ⟨c', by omega⟩ ⟨s', by omega⟩ (by dsimp only; omega) (by dsimp only; omega)
  rw [okT_eq, show (4 * ((e' : Int) + 2) + 1).toNat = 4 * (e' + 2) + 1 by omega]
  exact this

def corQ (l : Ln) (n : Nat) (s a b : Int) : Bool := decide (l.e - 1 - l.c ≤ s + n - min a n) && (l.r == 2 || decide (s + n + min b n ≤ l.e - 1 + l.c))
theorem notLong {r e c t : Int} (h : 0 < t ∧ t < e) : isLong ⟨r, e, c⟩ t = false := by
  have : t % e = t := Int.emod_eq_of_lt (by omega) h.2
  simp [isLong, this]; omega
theorem mv_free {r e c s : Int} (hr : r ≠ 2) (h : 0 ≤ s ∧ s < 700) : mv ⟨r, e, c⟩ false ⟨s, s⟩ = ⟨s + 1, s + 1⟩ := by
  unfold mv
  rw [if_neg (by simp [hr])]
  simp only [Dl.mk.injEq, and_true]; omega
theorem mv_wait {e c s : Int} (h : 0 ≤ s ∧ s ≤ e - 1 ∧ e ≤ 9) : mv ⟨2, e, c⟩ false ⟨s, s⟩ = if s = e - 1 then ⟨s, s⟩ else ⟨s + 1, s + 1⟩ := by
  unfold mv
  have hs : s % e = s := Int.emod_eq_of_lt h.1 (by omega)
  by_cases h1 : s = e - 1
  · rw [if_pos ⟨rfl, rfl, by show s % e = e - 1; omega⟩, if_pos h1]
  · rw [if_neg (by show ¬ ((2 : Int) = 2 ∧ false = false ∧ s % e = e - 1); omega), if_neg h1]
    simp only [Dl.mk.injEq, and_true]; omega
theorem bool_iff {p q : Bool} (h : p = true ↔ q = true) : p = q := by cases p <;> cases q <;> simp_all

theorem corN_free {r e c : Int} (hr : 1 ≤ r ∧ r ≤ 3) (h2 : r ≠ 2) (he : 2 ≤ e ∧ e ≤ 9) (hc : 0 ≤ c ∧ 2 * c < e) : ∀ (n : Nat) (s a b : Int), (n : Int) ≤ e - 1 → 0 ≤ s → s + 2 * n ≤ 2 * (e - 1) → 0 ≤ a → 0 ≤ b →
    corN ⟨r, e, c⟩ n ⟨s, s⟩ a b = corQ ⟨r, e, c⟩ n s a b
  | 0, s, a, b, hn, hs, hs2, ha, hb => by
    rw [corN, tail_ok hr he hc ⟨hs, by omega⟩ (fun h => absurd h h2)]
    refine bool_iff ?_
    simp only [endB, corQ, Bool.and_eq_true, Bool.or_eq_true, decide_eq_true_eq, beq_iff_eq, true_or, and_true]
    omega
  | n + 1, s, a, b, hn, hs, hs2, ha, hb => by
    have hm : ∀ m : Nat, imp ⟨r, e, c⟩ (e - ((n : Int) + 1)) m ⟨s, s⟩ = mvs ⟨r, e, c⟩ false m ⟨s, s⟩ := fun m => by
      unfold imp; rw [notLong (by omega), if_neg (by simp)]
    rw [corN]
    dsimp only
    rw [hm 1, hm 0, hm 2]
    simp only [mvs]
    rw [mv_free h2 (by omega), mv_free h2 (by omega), corN_free hr h2 he hc n (s + 1) a b (by omega) (by omega) (by omega) ha hb]
    have e0 : (a == 0 || corN ⟨r, e, c⟩ n ⟨s, s⟩ (a - 1) b) = (a == 0 || corQ ⟨r, e, c⟩ n s (a - 1) b) := by
      by_cases h0 : a = 0
      · simp [h0]
      · rw [corN_free hr h2 he hc n s (a - 1) b (by omega) hs (by omega) (by omega) hb]
    have e2 : (b == 0 || corN ⟨r, e, c⟩ n ⟨s + 1 + 1, s + 1 + 1⟩ a (b - 1)) = (b == 0 || corQ ⟨r, e, c⟩ n (s + 1 + 1) a (b - 1)) := by
      by_cases h0 : b = 0
      · simp [h0]
      · rw [corN_free hr h2 he hc n (s + 1 + 1) a (b - 1) (by omega) (by omega) (by omega) ha (by omega)]
    rw [e0, e2]
    refine bool_iff ?_
    simp only [corQ, Bool.and_eq_true, Bool.or_eq_true, decide_eq_true_eq, beq_iff_eq, true_or, and_true]
    omega

theorem corN_wait {e c : Int} (he : 2 ≤ e ∧ e ≤ 9) (hc : 0 ≤ c ∧ 2 * c < e) : ∀ (n : Nat) (s a b : Int), (n : Int) ≤ e - 1 → 0 ≤ s → s ≤ e - 1 → 0 ≤ a → 0 ≤ b →
    corN ⟨2, e, c⟩ n ⟨s, s⟩ a b = corQ ⟨2, e, c⟩ n s a b
  | 0, s, a, b, hn, hs, hs2, ha, hb => by
    rw [corN, tail_ok (by omega) he hc ⟨hs, by omega⟩ (fun _ => hs2)]
    refine bool_iff ?_
    simp only [endB, corQ, Bool.and_eq_true, Bool.or_eq_true, decide_eq_true_eq, beq_iff_eq, true_or, and_true]
    omega
  | n + 1, s, a, b, hn, hs, hs2, ha, hb => by
    have hm : ∀ m : Nat, imp ⟨2, e, c⟩ (e - ((n : Int) + 1)) m ⟨s, s⟩ = mvs ⟨2, e, c⟩ false m ⟨s, s⟩ := fun m => by
      unfold imp; rw [notLong (by omega), if_neg (by simp)]
    obtain ⟨s1, h1, hs1⟩ : ∃ s1, mv ⟨2, e, c⟩ false ⟨s, s⟩ = ⟨s1, s1⟩ ∧ (s1 = s + 1 ∧ s < e - 1 ∨ s1 = s ∧ s = e - 1) := by
      rw [mv_wait ⟨hs, hs2, he.2⟩]
      by_cases q : s = e - 1
      · exact ⟨s, if_pos q, .inr ⟨rfl, q⟩⟩
      · exact ⟨s + 1, if_neg q, .inl ⟨rfl, by omega⟩⟩
    obtain ⟨s2, h2, hs2'⟩ : ∃ s2, mv ⟨2, e, c⟩ false ⟨s1, s1⟩ = ⟨s2, s2⟩ ∧ (s2 = s1 + 1 ∧ s1 < e - 1 ∨ s2 = s1 ∧ s1 = e - 1) := by
      rw [mv_wait ⟨by omega, by omega, he.2⟩]
      by_cases q : s1 = e - 1
      · exact ⟨s1, if_pos q, .inr ⟨rfl, q⟩⟩
      · exact ⟨s1 + 1, if_neg q, .inl ⟨rfl, by omega⟩⟩
    rw [corN]
    dsimp only
    rw [hm 1, hm 0, hm 2]
    simp only [mvs]
    rw [h1, h2, corN_wait he hc n s1 a b (by omega) (by omega) (by omega) ha hb]
    have e0 : (a == 0 || corN ⟨2, e, c⟩ n ⟨s, s⟩ (a - 1) b) = (a == 0 || corQ ⟨2, e, c⟩ n s (a - 1) b) := by
      by_cases h0 : a = 0
      · simp [h0]
      · rw [corN_wait he hc n s (a - 1) b (by omega) hs (by omega) (by omega) hb]
    have e2 : (b == 0 || corN ⟨2, e, c⟩ n ⟨s2, s2⟩ a (b - 1)) = (b == 0 || corQ ⟨2, e, c⟩ n s2 a (b - 1)) := by
      by_cases h0 : b = 0
      · simp [h0]
      · rw [corN_wait he hc n s2 a (b - 1) (by omega) (by omega) (by omega) ha (by omega)]
    rw [e0, e2]
    refine bool_iff ?_
    simp only [corQ, Bool.and_eq_true, Bool.or_eq_true, decide_eq_true_eq, beq_iff_eq, true_or, and_true]
    omega

/-- all lists of faults are tried: what the program says -/
theorem cor_all {r e c a b : Int} (hl : (Ln.mk r e c).ok) (hr : r ≠ 0) (he : e ≤ 9) (ha : 0 ≤ a ∧ a ≤ 20) (hb : 0 ≤ b ∧ b ≤ 20) :
    corN ⟨r, e, c⟩ (e - 1).toNat (start ⟨r, e, c⟩ 0 0) a b = (corrVal ⟨r, e, c⟩ a b).1 := by
  have hst : start ⟨r, e, c⟩ 0 0 = ⟨0, 0⟩ := by unfold start; rw [if_neg hr]; simp
  have hlx := err_of_ok hl
  dsimp only at hlx
  rw [hst]
  unfold Ln.ok at hl
  dsimp only at hl
  have hr1 : 1 ≤ r ∧ r ≤ 3 := by omega
  have he1 : 2 ≤ e := by omega
  have hc1 : 0 ≤ c ∧ 2 * c < e := by omega
  have hn : (((e - 1).toNat : Nat) : Int) = e - 1 := by omega
  have hv : (corrVal ⟨r, e, c⟩ a b).1 = if r = 2 then decide (a ≤ c) else decide (max a b ≤ c) := by
    simp only [corrVal, hlx]
    rw [if_neg (by simp), if_neg (by simp [btw_iff.2 ha, btw_iff.2 hb]), if_neg hr]
    split <;> rfl
  rw [hv]
  by_cases h2 : r = 2
  · subst h2
    rw [corN_wait ⟨he1, he⟩ hc1 _ 0 a b (by omega) (by omega) (by omega) ha.1 hb.1, if_pos rfl]
    refine bool_iff ?_
    simp only [corQ, Bool.and_eq_true, Bool.or_eq_true, decide_eq_true_eq, beq_iff_eq, hn, true_or, and_true]
    omega
  · rw [corN_free hr1 h2 ⟨he1, he⟩ hc1 _ 0 a b (by omega) (by omega) (by omega) ha.1 hb.1, if_neg h2]
    refine bool_iff ?_
    simp only [corQ, Bool.and_eq_true, Bool.or_eq_true, decide_eq_true_eq, beq_iff_eq, hn, true_or, and_true]
    omega
end Pu
end Go.Proofs.Ytpjlihkpnhamlaa
