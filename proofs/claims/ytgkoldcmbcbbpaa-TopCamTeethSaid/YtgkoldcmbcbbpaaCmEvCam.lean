/- Two figures that are out at the beginnings of their turns: when both are out again. -/
import Derived.Test.YtgkoldcmbcbbpaaCmGChime
import Derived.Test.YtgkoldcmbcbbpaaCmSpChimeA
import Derived.Test.YtgkoldcmbcbbpaaCmEvTrain
set_option linter.unusedSimpArgs false
set_option linter.unusedVariables false
namespace Go.Proofs.Ytgkoldcmbcbbpaa.Sy
open Go.RowKit
set_option maxRecDepth 100000
theorem cgcd_l {n : Nat} : ∀ (k m x y : Nat), y < 2 ^ k → 2 * k < m → ev_chime_gcd_l0 n m (x : Int) (y : Int) = some ((Nat.gcd x y : Nat) : Int) := by
  intro k
  induction k with
  | zero =>
    intro m x y hy hm;have : y = 0 := by simpa using hy
    subst this
    cases m with
    | zero => omega
    | succ m => rw [ev_chime_gcd_l0, cond_if, if_neg (by simp)]; simp
  | succ k ih =>
    intro m x y hy hm;rcases Nat.eq_zero_or_pos y with h0 | h0
    · subst h0
      cases m with
      | zero => omega
      | succ m => rw [ev_chime_gcd_l0, cond_if, if_neg (by simp)]; simp
    · obtain ⟨m, rfl⟩ : ∃ q, m = q + 2 := ⟨m - 2, by omega⟩;have e1 : Int.tmod (x : Int) (y : Int) = ((x % y : Nat) : Int) := by rw [Int.tmod_eq_emod_of_nonneg (by omega)]; rfl
      rw [ev_chime_gcd_l0, cond_if, if_pos (by simp; omega), chk_of (by simp; omega), e1];rcases Nat.eq_zero_or_pos (x % y) with h1 | h1
      · rw [h1, ev_chime_gcd_l0, cond_if, if_neg (by simp)];rw [Nat.gcd_comm, Nat.gcd_rec, h1]; simp
      · have e2 : Int.tmod (y : Int) ((x % y : Nat) : Int) = ((y % (x % y) : Nat) : Int) := by rw [Int.tmod_eq_emod_of_nonneg (by omega)]; rfl
        rw [ev_chime_gcd_l0, cond_if, if_pos (by simp; omega), chk_of (by simp; omega), e2, ih m (x % y) (y % (x % y)) (by have := mod_half h0 h1; rw [Nat.pow_succ] at hy; omega) (by omega)]
        congr 2
        rw [Nat.gcd_comm x y, Nat.gcd_rec y x, Nat.gcd_rec (x % y) y, Nat.gcd_comm]
theorem ev_cgcd {n : Nat} (hn : 200 < n) {a b : Int} (ha : 0 ≤ a) (hb : 0 ≤ b ∧ b ≤ 9223372036854775807) : ev_chime_gcd n a b = some ((Int.gcd a b : Nat) : Int) := by
  obtain ⟨x, rfl⟩ := Int.eq_ofNat_of_zero_le ha;obtain ⟨y, rfl⟩ := Int.eq_ofNat_of_zero_le hb.1;rw [ev_chime_gcd];exact cgcd_l 64 n x y (by omega) (by omega)
theorem cyc_one {w p : Int} (hw : 1 ≤ w) (hp : 1 ≤ p) : cycP [(w, p)] * w = (Int.lcm w p : Nat) := by
  have e : cycP [(w, p)] = p / (Int.gcd w p : Nat) := by
    have h1 : (1 : Int) / ((1 : Nat) : Int) = 1 := by decide
    simp only [cycP, arbP, lcmP, lowP, Int.one_mul, Int.gcd_one_left];simp
  rw [e, Int.mul_comm, lcm_eq hw hp]
theorem lcm_le {w p : Int} (hw : 1 ≤ w) (hp : 1 ≤ p) : 1 ≤ ((Int.lcm w p : Nat) : Int) ∧ ((Int.lcm w p : Nat) : Int) ≤ w * p ∧ w ≤ ((Int.lcm w p : Nat) : Int) := by
  have h0 : 0 < Int.lcm w p := Int.lcm_pos (by omega) (by omega);refine ⟨by omega, ?_, Int.le_of_dvd (by omega) (Int.dvd_lcm_left ..)⟩;rw [← lcm_eq hw hp];exact Int.mul_le_mul_of_nonneg_left (Int.ediv_le_self _ (by omega)) (by omega)
section
variable {w p : Int} (hw : 6 ≤ w ∧ w ≤ 100) (hp : 6 ≤ p ∧ p ≤ 100) {L : Int} (hL : L = (Int.lcm w p : Nat)) {from_ : Int} (hf : 0 ≤ from_ ∧ from_ ≤ 100000) {n : Nat} (hn : 12000 ≤ n)
include hw hp hf hn in
theorem meet_at {i : Int} (hi : 0 ≤ i ∧ i ≤ 20000) : ev_slices_ContainsFunc_Lapi_ChimeCam_api_ChimeCam n [(w, 0, 0), (p, 0, 0)] (fun a => ev_chime_Meet_2 n a.1 a.2.1 a.2.2 from_ i) = some (!(decide ((from_ + i) % w = 0) && decide ((from_ + i) % p = 0))) := by
  have one : ∀ a : Int, 6 ≤ a ∧ a ≤ 100 → ev_chime_Meet_2 n a 0 0 from_ i = some (!decide ((from_ + i) % a = 0)) := by
    intro a ha;have h1 := Int.emod_nonneg (from_ + i) (show a ≠ 0 by omega);rw [ev_chime_Meet_2, chk_of (in64_of (by omega)), ev_chime_cam_isOut, chk_of (by simp; omega), Int.tmod_eq_emod_of_nonneg (by omega), bind_of (wi1_chime (by omega))];simp only [Option.bind]
    congr 2
    rw [Bool.eq_iff_iff];simp only [Bool.and_eq_true, decide_eq_true_eq]
    omega
  rw [cf_Lapi_ChimeCam_api_ChimeCam (g := fun a => !decide ((from_ + i) % a.1 = 0)) (fun x hx => by
    simp only [List.mem_cons, List.not_mem_nil, or_false] at hx;rcases hx with rfl | rfl
    · exact one w hw
    · exact one p hp) (by simp) (by simp; omega)]
  simp only [List.any_cons, List.any_nil, Bool.or_false];rw [Bool.not_and]
include hw hp hL hf hn in
theorem ev_Meet2 : ev_chime_Meet n [(w, 0, 0), (p, 0, 0)] from_ = some (from_ + (-from_) % L, 0) := by
  obtain ⟨l1, l2, l3⟩ := lcm_le (w := w) (p := p) (by omega) (by omega);have lb : w * p ≤ 100 * 100 := Int.mul_le_mul hw.2 hp.2 (by omega) (by omega);rw [← hL] at l1 l2 l3;obtain ⟨g1, g2⟩ : 0 ≤ (-from_) % L ∧ (-from_) % L < L := ⟨Int.emod_nonneg _ (by omega), Int.emod_lt_of_pos _ (by omega)⟩;obtain ⟨K, hK⟩ : ∃ K : Int, K = (-from_) % L := ⟨_, rfl⟩;rw [← hK] at g1 g2 ⊢;have hdv : L ∣ from_ + K := by
    have h := Int.emod_add_mul_ediv (-from_) L;refine ⟨-((-from_) / L), ?_⟩;rw [Int.mul_neg];rw [← hK] at h
    omega
  have key : ∀ (k m : Nat) (i : Int), 0 ≤ i → i + k = K → k < m → ev_chime_Meet_l1 n L m i [(w, 0, 0), (p, 0, 0)] from_ = some (from_ + K, 0) := by
    intro k
    induction k with
    | zero =>
      intro m i h0 hi hm;obtain ⟨m, rfl⟩ : ∃ m', m = m' + 1 := ⟨m - 1, by omega⟩;obtain rfl : i = K := by omega
      have e1 : (from_ + i) % w = 0 := Int.emod_eq_zero_of_dvd (Int.dvd_trans (hL ▸ Int.dvd_lcm_left ..) hdv);have e2 : (from_ + i) % p = 0 := Int.emod_eq_zero_of_dvd (Int.dvd_trans (hL ▸ Int.dvd_lcm_right ..) hdv);rw [ev_chime_Meet_l1, cond_if, if_pos (decide_eq_true g2), bind_of (meet_at hw hp hf hn ⟨h0, by omega⟩), cond_if, if_pos (by simp [e1, e2]), chk_of (in64_of (by omega))]
    | succ k ih =>
      intro m i h0 hi hm;obtain ⟨m, rfl⟩ : ∃ m', m = m' + 1 := ⟨m - 1, by omega⟩;have hno : ¬ ((from_ + i) % w = 0 ∧ (from_ + i) % p = 0) := by
        rintro ⟨e1, e2⟩
        have h1 : L ∣ from_ + i := hL ▸ Int.coe_lcm_dvd (Int.dvd_of_emod_eq_zero e1) (Int.dvd_of_emod_eq_zero e2);have h2 : L ∣ (from_ + K) - (from_ + i) := Int.dvd_sub hdv h1;have := Int.le_of_dvd (by omega) h2
        omega
      rw [ev_chime_Meet_l1, cond_if, if_pos (decide_eq_true (by omega)), bind_of (meet_at hw hp hf hn ⟨h0, by omega⟩), cond_if, if_neg (by simpa using hno), chk_of (in64_of (by omega))];exact ih m (i + 1) (by omega) (by omega) (by omega)
  have hg : ((Int.gcd w p : Nat) : Int) ∣ w := Int.gcd_dvd_left ..;have hgp := gcd_pos (b := p) (show 1 ≤ w by omega);have e3 : Int.tdiv w (Int.gcd w p : Nat) = w / (Int.gcd w p : Nat) := Int.tdiv_eq_ediv_of_nonneg (by omega);have e4 : w / (Int.gcd w p : Nat) * p = L := by
    rw [hL, Int.mul_comm, Int.gcd_comm, lcm_eq (by omega) (by omega), Int.lcm_comm]
  have e5 : 0 ≤ w / (Int.gcd w p : Nat) ∧ w / (Int.gcd w p : Nat) ≤ w := ⟨Int.ediv_nonneg (by omega) (by omega), Int.ediv_le_self _ (by omega)⟩;rw [ev_chime_Meet, cond_if, if_neg (by simp), bind_of (cf_Lapi_ChimeCam_api_ChimeCam (g := fun _ => false) (fun x hx => by
    have one : ∀ a : Int, 6 ≤ a ∧ a ≤ 100 → ev_chime_Meet_1 n a 0 0 = some false := by
      intro a ha;rw [ev_chime_Meet_1, ev_chime_cam_isValid, bind_of (wi1_chime (by omega)), cond_if, if_pos (by simp; omega), chk_of (in64_of (by omega)), bind_of (wi2_chime (by omega)), cond_if, if_pos (by simp; omega)]
      rfl
    simp only [List.mem_cons, List.not_mem_nil, or_false] at hx;rcases hx with rfl | rfl
    · exact one w hw
    · exact one p hp) (by simp) (by simp; omega)), cond_if, if_neg (by simp), bind_of (wi1_chime (by omega)), cond_if, if_neg (by simp; omega)]
  obtain ⟨n', hn'⟩ : ∃ n', n = n' + 3 := ⟨n - 3, by omega⟩
  conv => lhs; rw [hn']
  rw [ev_chime_Meet_l0, ← hn', cond_if, if_pos (by simp), idx_of (x := (w, 0, 0)) (by decide) (by rfl), bind_of (ev_cgcd (by omega) (by decide) (by simp only; omega))];simp only [Int.gcd_one_left];rw [chk_of (by decide), chk_of (by decide), show Int.tdiv 1 ((1 : Nat) : Int) = 1 from rfl, Int.one_mul, chk_of (in64_of (by omega)), chk_of (by decide), ev_chime_Meet_l0, cond_if, if_pos (by simp), idx_of (x := (p, 0, 0)) (by decide) (by rfl), bind_of (ev_cgcd (by omega) (by omega) (by simp only; omega))];simp only;rw [chk_of (by simp; omega), e3, chk_of (in64_of (by omega)), e4, chk_of (in64_of (by omega)), chk_of (by decide), ev_chime_Meet_l0, cond_if, if_neg (by simp)];exact key K.toNat n 0 (by omega) (by omega) (by omega)
end
end Go.Proofs.Ytgkoldcmbcbbpaa.Sy
