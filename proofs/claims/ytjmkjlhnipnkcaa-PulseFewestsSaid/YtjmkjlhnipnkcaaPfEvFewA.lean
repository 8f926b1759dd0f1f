/- The reference's dial after an impulse, in plain terms. -/
import Derived.Test.YtjmkjlhnipnkcaaPfGTurretref09
import Derived.Test.YtjmkjlhnipnkcaaPfPulsePlain
import Derived.Test.YtjmkjlhnipnkcaaPfEvL
set_option linter.unusedSimpArgs false
set_option linter.unusedVariables false
namespace Go.Proofs.Ytjmkjlhnipnkcaa.Sy
open Go.RowKit
set_option maxRecDepth 100000
theorem long9_ev {n : Nat} {l1 l2 l3 t : Int} (h : (Pu.Ln.mk l1 l2 l3).ok) (ht : 0 ≤ t) : ev_ref09_Long n l1 l2 l3 t = some (Pu.isLong ⟨l1, l2, l3⟩ t) := by
  rw [ev_ref09_Long, cond_if];unfold Pu.Ln.ok at h;simp only at h
  by_cases h1 : l1 = 0
  · subst h1;rw [if_neg (by simp)];simp [Pu.isLong]
  · have h2 : l2 ≠ 0 := by omega
    rw [if_pos (by simpa using h1), chk_of (by simpa using h2), Int.tmod_eq_emod_of_nonneg ht];simp [Pu.isLong, h1]
theorem imp_step {n m : Nat} {lg : Bool} {l1 l2 l3 s k j : Int} (h : (Pu.Ln.mk l1 l2 l3).ok) (hs : 0 ≤ s ∧ s < 720) (hk : 0 ≤ k ∧ k ≤ 1000000) (hj : 0 < j ∧ j ≤ 5) :
    ev_ref09_Dial_Impulse_l0 n lg (m + 1) j s k l1 l2 l3 0 0 = ev_ref09_Dial_Impulse_l0 n lg m (j - 1) (Pu.mv ⟨l1, l2, l3⟩ lg ⟨s, k⟩).s (Pu.mv ⟨l1, l2, l3⟩ lg ⟨s, k⟩).k l1 l2 l3 0 0 := by
  unfold Pu.Ln.ok at h;simp only at h;have e1 : Int.tmod s l2 = s % l2 := Int.tmod_eq_emod_of_nonneg hs.1;have e2 : Int.tmod (s + 1) 720 = (s + 1) % 720 := Int.tmod_eq_emod_of_nonneg (by omega);rw [ev_ref09_Dial_Impulse_l0, e1, e2, cond_if, if_pos (by simpa using hj.1), cond_if];unfold Pu.mv;simp only;have hgo : (chk (in64 (s + 1)) <| chk (in64 (k + 1)) <| chk (in64 (j - 1)) <| ev_ref09_Dial_Impulse_l0 n lg m (j - 1) ((s + 1) % 720) (k + 1) l1 l2 l3 0 0) = ev_ref09_Dial_Impulse_l0 n lg m (j - 1) ((s + 1) % 720) (k + 1) l1 l2 l3 0 0 := by
    rw [chk_of (in64_of (by omega)), chk_of (in64_of (by omega)), chk_of (in64_of (by omega))]
  by_cases c1 : l1 = 2
  · rw [if_pos (by simpa using c1), cond_if];cases lg
    · rw [if_pos (by rfl), chk_of (by simp; omega), chk_of (in64_of (by omega)), cond_if]
      by_cases c2 : s % l2 = l2 - 1
      · rw [if_pos (by simpa using c2), if_pos ⟨c1, rfl, c2⟩, chk_of (in64_of (by omega))]
      · rw [if_neg (by simpa using c2), if_neg (fun e => c2 e.2.2), hgo]
    · rw [if_neg (by simp), if_neg (fun e => by simp at e), hgo]
  · rw [if_neg (by simpa using c1), if_neg (fun e => c1 e.1), hgo]
theorem imp_last {n m : Nat} {lg : Bool} {l1 l2 l3 s k : Int} (h : (Pu.Ln.mk l1 l2 l3).ok) (hs : 0 ≤ s ∧ s < 720) (hk : 0 ≤ k ∧ k ≤ 1000000) (hlg : lg = true → l1 ≠ 0) :
    ev_ref09_Dial_Impulse_l0 n lg (m + 1) 0 s k l1 l2 l3 0 0 = some (if lg = true then ((Pu.cor ⟨l1, l2, l3⟩ ⟨s, k⟩).s, (Pu.cor ⟨l1, l2, l3⟩ ⟨s, k⟩).k) else (s, k)) := by
  unfold Pu.Ln.ok at h;simp only at h;have e1 : Int.tmod s l2 = s % l2 := Int.tmod_eq_emod_of_nonneg hs.1;rw [ev_ref09_Dial_Impulse_l0, e1, cond_if, if_neg (by simp), cond_if];cases lg
  · rw [if_pos (by rfl), if_neg (by simp)]
  · have h1 := hlg rfl;rw [if_neg (by simp), if_pos rfl];have hl : 2 ≤ l2 ∧ l2 ≤ 360 ∧ 0 ≤ l3 ∧ l3 ≤ (l2 - 1) / 2 := by omega
    have m0 := Int.emod_nonneg s (show l2 ≠ 0 by omega);have m1 := Int.emod_lt_of_pos s (show 0 < l2 by omega);have m2 : s % l2 ≤ s := by
      rcases Int.lt_or_le s l2 with q | q
      · rw [Int.emod_eq_of_lt hs.1 q]; exact Int.le_refl _
      · omega
    obtain ⟨q, hq⟩ : ∃ q, q = s % l2 := ⟨_, rfl⟩;rw [chk_of (by simp; omega)];unfold Pu.cor Pu.cby
    simp only;rw [← hq] at m0 m1 m2 ⊢;have r1 : l1 = 1 ∨ l1 = 2 ∨ l1 = 3 := by omega
    rcases r1 with rfl | rfl | rfl
    · rw [cond_if, if_pos (by rfl), cond_if, if_pos rfl]
      by_cases c1 : q ≤ l3
      · rw [if_pos (by simpa using c1), chk_of (in64_of (by omega)), if_pos c1, if_pos (by omega)];simp only [Option.some.injEq, Prod.mk.injEq, and_true]; omega
      · rw [if_neg (by simpa using c1), chk_of (in64_of (by omega)), cond_if, if_neg c1]
        by_cases c2 : l2 - q ≤ l3
        · rw [if_pos (by simpa using c2), chk_of (in64_of (by omega)), chk_of (in64_of (by omega)), if_pos (by omega), Int.tmod_eq_emod_of_nonneg (by omega)];simp only [Option.some.injEq, Prod.mk.injEq, and_true]; omega
        · rw [if_neg (by simpa using c2), if_neg (by omega)]
    · rw [if_neg (show ¬ ((2 : Int) = 1) by decide), if_pos (show (2 : Int) = 2 from rfl), cond_if, if_neg (by decide), cond_if, if_pos (by rfl), cond_if]
      by_cases c0 : 0 < q
      · have e3 : (l2 - q) % l2 = l2 - q := Int.emod_eq_of_lt (by omega) (by omega);rw [if_pos (by simpa using c0), chk_of (in64_of (by omega)), cond_if, e3]
        by_cases c2 : l2 - q ≤ l3
        · rw [if_pos (by simpa using c2), chk_of (in64_of (by omega)), chk_of (in64_of (by omega)), if_pos (by omega), Int.tmod_eq_emod_of_nonneg (by omega)];simp only [Option.some.injEq, Prod.mk.injEq, and_true]; omega
        · rw [if_neg (by simpa using c2), if_neg (by omega)]
      · have e4 : (l2 - q) % l2 = 0 := by rw [show l2 - q = l2 by omega, Int.emod_self]
        rw [if_neg (by simpa using c0), e4, if_pos (by omega)];simp only [Option.some.injEq, Prod.mk.injEq, and_true]; omega
    · rw [if_neg (show ¬ ((3 : Int) = 1) by decide), if_neg (show ¬ ((3 : Int) = 2) by decide), cond_if, if_neg (by decide), cond_if, if_neg (by decide), chk_of (in64_of (by omega)), chk_of (in64_of (by omega)), cond_if]
      by_cases c1 : 0 - l3 ≤ l2 - k
      · rw [if_pos (by simpa using c1), cond_if]
        by_cases c2 : l2 - k ≤ l3
        · rw [if_pos (by simpa using c2), chk_of (in64_of (by omega)), chk_of (in64_of (by omega)), if_pos (by omega), Int.tmod_eq_emod_of_nonneg (by omega)]
        · rw [if_neg (by simpa using c2), if_neg (by omega)]
      · rw [if_neg (by simpa using c1), if_neg (by omega)]
theorem impulse_ev {n : Nat} (hn : 10 < n) {l1 l2 l3 s k t : Int} (h : (Pu.Ln.mk l1 l2 l3).ok) (ht : 0 ≤ t) (hs : 0 ≤ s ∧ s < 720) (hk : 0 ≤ k ∧ k ≤ 100000) (j : Nat) (hj : j ≤ 2) :
    ev_ref09_Dial_Impulse n s k l1 l2 l3 t (j : Int) = some ((Pu.imp ⟨l1, l2, l3⟩ t j ⟨s, k⟩).s, (Pu.imp ⟨l1, l2, l3⟩ t j ⟨s, k⟩).k) := by
  obtain ⟨m, hm⟩ : ∃ m, n = m + 1 + 1 + 1 := ⟨n - 3, by omega⟩;rw [ev_ref09_Dial_Impulse, bind_of (long9_ev h ht)];obtain ⟨lg, hlg⟩ : ∃ lg, lg = Pu.isLong ⟨l1, l2, l3⟩ t := ⟨_, rfl⟩;have hl0 : lg = true → l1 ≠ 0 := by
    intro e; rw [hlg] at e; unfold Pu.isLong at e; simp at e; exact e.1
  have key : ∀ (j : Nat) (m : Nat), j ≤ 2 → ev_ref09_Dial_Impulse_l0 n lg (m + 1 + j) (j : Int) s k l1 l2 l3 0 0 = some (if lg = true then ((Pu.cor ⟨l1, l2, l3⟩ (Pu.mvs ⟨l1, l2, l3⟩ lg j ⟨s, k⟩)).s, (Pu.cor ⟨l1, l2, l3⟩ (Pu.mvs ⟨l1, l2, l3⟩ lg j ⟨s, k⟩)).k) else ((Pu.mvs ⟨l1, l2, l3⟩ lg j ⟨s, k⟩).s, (Pu.mvs ⟨l1, l2, l3⟩ lg j ⟨s, k⟩).k)) := by
    have hok : (Pu.Dl.mk s k).ok 100000 := ⟨hs.1, hs.2, hk.1, hk.2⟩;intro j m hj;rcases (show j = 0 ∨ j = 1 ∨ j = 2 by omega) with rfl | rfl | rfl
    · exact imp_last h hs (by omega) hl0
    · have o1 := Pu.mvs_ok (l := ⟨l1, l2, l3⟩) (long := lg) hok 1;refine (imp_step (m := m + 1) h hs (by omega) (by omega)).trans ?_;exact imp_last h ⟨o1.1, o1.2.1⟩ ⟨o1.2.2.1, Int.le_trans o1.2.2.2 (by decide)⟩ hl0
    · have o1 := Pu.mvs_ok (l := ⟨l1, l2, l3⟩) (long := lg) hok 1;have o2 := Pu.mvs_ok (l := ⟨l1, l2, l3⟩) (long := lg) hok 2;refine (imp_step (m := m + 1 + 1) h hs (by omega) (by omega)).trans ?_;refine (imp_step (m := m + 1) h ⟨o1.1, o1.2.1⟩ ⟨o1.2.2.1, Int.le_trans o1.2.2.2 (by decide)⟩ (by omega)).trans ?_;exact imp_last h ⟨o2.1, o2.2.1⟩ ⟨o2.2.2.1, Int.le_trans o2.2.2.2 (by decide)⟩ hl0
  have := key j (n - 1 - j) hj;rw [show n - 1 - j + 1 + j = n by omega] at this;rw [← hlg, this];unfold Pu.imp;rw [← hlg];cases lg <;> rfl
end Go.Proofs.Ytjmkjlhnipnkcaa.Sy
