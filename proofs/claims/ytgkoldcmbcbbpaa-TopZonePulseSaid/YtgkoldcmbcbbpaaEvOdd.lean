/- The minutes that come twice, or never, in a town with one change, in plain terms. -/
import Derived.Test.YtgkoldcmbcbbpaaEvZone
set_option linter.unusedSimpArgs false
set_option linter.unusedVariables false
namespace Go.Proofs.Ytgkoldcmbcbbpaa.Sy
open Go.RowKit
set_option maxRecDepth 100000

theorem ev_eras1 {n : Nat} (hn : 2 < n) {σ : Type} {yb : (Int × Int × Int) → σ → Option (Bool × σ)} {o c o2 : Int} (hc : 0 ≤ c ∧ c ≤ 10000000) {y0 y1 y2 : σ} (h1 : yb (0, c - 1, o) y0 = some (true, y1)) (h2 : yb (c, 3155760000, o2) y1 = some (true, y2)) :
    ev_zone_town_eras yb n o [(c, o2)] y0 = some y2 := by
  obtain ⟨m, rfl⟩ : ∃ m, n = m + 2 := ⟨n - 2, by omega⟩
  rw [ev_zone_town_eras, ev_zone_town_eras_l0, cond_if, if_pos (by simp), idx_of (x := (c, o2)) (by decide) (by rfl), chk_of (in64_of (by simp only; omega))]
  simp only
  rw [bind_of h1, cond_if, if_neg (by simp), chk_of (by decide), ev_zone_town_eras_l0, cond_if, if_neg (by simp), bind_of h2]
theorem ev_zdown {n : Nat} {a : Int} (ha : -100000000000 ≤ a ∧ a ≤ 100000000000) : ev_zone_down n a 60 = some (a / 60) := by
  have e : Int.tdiv (a - a % 60) 60 = a / 60 := by
    have h : a - a % 60 = a / 60 * 60 := by omega
    rw [h, Int.mul_tdiv_cancel _ (by decide)]
  rw [ev_zone_down, bind_of (ev_zmodulo (by decide)), chk_of (in64_of (by omega)), chk_of (by decide), e, chk_of (in64_of (by omega))]
theorem ev_minutes {n : Nat} {x : Int × Int × Int} (h1 : -10000000000 ≤ x.1 ∧ x.1 ≤ 10000000000) (h2 : -10000000000 ≤ x.2.1 ∧ x.2.1 ≤ 10000000000) (h3 : -50000 ≤ x.2.2 ∧ x.2.2 ≤ 50000) : ev_zone_era_minutes n x.1 x.2.1 x.2.2 = some ((x.1 + x.2.2) / 60, (x.2.1 + x.2.2) / 60) := by
  have hm : ∀ a : Int, -10000000000 ≤ a ∧ a ≤ 10000000000 → ev_zone_era_minute n x.1 x.2.1 x.2.2 a = some ((a + x.2.2) / 60) := fun a ha => by
    have hs : ev_zone_era_says n x.1 x.2.1 x.2.2 a = some (a + x.2.2) := by rw [ev_zone_era_says, chk_of (in64_of (by omega))]
    rw [ev_zone_era_minute, bind_of hs, bind_of (ev_zdown (by omega))]
  rw [ev_zone_era_minutes, bind_of (hm _ h1), bind_of (hm _ h2)]
/-- the instants of a minute in an era -/
def instP (x : Int × Int × Int) (m : Int) : Int × Int := (max x.1 (m * 60 - x.2.2), min x.2.1 (m * 60 - x.2.2 + 60 - 1))
def inEra (x : Int × Int × Int) (m : Int) : Bool := decide ((x.1 + x.2.2) / 60 ≤ m) && decide (m ≤ (x.2.1 + x.2.2) / 60)
theorem ev_means_r {n : Nat} (hn : 2 < n) {x : Int × Int × Int} (h1 : -10000000000 ≤ x.1 ∧ x.1 ≤ 10000000000) (h2 : -10000000000 ≤ x.2.1 ∧ x.2.1 ≤ 10000000000) (h3 : -50000 ≤ x.2.2 ∧ x.2.2 ≤ 50000) {m : Int} (hm : -1000000000 ≤ m ∧ m ≤ 1000000000) {y : List (Int × Int)} (hy : y.length ≤ 10) :
    loopStep (ev_zone_town_means_r0 n m) x (y, 0) = some (true, ((if inEra x m then y ++ [instP x m] else y), 0)) := by
  rw [loopStep_of (r := (0, if inEra x m then y ++ [instP x m] else y)) (by
    rw [ev_zone_town_means_r0, bind_of (ev_minutes h1 h2 h3), bind_of (wi1_zone (by omega)), cond_if]
    simp only [inEra]
    by_cases hin : (decide ((x.1 + x.2.2) / 60 ≤ m) && decide (m ≤ (x.2.1 + x.2.2) / 60)) = true
    · simp only [hin, if_true]
      have hi : ev_zone_era_instants n x.1 x.2.1 x.2.2 m = some (instP x m) := by
        rw [ev_zone_era_instants, chk_of (in64_of (by omega)), chk_of (in64_of (by omega)), chk_of (in64_of (by omega)), chk_of (in64_of (by omega))]; rfl
      rw [bind_of hi, chk_of (room_iff.2 (by simp; omega))]
    · simp only [hin, if_false, Bool.false_eq_true])]
  rfl
end Go.Proofs.Ytgkoldcmbcbbpaa.Sy
