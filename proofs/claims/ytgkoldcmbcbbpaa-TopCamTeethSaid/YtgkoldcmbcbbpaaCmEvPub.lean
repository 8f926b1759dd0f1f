/- Small helpers of the statements, in plain terms. -/
import Derived.Test.YtgkoldcmbcbbpaaCmGLib
import Derived.Test.YtgkoldcmbcbbpaaCmEvL
set_option linter.unusedSimpArgs false
set_option linter.unusedVariables false
namespace Go.Proofs.Ytgkoldcmbcbbpaa.Sy
open Go.RowKit
set_option maxRecDepth 100000
theorem rest_emod {a b : Int} (hb : 1 ≤ b) : 0 ≤ Int.tmod a b + b ∧ Int.tmod a b + b ≤ 2 * b ∧ Int.tmod (Int.tmod a b + b) b = a % b := by
  have h1 := Int.tmod_lt_of_pos a (show 0 < b by omega);have h2 : -b < Int.tmod a b := by
    have := Int.tmod_lt_of_pos (-a) (show 0 < b by omega);rw [Int.neg_tmod] at this; omega
  have h3 : a % b = (Int.tmod a b + b) % b := by
    rw [Int.add_emod_right, show Int.tmod a b = a - b * Int.tdiv a b by have := Int.mul_tdiv_add_tmod a b; omega, Int.sub_mul_emod_self_left]
  exact ⟨by omega, by omega, by rw [Int.tmod_eq_emod_of_nonneg (by omega), ← h3]⟩
theorem pubRest_evp {n : Nat} {a b : Int} (hb : 1 ≤ b ∧ b ≤ 1000000000000000000) : ev_top_pubRest n a b = some (a % b) := by
  obtain ⟨h1, h2, h3⟩ := rest_emod (a := a) hb.1;rw [ev_top_pubRest, chk_of (by simp; omega), chk_of (in64_of (by omega)), chk_of (by simp; omega), h3]
theorem pubDown_evp {n : Nat} {a b : Int} (ha : -1000000000000000000 ≤ a ∧ a ≤ 1000000000000000000) (hb : 1 ≤ b ∧ b ≤ 1000000000000000000) : ev_top_pubDown n a b = some (a / b) := by
  have h0 := Int.emod_nonneg a (show b ≠ 0 by omega);have h1 := Int.emod_lt_of_pos a (show 0 < b by omega);have e : a - a % b = a / b * b := by have := Int.mul_ediv_add_emod a b; rw [Int.mul_comm] at this; omega
  have et : Int.tdiv (a - a % b) b = a / b := by rw [e, Int.mul_tdiv_cancel _ (by omega)]
  have hr : -1000000000000000000 ≤ a / b ∧ a / b ≤ 1000000000000000000 := by
    rw [Int.le_ediv_iff_mul_le (by omega)]
    constructor
    · have : (-1000000000000000000 : Int) * b ≤ -1000000000000000000 := by omega
      omega
    · have := Int.ediv_le_ediv (show 0 < b by omega) ha.2;have h5 := Int.ediv_le_self (a := 1000000000000000000) b (by decide)
      omega
  rw [ev_top_pubDown, bind_of (pubRest_evp hb), chk_of (in64_of (by omega)), chk_of (by simp; omega), et, chk_of (in64_of (by omega))]
theorem pubUp_evp {n : Nat} {a b : Int} (ha : -1000000000000000000 ≤ a ∧ a ≤ 1000000000000000000) (hb : 1 ≤ b ∧ b ≤ 1000000000000000000) : ev_top_pubUp n a b = some (-((-a) / b)) := by
  have e : 0 - a = -a := by omega
  have hr : -1000000000000000000 ≤ (-a) / b ∧ (-a) / b ≤ 1000000000000000000 := by
    rw [Int.le_ediv_iff_mul_le (by omega)]
    constructor
    · have : (-1000000000000000000 : Int) * b ≤ -1000000000000000000 := by omega
      omega
    · have := Int.ediv_le_ediv (show 0 < b by omega) (show -a ≤ 1000000000000000000 by omega);have h5 := Int.ediv_le_self (a := 1000000000000000000) b (by decide)
      omega
  rw [ev_top_pubUp, chk_of (in64_of (by omega)), e, bind_of (pubDown_evp (by omega) hb), chk_of (in64_of (by omega))]
  congr 1; omega
end Go.Proofs.Ytgkoldcmbcbbpaa.Sy
