/- A rack with a silence: its blows, hour by hour. -/
import Derived.Test.YtgkoldcmbcbbpaaGStrike
import Derived.Test.YtgkoldcmbcbbpaaEvL
set_option linter.unusedSimpArgs false
set_option linter.unusedVariables false
namespace Go.Proofs.Ytgkoldcmbcbbpaa.Sy
open Go.RowKit
set_option maxRecDepth 100000

/-- the silence of a rack -/
def quietP (a b : Nat) : List (Int × Int) := if b % 3 = 0 then [] else [((a : Int), min (23 : Int) ((a : Int) + (b : Int)))]
theorem armQuiet_ev {n : Nat} {x y : Int} (hx : 0 ≤ x ∧ x ≤ 255) (hy : 0 ≤ y ∧ y ≤ 255) : ev_top_armQuiet n x y = some (false, true, quietP (x.toNat % 24) (y.toNat % 9)) := by
  have e1 : Int.tmod x 24 = ((x.toNat % 24 : Nat) : Int) := by rw [Int.tmod_eq_emod_of_nonneg hx.1]; omega
  have e2 : Int.tmod y 9 = ((y.toNat % 9 : Nat) : Int) := by rw [Int.tmod_eq_emod_of_nonneg hy.1]; omega
  have e3 : Int.tmod y 3 = ((y.toNat % 9 % 3 : Nat) : Int) := by rw [Int.tmod_eq_emod_of_nonneg hy.1]; omega
  rw [ev_top_armQuiet, cond_if, e3]
  by_cases h : y.toNat % 9 % 3 = 0
  · rw [if_neg (by simp [h]), quietP, if_pos h]
  · rw [if_pos (by simp; omega), chk_of (in64_of (by omega)), chk_of (in64_of (by omega)), e1, e2, chk_of (in64_of (by omega))]
    rw [bind_of (show ev_top_pubSpan n ((x.toNat % 24 : Nat) : Int) (min (23 : Int) (((x.toNat % 24 : Nat) : Int) + ((y.toNat % 9 : Nat) : Int))) = _ from rfl), quietP, if_neg h]
/-- the blows of each hour, and of the day -/
def armB (a b : Nat) : Option (List Int × Int) := (ev_top_armBlows 2200 false true (quietP a b)).bind fun r => (ev_strike_Day 2200 false true (quietP a b)).bind fun d => if r.2 ∧ d.2 = 0 then some (r.1, d.1) else none
def armOk (a b : Nat) : Bool := match armB a b with
  | some (l, d) => l.length == 24 && l.all (fun x => decide (0 ≤ x) && decide (x ≤ 12)) && d == l.sum && decide (0 < d)
  | none => false
theorem arm_all : ∀ a : Fin 24, ∀ b : Fin 9, armOk a.1 b.1 = true := by decide +kernel
theorem arm_of {a b : Nat} (ha : a < 24) (hb : b < 9) : ∃ l : List Int, ev_top_armBlows 2200 false true (quietP a b) = some (l, true) ∧ ev_strike_Day 2200 false true (quietP a b) = some (l.sum, 0) ∧ l.length = 24 ∧ (∀ x ∈ l, 0 ≤ x ∧ x ≤ 12) ∧ 0 < l.sum := by
  have h := arm_all ⟨a, ha⟩ ⟨b, hb⟩
  simp only [armOk] at h
  split at h
  · rename_i l d he
    simp only [armB] at he
    obtain ⟨r, h1, he⟩ := bind_inv he
    obtain ⟨d', h2, he⟩ := bind_inv he
    split at he
    · rename_i hc
      cases he
      simp only [Bool.and_eq_true, beq_iff_eq, decide_eq_true_eq, List.all_eq_true] at h
      obtain ⟨⟨⟨q1, q2⟩, q3⟩, q4⟩ := h
      refine ⟨r.1, by rw [h1, ← hc.1], by rw [h2, ← q3, ← hc.2], q1, q2, by rw [← q3]; exact q4⟩
    · cases he
  · cases h
end Go.Proofs.Ytgkoldcmbcbbpaa.Sy
