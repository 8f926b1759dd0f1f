/- Rules in small numbers, in plain terms. -/
import Derived.Test.YtglgkcfgjaoabaaEvKnown
import Derived.Test.YtglgkcfgjaoabaaEvFree
set_option linter.unusedSimpArgs false
set_option linter.unusedVariables false
namespace Go.Proofs.Ytglgkcfgjaoabaa.Sy
open Go.RowKit
set_option maxRecDepth 100000

def quietP (h : Bool) (a b : Int) : List (Int × Int) := if 0 < b % 20 then [(a % (2 * plN h), min (2 * plN h - 1) (a % (2 * plN h) + b % 20))] else []
theorem emod_2place (h : Bool) (s : Int) : 0 ≤ s % (2 * plN h) ∧ s % (2 * plN h) < 2 * plN h := by rcases plN_or h with e | e <;> rw [e] <;> omega
theorem quietP_len (h : Bool) (a b : Int) : (quietP h a b).length ≤ 1 := by unfold quietP; split <;> simp
theorem quietP_chk (h : Bool) {a b : Int} : chkP h (quietP h a b) = 0 := by
  have hm := emod_2place h a
  unfold chkP
  rw [if_neg (by have := quietP_len h a b; omega)]
  unfold quietP
  split
  · simp only [chkG]
    rw [if_neg (by omega)]
  · rfl
theorem chkP_nil (h : Bool) : chkP h [] = 0 := by unfold chkP; rfl
theorem ev_wplaces {n : Nat} {h : Bool} {a b : Int} : ev_law05_Wheel_places n h a b = some (plN h) := by rw [ev_law05_Wheel_places]; cases h <;> rfl
theorem ev_rules {n : Nat} {h : Bool} {a b : Int} (ha : 0 ≤ a ∧ a ≤ 255) (hb : 0 ≤ b ∧ b ≤ 255) : ev_law05_Wheel_rules n h a b = some (h, false, quietP h a b) := by
  have hN := plNs h
  have hm := emod_2place h a
  have e1 : Int.tmod b 20 = b % 20 := Int.tmod_eq_emod_of_nonneg hb.1
  have e2 : Int.tmod a (2 * plN h) = a % (2 * plN h) := Int.tmod_eq_emod_of_nonneg ha.1
  rw [ev_law05_Wheel_rules, chk_of (in64_of (by omega)), e1, cond_if]
  unfold quietP
  by_cases h0 : 0 < b % 20
  · rw [if_pos (decide_eq_true h0), if_pos h0, chk_of (in64_of (by omega)), bind_of ev_wplaces, chk_of (in64_of (by omega)), chk_of (by simp; omega), bind_of ev_wplaces, chk_of (in64_of (by omega)), chk_of (in64_of (by omega)), e2, chk_of (in64_of (by omega))]
  · rw [if_neg (by simpa using h0), if_neg h0]
theorem ev_silent {n : Nat} {h : Bool} {a b slot : Int} (ha : 0 ≤ a ∧ a ≤ 255) (hb : 0 ≤ b ∧ b ≤ 255) (hs : 0 ≤ slot) : ev_law05_Wheel_silent n h a b slot = some (silP (quietP h a b) (plN h) slot) := by
  have hN := plNs h
  have e2 : Int.tmod slot (2 * plN h) = slot % (2 * plN h) := Int.tmod_eq_emod_of_nonneg hs
  rw [ev_law05_Wheel_silent, bind_of (ev_rules ha hb), bind_of ev_wplaces, chk_of (in64_of (by omega)), chk_of (by simp; omega), e2, cond_if]
  simp only
  unfold quietP silP
  by_cases h0 : 0 < b % 20
  · rw [if_pos h0, if_pos (by simp), idx_of (x := (a % (2 * plN h), min (2 * plN h - 1) (a % (2 * plN h) + b % 20))) (by decide) rfl, cond_if]
    simp only [List.any_cons, List.any_nil, Bool.or_false]
    by_cases h1 : a % (2 * plN h) ≤ slot % (2 * plN h)
    · rw [if_pos (decide_eq_true h1), decide_eq_true h1, Bool.true_and]
    · rw [if_neg (by simpa using h1), decide_eq_false h1, Bool.false_and]
  · rw [if_neg h0, if_neg (by simp)]; rfl
theorem ev_wblows {n : Nat} {h : Bool} {a b p : Int} (hp : 0 ≤ p ∧ p < 100) : ev_law05_Wheel_blows n h a b p = some (atP h p) := by
  have e1 : Int.tmod p 2 = p % 2 := Int.tmod_eq_emod_of_nonneg hp.1
  have e2 : Int.tdiv p 2 = p / 2 := Int.tdiv_eq_ediv_of_nonneg hp.1
  unfold atP
  rw [ev_law05_Wheel_blows, e1, e2]
  cases h
  · simp only [cond_if, Bool.false_eq_true, if_false]
    by_cases h0 : p = 0 <;> simp [h0]
  · simp only [cond_if, if_true]
    rw [chk_of (in64_of (by omega))]
    by_cases h0 : p % 2 = 1
    · simp [h0]
    · simp only [h0, beq_iff_eq, if_false]
      by_cases h1 : p / 2 = 0 <;> simp [h1]
/-- a byte of a list, used again and again -/
theorem ev_byteOf {n : Nat} {l : List Int} (h8 : ∀ x ∈ l, 0 ≤ x ∧ x ≤ 255) {i : Int} (hi : 0 ≤ i) : ∃ b, ev_law05_byteOf n l i = some b ∧ 0 ≤ b ∧ b ≤ 255 := by
  rw [ev_law05_byteOf, cond_if]
  by_cases h0 : l.length = 0
  · rw [if_pos (by simp [h0])]; exact ⟨0, rfl, by omega, by omega⟩
  · rw [if_neg (by rw [beq_iff_eq]; omega), chk_of (by rw [bne_iff_ne]; omega), Int.tmod_eq_emod_of_nonneg hi]
    have h1 := Int.emod_nonneg i (show (l.length : Int) ≠ 0 by omega)
    have h2 := Int.emod_lt_of_pos i (show 0 < (l.length : Int) by omega)
    have hlt : (i % (l.length : Int)).toNat < l.length := by omega
    have hx := h8 _ (List.getElem_mem hlt)
    rw [idx_of h1 (List.getElem?_eq_getElem hlt), chk_of (in64_of (by omega))]
    exact ⟨_, rfl, hx⟩
end Go.Proofs.Ytglgkcfgjaoabaa.Sy
