/- The rules of a strike, and how many blows are right, in plain terms: the program's and the reference's. -/
import Derived.Test.YtglgkcfgjaoabaaSbGturretlaw05
import Derived.Test.YtglgkcfgjaoabaaSbEvPlan
set_option linter.unusedSimpArgs false
set_option linter.unusedVariables false
namespace Go.Proofs.Ytglgkcfgjaoabaa.Sy
open Go.RowKit
set_option maxRecDepth 100000
def chkG (M : Int) : List (Int × Int) → Int → Int
  | [], _ => 0
  | s :: l, a => if s.2 < s.1 ∨ s.1 < a ∨ M ≤ s.2 then 2 else chkG M l (s.2 + 1)
def chkP (h : Bool) (q : List (Int × Int)) : Int := if 8 < q.length then 5 else chkG (2 * plN h) q 0
theorem chkP_len {h : Bool} {q : List (Int × Int)} (hc : chkP h q = 0) : q.length ≤ 8 := by
  unfold chkP at hc
  split at hc
  · cases hc
  · omega
theorem plNs (h : Bool) : 12 ≤ plN h ∧ plN h ≤ 24 := by rcases plN_or h with e | e <;> omega
theorem ev_placesP {n : Nat} {h rack : Bool} {q : List (Int × Int)} : ev_strike_places n h rack q = some (plN h) := by rw [ev_strike_places]; cases h <;> rfl
theorem ev_CheckP {n : Nat} (hn : 30 < n) {h rack : Bool} {q : List (Int × Int)} (hq : q.length ≤ 20) : ev_strike_Check n h rack q = some (chkP h q) := by
  have hN := plNs h;have key : ∀ (k m i : Nat) (a : Int), i + k = q.length → k < m → 0 ≤ a → a ≤ 100 → ev_strike_Check_l0 n q m a (i : Int) h rack q = some (chkG (2 * plN h) (q.drop i) a) := by
    intro k
    induction k with
    | zero =>
      intro m i a hi hm ha ha2
      cases m with
      | zero => omega
      | succ m => rw [ev_strike_Check_l0, cond_if, if_neg (by simp; omega), List.drop_eq_nil_of_le (by omega)]; rfl
    | succ k ih =>
      intro m i a hi hm ha ha2
      cases m with
      | zero => omega
      | succ m =>
        have hlt : i < q.length := by omega
        obtain ⟨x, hx⟩ : ∃ x, x = q[i] := ⟨_, rfl⟩;rw [ev_strike_Check_l0, cond_if, if_pos (decide_eq_true (by omega)), idx_nat (List.getElem?_eq_getElem hlt), List.drop_eq_getElem_cons hlt, ← hx, cond_if];simp only [chkG]
        by_cases h1 : x.2 < x.1
        · rw [if_pos (by simpa using h1), if_pos (.inl h1)]
        · rw [if_neg (by simpa using h1), bind_of ev_placesP, chk_of (in64_of (by omega)), chk_of (in64_of (by omega)), bind_of (wi2_strike (by omega)), cond_if]
          by_cases h2 : x.1 < a ∨ 2 * plN h ≤ x.2
          · rw [if_pos (by simp; omega), if_pos (by omega)]
          · rw [if_neg (by simp; omega), if_neg (by omega), chk_of (in64_of (by omega)), chk_of (in64_of (by omega))];exact ih m (i + 1) (x.2 + 1) (by omega) (by omega) (by omega) (by omega)
  rw [ev_strike_Check, cond_if];unfold chkP
  by_cases h8 : 8 < q.length
  · rw [if_pos (decide_eq_true (by omega)), if_pos h8]
  · rw [if_neg (fun h => h8 (by have := of_decide_eq_true h; omega)), if_neg h8];exact key q.length n 0 0 (by omega) (by omega) (by omega) (by omega)
theorem ev_openP {n : Nat} (hn : 30 < n) {h rack : Bool} {q : List (Int × Int)} (hq : q.length ≤ 20) : ev_strike_open n h rack q = some (h, rack, q, plN h, chkP h q) := by
  rw [ev_strike_open, bind_of ev_placesP, bind_of (ev_CheckP hn hq)]
theorem ev_isSlotP {n : Nat} (hn : 5 < n) {slot : Int} : ev_strike_isSlot n slot = some (decide (0 ≤ slot ∧ slot ≤ 2000000)) := by
  rw [ev_strike_isSlot, bind_of (wi1_strike (by omega))]; congr 1;rw [Bool.eq_iff_iff]; simp
theorem ev_refN {n : Nat} {h rack : Bool} {q : List (Int × Int)} : ev_ref05_N n h rack q = some (plN h) := by rw [ev_ref05_N]; cases h <;> rfl
theorem ev_refCheck {n : Nat} (hn : 30 < n) {h rack : Bool} {q : List (Int × Int)} (hq : q.length ≤ 20) : ev_ref05_Check n h rack q = some (chkP h q) := by
  have hN := plNs h;have key : ∀ (k m i : Nat) (a : Int), i + k = q.length → k < m → (i = 0 ∧ a = 0 ∨ ∃ j, i = j + 1 ∧ ∃ y : Int × Int, q[j]? = some y ∧ a = y.2 + 1 ∧ 0 ≤ y.2) → ev_ref05_Check_l0 n m (i : Int) h rack q = some (chkG (2 * plN h) (q.drop i) a) := by
    intro k
    induction k with
    | zero =>
      intro m i a hi hm ha
      cases m with
      | zero => omega
      | succ m => rw [ev_ref05_Check_l0, cond_if, if_neg (by simp; omega), List.drop_eq_nil_of_le (by omega)]; rfl
    | succ k ih =>
      intro m i a hi hm ha
      cases m with
      | zero => omega
      | succ m =>
        have hlt : i < q.length := by omega
        obtain ⟨x, hx⟩ : ∃ x, x = q[i] := ⟨_, rfl⟩;have hget : q[i]? = some x := by rw [hx, List.getElem?_eq_getElem hlt]
        have ha0 : 0 ≤ a := by rcases ha with ⟨_, h⟩ | ⟨j, _, y, _, h, h'⟩ <;> omega
        rw [ev_ref05_Check_l0, cond_if, if_pos (decide_eq_true (by omega)), idx_nat hget, List.drop_eq_getElem_cons hlt, ← hx, cond_if];simp only [chkG]
        by_cases h1 : x.1 < 0
        · rw [if_pos (by simpa using h1), if_pos (by omega)]
        · rw [if_neg (by simpa using h1), cond_if]
          by_cases h2 : x.2 < x.1
          · rw [if_pos (by simpa using h2), if_pos (by omega)]
          · rw [if_neg (by simpa using h2), bind_of ev_refN, chk_of (in64_of (by omega)), cond_if]
            by_cases h3 : 2 * plN h ≤ x.2
            · rw [if_pos (by simpa using h3), if_pos (by omega)]
            · rw [if_neg (by simpa using h3), cond_if];rcases ha with ⟨hi0, ha⟩ | ⟨j, hj, y, hy, hay, hy0⟩
              · subst hi0;rw [if_neg (by simp), if_neg (by omega), chk_of (in64_of (by omega))];exact ih m 1 (x.2 + 1) (by omega) (by omega) (.inr ⟨0, rfl, x, hget, rfl, by omega⟩)
              · have e : ((i : Int) - 1) = (j : Int) := by omega
                rw [if_pos (decide_eq_true (by omega)), chk_of (in64_of (by omega)), e, idx_nat hy, cond_if]
                by_cases h4 : x.1 ≤ y.2
                · rw [if_pos (by simpa using h4), if_pos (by omega)]
                · rw [if_neg (by simpa using h4), if_neg (by omega), chk_of (in64_of (by omega))];exact ih m (i + 1) (x.2 + 1) (by omega) (by omega) (.inr ⟨i, rfl, x, hget, rfl, by omega⟩)
  rw [ev_ref05_Check, cond_if];unfold chkP
  by_cases h8 : 8 < q.length
  · rw [if_pos (decide_eq_true (by omega)), if_pos h8]
  · rw [if_neg (fun h => h8 (by have := of_decide_eq_true h; omega)), if_neg h8];exact key q.length n 0 0 (by omega) (by omega) (.inl ⟨rfl, rfl⟩)
theorem ev_refSilent {n : Nat} (hn : 30 < n) {h rack : Bool} {q : List (Int × Int)} (hq : q.length ≤ 20) {slot : Int} (hs : 0 ≤ slot) : ev_ref05_Silent n h rack q slot = some (silP q (plN h) slot) := by
  have hN := plNs h;have et : Int.tmod slot (2 * plN h) = slot % (2 * plN h) := Int.tmod_eq_emod_of_nonneg hs;have key : ∀ (k m i : Nat), i + k = q.length → k < m → ev_ref05_Silent_l0 n q slot (plN h) m (i : Int) = some ((q.drop i).any fun s => decide (s.1 ≤ slot % (2 * plN h)) && decide (slot % (2 * plN h) ≤ s.2)) := by
    intro k
    induction k with
    | zero =>
      intro m i hi hm
      cases m with
      | zero => omega
      | succ m => rw [ev_ref05_Silent_l0, cond_if, if_neg (by simp; omega), List.drop_eq_nil_of_le (by omega)]; rfl
    | succ k ih =>
      intro m i hi hm
      cases m with
      | zero => omega
      | succ m =>
        have hlt : i < q.length := by omega
        have nx : chk (in64 ((i : Int) + 1)) (ev_ref05_Silent_l0 n q slot (plN h) m ((i : Int) + 1)) = some ((q.drop (i + 1)).any fun s => decide (s.1 ≤ slot % (2 * plN h)) && decide (slot % (2 * plN h) ≤ s.2)) := by
          rw [chk_of (in64_of (by omega))];exact ih m (i + 1) (by omega) (by omega)
        rw [ev_ref05_Silent_l0, cond_if, if_pos (decide_eq_true (by omega)), idx_nat (List.getElem?_eq_getElem hlt), et, List.drop_eq_getElem_cons hlt, List.any_cons, cond_if, cond_if]
        by_cases h1 : q[i].1 ≤ slot % (2 * plN h)
        · rw [if_pos (decide_eq_true h1)]
          by_cases h2 : slot % (2 * plN h) ≤ q[i].2
          · rw [if_pos (decide_eq_true h2)]; simp [h1, h2]
          · rw [if_neg (by simpa using h2), nx]; simp [h2]
        · rw [if_neg (by simpa using h1), nx]; simp [h1]
  rw [ev_ref05_Silent, bind_of ev_refN, chk_of (in64_of (by omega)), chk_of (by simp; omega)];exact key q.length n 0 (by omega) (by omega)
theorem ev_refB {n : Nat} {h rack : Bool} {q : List (Int × Int)} {p : Int} (hp : 0 ≤ p ∧ p < 100) : ev_ref05_B n h rack q p = some (atP h p) := by
  have e1 : Int.tmod p 2 = p % 2 := Int.tmod_eq_emod_of_nonneg hp.1;have e2 : Int.tdiv p 2 = p / 2 := Int.tdiv_eq_ediv_of_nonneg hp.1;unfold atP;rw [ev_ref05_B, e1, e2];cases h
  · simp only [cond_if, Bool.false_eq_true, if_false]
    by_cases h0 : p = 0 <;> simp [h0]
  · simp only [cond_if, if_true];rw [chk_of (in64_of (by omega))]
    by_cases h0 : p % 2 = 1
    · simp [h0]
    · simp only [h0, beq_iff_eq, if_false]
      by_cases h1 : p / 2 = 0 <;> simp [h1]
theorem ev_refSlot {n : Nat} {slot : Int} : ev_ref05_Slot n slot = some (decide (0 ≤ slot ∧ slot ≤ 2000000)) := by
  rw [ev_ref05_Slot, cond_if]
  by_cases h : 0 ≤ slot <;> simp [h]
theorem ev_copied {n : Nat} {h rack : Bool} {q : List (Int × Int)} (hq : q.length ≤ 1000) : ev_law05_copied n h rack q = some (h, rack, q) := by
  rw [ev_law05_copied, chk_of (room_iff.2 (by simp; omega)), List.nil_append]
theorem ev_refEqual {n : Nat} {q : List (Int × Bool)} (hn : q.length < n) (hq : q.length ≤ 1000) : ev_ref05_Equal n q q = some true := by
  have key : ∀ (k m i : Nat), i + k = q.length → k < m → ev_ref05_Equal_l0 n q q m (i : Int) = some true := by
    intro k
    induction k with
    | zero =>
      intro m i hi hm
      cases m with
      | zero => omega
      | succ m => rw [ev_ref05_Equal_l0, cond_if, if_neg (by simp; omega)]
    | succ k ih =>
      intro m i hi hm
      cases m with
      | zero => omega
      | succ m =>
        have hlt : i < q.length := by omega
        rw [ev_ref05_Equal_l0, cond_if, if_pos (decide_eq_true (by omega)), idx_nat (List.getElem?_eq_getElem hlt), idx_nat (List.getElem?_eq_getElem hlt), cond_if, if_neg (by simp), chk_of (in64_of (by omega))];exact ih m (i + 1) (by omega) (by omega)
  rw [ev_ref05_Equal, cond_if, if_neg (by simp)];exact key q.length n 0 (by omega) hn
end Go.Proofs.Ytglgkcfgjaoabaa.Sy
