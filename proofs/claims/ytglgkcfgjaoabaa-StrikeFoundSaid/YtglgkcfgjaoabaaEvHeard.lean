/- The error of what was heard, in plain terms: the program's and the reference's. -/
import Derived.Test.YtglgkcfgjaoabaaEvKnown
set_option linter.unusedSimpArgs false
set_option linter.unusedVariables false
namespace Go.Proofs.Ytglgkcfgjaoabaa.Sy
open Go.RowKit
set_option maxRecDepth 100000

def okX (x : Int × Int) : Prop := (0 ≤ x.1 ∧ x.1 ≤ 2000000) ∧ (0 ≤ x.2 ∧ x.2 ≤ 12)
instance (x : Int × Int) : Decidable (okX x) := inferInstanceAs (Decidable (_ ∧ _))
def okPr (pr : Option Int) (x : Int × Int) : Prop := ∀ y, pr = some y → y < x.1
/-- whether what was heard is valid, one by one -/
def hearG : List (Int × Int) → Option Int → Bool
  | [], _ => true
  | x :: l, pr => decide (okX x) && (match pr with | none => true | some y => decide (y < x.1)) && hearG l (some x.1)
def spanP (l : List (Int × Int)) : Int := match l[l.length - 1]?, l[0]? with
  | some b, some a => b.1 - a.1
  | _, _ => 0
def resE : Bool → Int → Int
  | true, s => if 2000 ≤ s then 5 else 0
  | false, _ => 2
def hearE (l : List (Int × Int)) : Int := if l.length = 0 then 7 else if 200 < l.length then 5 else resE (hearG l none) (spanP l)
theorem hearG_spec : ∀ (l : List (Int × Int)) (pr : Option Int), hearG l pr = true → (∀ x ∈ l, okX x) ∧ l.Pairwise (fun a b => a.1 < b.1) ∧ ∀ y, pr = some y → ∀ x ∈ l, y < x.1 := by
  intro l
  induction l with
  | nil => intro pr _; exact ⟨by simp, List.Pairwise.nil, by simp⟩
  | cons x l ih =>
    intro pr h
    simp only [hearG, Bool.and_eq_true, decide_eq_true_eq] at h
    obtain ⟨⟨h1, h2⟩, h3⟩ := h
    obtain ⟨i1, i2, i3⟩ := ih _ h3
    have i4 := i3 x.1 rfl
    refine ⟨fun z hz => ?_, List.pairwise_cons.2 ⟨i4, i2⟩, fun y hy z hz => ?_⟩
    · rcases List.mem_cons.1 hz with rfl | hz
      · exact h1
      · exact i1 z hz
    · subst hy
      have h2 := of_decide_eq_true h2
      rcases List.mem_cons.1 hz with rfl | hz
      · exact h2
      · have := i4 z hz; omega
theorem okHd_of {l : List (Int × Int)} (h : hearE l = 0) : OkHd l := by
  unfold hearE at h
  split at h
  · cases h
  · split at h
    · cases h
    · rename_i h1 h2
      cases h3 : hearG l none with
      | true =>
        rw [h3] at h
        simp only [resE] at h
        split at h
        · cases h
        · rename_i h4
          obtain ⟨g1, g2, _⟩ := hearG_spec l none h3
          refine ⟨by omega, g1, g2, fun a b ha hb => ?_⟩
          unfold spanP at h4
          rw [ha, hb] at h4
          simp only at h4
          omega
      | false => rw [h3] at h; cases h
section
variable {l : List (Int × Int)} (hl : 1 ≤ l.length ∧ l.length ≤ 200)
include hl
/-- the last check -/
theorem span_of (hv : ∀ (j : Nat) (x : Int × Int), j < l.length → l[j]? = some x → okX x) : ∃ a b, l[0]? = some a ∧ l[l.length - 1]? = some b ∧ okX a ∧ okX b ∧ spanP l = b.1 - a.1 := by
  have h0 : l[0]? = some l[0] := List.getElem?_eq_getElem (by omega)
  have h1 : l[l.length - 1]? = some l[l.length - 1] := List.getElem?_eq_getElem (by omega)
  refine ⟨_, _, h0, h1, hv 0 _ (by omega) h0, hv _ _ (by omega) h1, ?_⟩
  unfold spanP
  rw [h0, h1]
def prI (l : List (Int × Int)) (i : Nat) : Option Int := if i = 0 then none else (l[i - 1]?).map (·.1)
omit hl in
theorem prI_succ {i : Nat} {x : Int × Int} (h : l[i]? = some x) : prI l (i + 1) = some x.1 := by
  unfold prI
  rw [if_neg (by omega), Nat.add_sub_cancel, h]; rfl
theorem ev_heardL {n : Nat} (hn : 300 < n) : ∀ (k m i : Nat), i + k = l.length → k < m → (∀ (j : Nat) (x : Int × Int), j < i → l[j]? = some x → okX x) →
    ev_strike_checkHeard_l0 n l m (i : Int) l = some (resE (hearG (l.drop i) (prI l i)) (spanP l)) := by
  intro k
  induction k with
  | zero =>
    intro m i hi hm hv
    cases m with
    | zero => omega
    | succ m =>
      have : i = l.length := by omega
      subst this
      obtain ⟨a, b, h0, h1, oa, ob, hs⟩ := span_of hl hv
      unfold okX at oa ob
      have et : ((l.length : Int) - 1).toNat = l.length - 1 := by omega
      rw [ev_strike_checkHeard_l0, cond_if, if_neg (by simp), chk_of (in64_of (by omega)), idx_of (x := b) (by omega) (by rw [et]; exact h1), idx_of (x := a) (by decide) h0, chk_of (in64_of (by omega)), cond_if, List.drop_length, show hearG [] (prI l l.length) = true from rfl, hs]
      simp only [resE]
      by_cases h : 2000 ≤ b.1 - a.1
      · rw [if_pos (decide_eq_true h), if_pos h]
      · rw [if_neg (by simpa using h), if_neg h]
  | succ k ih =>
    intro m i hi hm hv
    cases m with
    | zero => omega
    | succ m =>
      have hlt : i < l.length := by omega
      obtain ⟨x, hx⟩ : ∃ x, x = l[i] := ⟨_, rfl⟩
      have hget : l[i]? = some x := by rw [hx, List.getElem?_eq_getElem hlt]
      rw [ev_strike_checkHeard_l0, cond_if, if_pos (decide_eq_true (by omega)), idx_nat hget, bind_of (ev_isSlotP (by omega)), cond_if, List.drop_eq_getElem_cons hlt, ← hx]
      simp only [hearG]
      by_cases h1 : 0 ≤ x.1 ∧ x.1 ≤ 2000000
      · rw [if_neg (by rw [decide_eq_true h1]; simp), bind_of (wi1_strike (by omega)), cond_if]
        by_cases h2 : 0 ≤ x.2 ∧ x.2 ≤ 12
        · have ho : okX x := ⟨h1, h2⟩
          have nx : chk (in64 ((i : Int) + 1)) (ev_strike_checkHeard_l0 n l m ((i : Int) + 1) l) = some (resE (hearG (l.drop (i + 1)) (some x.1)) (spanP l)) := by
            rw [chk_of (in64_of (by omega)), ← prI_succ hget]
            exact ih m (i + 1) (by omega) (by omega) fun j y hj hy => by
              rcases Nat.lt_or_ge j i with h | h
              · exact hv j y h hy
              · have : j = i := by omega
                subst this; rw [hget] at hy; cases hy; exact ho
          rw [if_neg (by simp; omega), decide_eq_true ho, Bool.true_and, cond_if]
          by_cases hi0 : i = 0
          · subst hi0
            rw [if_neg (by simp), nx]; rfl
          · have hlt2 : i - 1 < l.length := by omega
            obtain ⟨y, hy⟩ : ∃ y, y = l[i - 1] := ⟨_, rfl⟩
            have hgy : l[i - 1]? = some y := by rw [hy, List.getElem?_eq_getElem hlt2]
            have et : ((i : Int) - 1) = ((i - 1 : Nat) : Int) := by omega
            have hpr : prI l i = some y.1 := by unfold prI; rw [if_neg hi0, hgy]; rfl
            rw [if_pos (decide_eq_true (by omega)), chk_of (in64_of (by omega)), et, idx_nat hgy, cond_if, hpr]
            simp only
            by_cases h3 : x.1 ≤ y.1
            · rw [if_pos (decide_eq_true h3), decide_eq_false (show ¬ y.1 < x.1 by omega), Bool.false_and]; rfl
            · rw [if_neg (by simpa using h3), nx, decide_eq_true (show y.1 < x.1 by omega), Bool.true_and]
        · rw [if_pos (by simp; omega), decide_eq_false (show ¬ okX x from fun h => h2 h.2), Bool.false_and, Bool.false_and]; rfl
      · rw [if_pos (by rw [decide_eq_false h1]; rfl), decide_eq_false (show ¬ okX x from fun h => h1 h.1), Bool.false_and, Bool.false_and]; rfl
theorem ev_refHeardL {n : Nat} (hn : 300 < n) : ∀ (k m i : Nat), i + k = l.length → k < m → (∀ (j : Nat) (x : Int × Int), j < i → l[j]? = some x → okX x) →
    ev_ref05_Heard_l0 n l m (i : Int) = some (resE (hearG (l.drop i) (prI l i)) (spanP l)) := by
  intro k
  induction k with
  | zero =>
    intro m i hi hm hv
    cases m with
    | zero => omega
    | succ m =>
      have : i = l.length := by omega
      subst this
      obtain ⟨a, b, h0, h1, oa, ob, hs⟩ := span_of hl hv
      unfold okX at oa ob
      have et : ((l.length : Int) - 1).toNat = l.length - 1 := by omega
      rw [ev_ref05_Heard_l0, cond_if, if_neg (by simp), chk_of (in64_of (by omega)), idx_of (x := b) (by omega) (by rw [et]; exact h1), idx_of (x := a) (by decide) h0, chk_of (in64_of (by omega)), chk_of (in64_of (by omega)), cond_if, List.drop_length, show hearG [] (prI l l.length) = true from rfl, hs]
      simp only [resE]
      by_cases h : 2000 ≤ b.1 - a.1
      · rw [if_pos (decide_eq_true (by omega)), if_pos h]
      · rw [if_neg (fun h' => h (by have := of_decide_eq_true h'; omega)), if_neg h]
  | succ k ih =>
    intro m i hi hm hv
    cases m with
    | zero => omega
    | succ m =>
      have hlt : i < l.length := by omega
      obtain ⟨x, hx⟩ : ∃ x, x = l[i] := ⟨_, rfl⟩
      have hget : l[i]? = some x := by rw [hx, List.getElem?_eq_getElem hlt]
      rw [ev_ref05_Heard_l0, cond_if, if_pos (decide_eq_true (by omega)), idx_nat hget, bind_of ev_refSlot, cond_if, List.drop_eq_getElem_cons hlt, ← hx]
      simp only [hearG]
      by_cases h1 : 0 ≤ x.1 ∧ x.1 ≤ 2000000
      · rw [if_neg (by rw [decide_eq_true h1]; simp), cond_if]
        by_cases h2 : x.2 < 0
        · rw [if_pos (decide_eq_true h2), decide_eq_false (show ¬ okX x from fun h => by have := h.2; omega), Bool.false_and, Bool.false_and]; rfl
        · rw [if_neg (by simpa using h2), cond_if]
          by_cases h2' : 12 < x.2
          · rw [if_pos (decide_eq_true h2'), decide_eq_false (show ¬ okX x from fun h => by have := h.2; omega), Bool.false_and, Bool.false_and]; rfl
          · have ho : okX x := ⟨h1, by omega⟩
            have nx : chk (in64 ((i : Int) + 1)) (ev_ref05_Heard_l0 n l m ((i : Int) + 1)) = some (resE (hearG (l.drop (i + 1)) (some x.1)) (spanP l)) := by
              rw [chk_of (in64_of (by omega)), ← prI_succ hget]
              exact ih m (i + 1) (by omega) (by omega) fun j y hj hy => by
                rcases Nat.lt_or_ge j i with h | h
                · exact hv j y h hy
                · have : j = i := by omega
                  subst this; rw [hget] at hy; cases hy; exact ho
            rw [if_neg (by simpa using h2'), decide_eq_true ho, Bool.true_and, cond_if]
            by_cases hi0 : i = 0
            · subst hi0
              rw [if_neg (by simp), nx]; rfl
            · have hlt2 : i - 1 < l.length := by omega
              obtain ⟨y, hy⟩ : ∃ y, y = l[i - 1] := ⟨_, rfl⟩
              have hgy : l[i - 1]? = some y := by rw [hy, List.getElem?_eq_getElem hlt2]
              have et : ((i : Int) - 1) = ((i - 1 : Nat) : Int) := by omega
              have hpr : prI l i = some y.1 := by unfold prI; rw [if_neg hi0, hgy]; rfl
              rw [if_pos (decide_eq_true (by omega)), chk_of (in64_of (by omega)), et, idx_nat hgy, cond_if, hpr]
              simp only
              by_cases h3 : x.1 ≤ y.1
              · rw [if_pos (decide_eq_true h3), decide_eq_false (show ¬ y.1 < x.1 by omega), Bool.false_and]; rfl
              · rw [if_neg (by simpa using h3), nx, decide_eq_true (show y.1 < x.1 by omega), Bool.true_and]
      · rw [if_pos (by rw [decide_eq_false h1]; rfl), decide_eq_false (show ¬ okX x from fun h => h1 h.1), Bool.false_and, Bool.false_and]; rfl
end
theorem ev_heardP {n : Nat} (hn : 300 < n) (l : List (Int × Int)) : ev_strike_checkHeard n l = some (hearE l) := by
  rw [ev_strike_checkHeard, cond_if]
  unfold hearE
  by_cases h0 : l.length = 0
  · rw [if_pos (by simp [h0]), if_pos h0]
  · rw [if_neg (by rw [beq_iff_eq]; omega), if_neg h0, cond_if]
    by_cases h1 : 200 < l.length
    · rw [if_pos (decide_eq_true (by omega)), if_pos h1]
    · rw [if_neg (fun h => h1 (by have := of_decide_eq_true h; omega)), if_neg h1]
      exact ev_heardL (by omega) hn l.length n 0 (by omega) (by omega) (fun j x hj => by omega)
theorem ev_refHeard {n : Nat} (hn : 300 < n) (l : List (Int × Int)) : ev_ref05_Heard n l = some (hearE l) := by
  rw [ev_ref05_Heard, cond_if]
  unfold hearE
  by_cases h0 : l.length = 0
  · rw [if_pos (by simp [h0]), if_pos h0]
  · rw [if_neg (by rw [beq_iff_eq]; omega), if_neg h0, cond_if]
    by_cases h1 : 200 < l.length
    · rw [if_pos (decide_eq_true (by omega)), if_pos h1]
    · rw [if_neg (fun h => h1 (by have := of_decide_eq_true h; omega)), if_neg h1]
      exact ev_refHeardL (by omega) hn l.length n 0 (by omega) (by omega) (fun j x hj => by omega)
/-- what cannot be told -/
theorem ev_MissesE {n : Nat} (hn : 300 < n) {h rack : Bool} {q : List (Int × Int)} (hq : q.length ≤ 20) {l : List (Int × Int)} (he : (if chkP h q = 0 then hearE l else chkP h q) ≠ 0) :
    ev_strike_Misses n h rack q l = some (0, [], if chkP h q = 0 then hearE l else chkP h q) := by
  rw [ev_strike_Misses, bind_of (ev_openP (by omega) hq), cond_if]
  simp only
  by_cases hc : chkP h q = 0
  · rw [if_pos hc] at he
    rw [if_pos (by simpa using hc), bind_of (ev_heardP hn l), ev_strike_Misses_j0, cond_if, if_pos (by simpa using he), if_pos hc]
  · rw [if_neg (by simpa using hc), ev_strike_Misses_j0, cond_if, if_pos (by simpa using hc), if_neg hc]
end Go.Proofs.Ytglgkcfgjaoabaa.Sy
