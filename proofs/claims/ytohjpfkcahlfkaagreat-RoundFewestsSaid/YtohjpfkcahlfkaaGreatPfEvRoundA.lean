/- Rounds: the error of any rules; the program's and the document's are the same. -/
import Derived.Test.YtohjpfkcahlfkaaGreatPfEvRoundC
import Derived.Test.YtohjpfkcahlfkaaGreatPfGTurretref11
set_option linter.unusedSimpArgs false
set_option linter.unusedVariables false
namespace Go.Proofs.YtohjpfkcahlfkaaGreat.Sy
open Go.RowKit
set_option maxRecDepth 100000
def btw (a b z : Int) : Bool := decide (a ≤ z) && decide (z ≤ b)
theorem btw_iff {a b z : Int} : btw a b z = true ↔ a ≤ z ∧ z ≤ b := by simp [btw]
def towB (x : Tw) : Bool := btw 0 120 x.1 && (btw 0 120 x.2.1 && (btw 0 1000 x.2.2.2.1 && btw 1 30 x.2.2.2.2))
def winB (x : Wd) : Bool := btw 0 8000 x.2.1 && (btw 1 1440 x.2.2.1 && btw 1 1440 x.2.2.2)
def rowB (i : Nat) (r : List Int) : Bool := (r.all fun z => btw 0 1440 z) && (r[i]? == some 0)
def rowsB : Nat → List (List Int) → Bool
  | _, [] => true
  | i, r :: l => rowB i r && rowsB (i + 1) l
def tailB (t : List Tw) (g : List Wd) (rest wage : Int) : Bool := decide (t.length ≠ 0) && (t.all towB && (decide (g.length ≠ 0) && (g.all winB && (btw 1 1440 rest && btw 0 1000 wage))))
def formB (t : List Tw) (w : List (List Int)) : Bool := decide (w.length = t.length + 1) && w.all fun r => decide (r.length = t.length + 1)
def checkP (t : List Tw) (w : List (List Int)) (g : List Wd) (rest wage : Int) : Int :=
  if 8 < t.length ∨ 4 < g.length then 5 else if formB t w = true then (if (rowsB 0 w && tailB t g rest wage) = true then 0 else 2) else 4
theorem rowsB_at : ∀ (w : List (List Int)) (k : Nat), rowsB k w = true → ∀ (i : Nat) (r : List Int), w[i]? = some r → rowB (k + i) r = true
  | [], k, _, i, r, h => by simp at h
  | x :: l, k, hb, i, r, h => by
    rw [rowsB, Bool.and_eq_true] at hb
    cases i with
    | zero => simp at h; rw [← h]; exact hb.1
    | succ i =>
      have := rowsB_at l (k + 1) hb.2 i r (by simpa using h);rw [show k + (i + 1) = k + 1 + i by omega]; exact this
theorem checkP_ok {t : List Tw} {w : List (List Int)} {g : List Wd} {rest wage : Int} (h : checkP t w g rest wage = 0) : OkR t w g rest wage := by
  unfold checkP at h
  split at h
  · cases h
  · rename_i h1
    split at h
    · rename_i h2
      split at h
      · rename_i h3
        rw [formB, Bool.and_eq_true, decide_eq_true_eq, List.all_eq_true] at h2;rw [Bool.and_eq_true, tailB, Bool.and_eq_true, Bool.and_eq_true, Bool.and_eq_true, Bool.and_eq_true, Bool.and_eq_true, decide_eq_true_eq, decide_eq_true_eq, List.all_eq_true, List.all_eq_true, btw_iff, btw_iff] at h3;obtain ⟨r1, a1, a2, a3, a4, a5, a6⟩ := h3;refine ⟨by omega, by omega, h2.1, fun r hr => of_decide_eq_true (h2.2 r hr), fun r hr => ?_, fun i r hr => ?_, fun x hx => ?_, fun x hx => ?_, a5, a6⟩
        · obtain ⟨i, hi⟩ := List.getElem?_of_mem hr;have := rowsB_at w 0 r1 i r hi;rw [rowB, Bool.and_eq_true, List.all_eq_true] at this;exact fun x hx => btw_iff.1 (this.1 x hx)
        · have := rowsB_at w 0 r1 i r hr;rw [rowB, Bool.and_eq_true, Nat.zero_add] at this
          simpa using this.2
        · have := a2 x hx;rw [towB, Bool.and_eq_true, Bool.and_eq_true, Bool.and_eq_true, btw_iff, btw_iff, btw_iff, btw_iff] at this;exact this
        · have := a4 x hx;rw [winB, Bool.and_eq_true, Bool.and_eq_true, btw_iff, btw_iff, btw_iff] at this;exact this
      · cases h
    · cases h
theorem isTower_any {n : Nat} (hn : 3 < n) (x : Tw) : ev_round_isTower n x.1 x.2.1 x.2.2.1 x.2.2.2.1 x.2.2.2.2 = some (towB x) := by
  rw [ev_round_isTower, bind_of (wi2_round (by omega)), towB];rw [show ((decide (0 ≤ x.1) && decide (x.1 ≤ 120)) && (decide (0 ≤ x.2.1) && decide (x.2.1 ≤ 120))) = (btw 0 120 x.1 && btw 0 120 x.2.1) from rfl, ← Bool.and_assoc];cases btw 0 120 x.1 && btw 0 120 x.2.1
  · rfl
  · rw [cond_if, if_pos rfl, bind_of (wi1_round (by omega)), show (decide (0 ≤ x.2.2.2.1) && decide (x.2.2.2.1 ≤ 1000)) = btw 0 1000 x.2.2.2.1 from rfl, Bool.true_and];cases btw 0 1000 x.2.2.2.1
    · rfl
    · rw [cond_if, if_pos rfl, bind_of (wi1_round (by omega))]; rfl
theorem isWinder_any {n : Nat} (hn : 3 < n) (x : Wd) : ev_round_isWinder n x.1 x.2.1 x.2.2.1 x.2.2.2 = some (winB x) := by
  rw [ev_round_isWinder, bind_of (wi1_round (by omega)), winB, show (decide (0 ≤ x.2.1) && decide (x.2.1 ≤ 8000)) = btw 0 8000 x.2.1 from rfl];cases btw 0 8000 x.2.1
  · rfl
  · rw [cond_if, if_pos rfl, bind_of (wi2_round (by omega))]; rfl
theorem rows_any {n : Nat} {k : Int} {w : List (List Int)} (hl : w.length ≤ 1000) : ∀ (m i : Nat), w.length < m + i → i ≤ w.length → ∃ r, ev_slices_IndexFunc_LLint_Lint_l0 n w k m (i : Int) = some r ∧ ((decide (0 ≤ r)) = ((w.drop i).any fun x => (x.length : Int) != k)) := by
  intro m
  induction m with
  | zero => intro i h1 h2; omega
  | succ m ih =>
    intro i h1 h2;rw [ev_slices_IndexFunc_LLint_Lint_l0, cond_if]
    by_cases hlt : i < w.length
    · have e : ev_round_areWays_1 n w[i] k = some ((w[i].length : Int) != k) := rfl;rw [if_pos (decide_eq_true (by omega)), idx_nat (List.getElem?_eq_getElem hlt), bind_of e, List.drop_eq_getElem_cons hlt, List.any_cons];cases hb : (w[i].length : Int) != k
      · rw [cond_if, if_neg (by simp), chk_of (in64_of (by omega)), Bool.false_or];exact ih (i + 1) (by omega) (by omega)
      · rw [cond_if, if_pos rfl];exact ⟨_, rfl, by simp⟩
    · rw [if_neg (by simp; omega), List.drop_eq_nil_of_le (by omega)];exact ⟨_, rfl, by simp⟩
theorem areWays_any {n : Nat} {t : List Tw} {w : List (List Int)} {g : List Wd} {rest wage : Int} (ht : t.length ≤ 1000) (hl : w.length ≤ 1000) (hn : w.length < n) : ev_round_areWays n t w g rest wage = some (formB t w) := by
  have e1 : ((w.length : Int) == (t.length : Int) + 1) = decide (w.length = t.length + 1) := by
    rw [Bool.eq_iff_iff]; simp; omega
  rw [ev_round_areWays, chk_of (in64_of (by omega)), e1, formB];cases hb : decide (w.length = t.length + 1)
  · rfl
  · obtain ⟨r, h1, h2⟩ := rows_any (n := n) (k := (t.length : Int) + 1) hl n 0 (by omega) (by omega);rw [show ((0 : Nat) : Int) = 0 from rfl] at h1;rw [cond_if, if_pos rfl, ev_slices_ContainsFunc_LLint_Lint, ev_slices_IndexFunc_LLint_Lint, h1, Bool.true_and];show some (!(decide (0 ≤ r))) = _;rw [h2, List.drop_zero]
    congr 1
    rw [Bool.eq_iff_iff];simp
    constructor
    · intro h x hx; have := h x hx; omega
    · intro h x hx; have := h x hx; omega
theorem check_any {n : Nat} (hn : 100 < n) {t : List Tw} {w : List (List Int)} {g : List Wd} {rest wage : Int} (ht : t.length ≤ 50) (hg : g.length ≤ 50) (hw : w.length ≤ 50) (hr : ∀ r ∈ w, r.length ≤ 50) : ev_round_Check n t w g rest wage = some (checkP t w g rest wage) := by
  have htail : formB t w = true → ∀ m i, ¬ i < w.length → ev_round_Check_l1 n w t g rest wage (m + 1) (i : Int) = some (if tailB t g rest wage = true then 0 else 2) := fun hf m i hi => by
    rw [ev_round_Check_l1, cond_if, if_neg (by simp; omega), tailB];have e0 : ((t.length : Int) == 0) = !decide (t.length ≠ 0) := by rw [Bool.eq_iff_iff]; simp
    have e1 : ((g.length : Int) == 0) = !decide (g.length ≠ 0) := by rw [Bool.eq_iff_iff]; simp
    rw [e0, e1];cases decide (t.length ≠ 0)
    · rfl
    · rw [cond_if, if_neg (by simp), ev_round_not_api_RoundTower, Option.bind_some, bind_of (cf_Lapi_RoundTower_api_RoundTower (g := fun x => !towB x) (fun x hx => by rw [ev_round_not_api_RoundTower_1, bind_of (isTower_any (by omega) x)]) (by omega) (by omega)), Bool.true_and];rw [show (t.any fun x => !towB x) = !(t.all towB) by rw [List.not_all_eq_any_not]];cases t.all towB
      · rfl
      · rw [cond_if, if_neg (by simp), Bool.true_and];cases decide (g.length ≠ 0)
        · rfl
        · rw [cond_if, if_neg (by simp), ev_round_not_api_RoundWinder, Option.bind_some, bind_of (cf_Lapi_RoundWinder_api_RoundWinder (g := fun x => !winB x) (fun x hx => by rw [ev_round_not_api_RoundWinder_1, bind_of (isWinder_any (by omega) x)]) (by omega) (by omega)), Bool.true_and];rw [show (g.any fun x => !winB x) = !(g.all winB) by rw [List.not_all_eq_any_not]];cases g.all winB
          · rfl
          · rw [cond_if, if_neg (by simp), bind_of (wi1_round (by omega)), Bool.true_and, show (decide (1 ≤ rest) && decide (rest ≤ 1440)) = btw 1 1440 rest from rfl];cases btw 1 1440 rest
            · rfl
            · rw [cond_if, if_neg (by simp), bind_of (wi1_round (by omega)), Bool.true_and, show (decide (0 ≤ wage) && decide (wage ≤ 1000)) = btw 0 1000 wage from rfl];cases btw 0 1000 wage
              · rfl
              · rfl
  have key : formB t w = true → ∀ (k m i : Nat), i + k = w.length → k < m → ev_round_Check_l1 n w t g rest wage m (i : Int) = some (if (rowsB i (w.drop i) && tailB t g rest wage) = true then 0 else 2) := by
    intro hf k
    induction k with
    | zero =>
      intro m i hi hm;obtain ⟨m, rfl⟩ : ∃ m', m = m' + 1 := ⟨m - 1, by omega⟩;rw [htail hf m i (by omega), List.drop_eq_nil_of_le (by omega), rowsB, Bool.true_and]
    | succ k ih =>
      intro m i hi hm;obtain ⟨m, rfl⟩ : ∃ m', m = m' + 1 := ⟨m - 1, by omega⟩;have hlt : i < w.length := by omega
      have hm2 := List.getElem_mem hlt;have hrl := hr _ hm2;have hf2 : w.length = t.length + 1 ∧ w[i].length = t.length + 1 := by
        rw [formB, Bool.and_eq_true, decide_eq_true_eq, List.all_eq_true] at hf;exact ⟨hf.1, of_decide_eq_true (hf.2 _ hm2)⟩
      rw [ev_round_Check_l1, cond_if, if_pos (decide_eq_true (by omega)), idx_nat (List.getElem?_eq_getElem hlt), bind_of (wi_round (by omega) (by omega)), List.drop_eq_getElem_cons hlt, rowsB, rowB];rw [show (w[i].all fun z => decide ((0 : Int) ≤ z) && decide (z ≤ 1440)) = (w[i].all fun z => btw 0 1440 z) from rfl];cases w[i].all fun z => btw 0 1440 z
      · rfl
      · have hil : i < w[i].length := by omega
        rw [cond_if, if_neg (by simp), idx_nat (List.getElem?_eq_getElem hil), cond_if, List.getElem?_eq_getElem hil, Bool.true_and]
        by_cases h0 : w[i][i] = 0
        · rw [if_neg (by simpa using h0), chk_of (in64_of (by omega)), h0];simp only [beq_self_eq_true, Bool.true_and];exact ih m (i + 1) (by omega) (by omega)
        · rw [if_pos (by simpa using h0), if_neg (by simp [h0])]
  rw [ev_round_Check, cond_if, checkP];have hj : ev_round_Check_j0 n t w g rest wage false = some (if formB t w = true then (if (rowsB 0 w && tailB t g rest wage) = true then 0 else 2) else 4) := by
    rw [ev_round_Check_j0, cond_if, if_neg (by simp), bind_of (areWays_any (by omega) (by omega) (by omega)), cond_if]
    by_cases hf : formB t w = true
    · have := key hf w.length n 0 (by omega) (by omega);rw [List.drop_zero] at this;rw [if_neg (by simp [hf]), if_pos hf];exact this
    · rw [if_pos (by simpa using hf), if_neg hf]
  by_cases h1 : 8 < t.length
  · rw [if_pos (decide_eq_true (by omega)), if_pos (.inl h1), ev_round_Check_j0, cond_if, if_pos (decide_eq_true (by omega))]
  · rw [if_neg (by simp; omega)]
    by_cases h2 : 4 < g.length
    · rw [if_pos (.inr h2), ev_round_Check_j0, cond_if, if_pos (decide_eq_true (by omega))]
    · rw [if_neg (by omega), show decide ((4 : Int) < (g.length : Int)) = false by simp; omega];exact hj
theorem in_ev {n : Nat} {z a b : Int} : ev_ref11_in n z a b = some (btw a b z) := by
  rw [ev_ref11_in, btw];cases decide (a ≤ z)
  · rfl
  · rfl
theorem refCheck_any {n : Nat} (hn : 100 < n) {t : List Tw} {w : List (List Int)} {g : List Wd} {rest wage : Int} (ht : t.length ≤ 50) (hg : g.length ≤ 50) (hw : w.length ≤ 50) (hr : ∀ r ∈ w, r.length ≤ 50) : ev_ref11_Check n t w g rest wage = some (checkP t w g rest wage) := by
  -- the winders, and the end
  have l5 : ∀ (k m i : Nat), i + k = g.length → k < m → ev_ref11_Check_l5 n t m (i : Int) rest wage t w g = some (if ((g.drop i).all winB && (decide (t.length ≠ 0) && (decide (g.length ≠ 0) && (btw 1 1440 rest && btw 0 1000 wage)))) = true then 0 else 2) := by
    intro k
    induction k with
    | zero =>
      intro m i hi hm;obtain ⟨m, rfl⟩ : ∃ m', m = m' + 1 := ⟨m - 1, by omega⟩;have e0 : ((t.length : Int) == 0) = !decide (t.length ≠ 0) := by rw [Bool.eq_iff_iff]; simp
      have e1 : ((g.length : Int) == 0) = !decide (g.length ≠ 0) := by rw [Bool.eq_iff_iff]; simp
      rw [ev_ref11_Check_l5, cond_if, if_neg (by simp; omega), List.drop_eq_nil_of_le (by omega), e0, e1, in_ev, in_ev];cases decide (t.length ≠ 0)
      · rfl
      · cases decide (g.length ≠ 0)
        · rfl
        · cases btw 1 1440 rest
          · rfl
          · cases btw 0 1000 wage
            · rfl
            · rfl
    | succ k ih =>
      intro m i hi hm;obtain ⟨m, rfl⟩ : ∃ m', m = m' + 1 := ⟨m - 1, by omega⟩;have hlt : i < g.length := by omega
      have hnext := ih m (i + 1) (by omega) (by omega);have hi : in64 ((i : Int) + 1) = true := in64_of (by omega);rw [ev_ref11_Check_l5, cond_if, if_pos (decide_eq_true (by omega)), idx_nat (List.getElem?_eq_getElem hlt), in_ev, in_ev, in_ev, List.drop_eq_getElem_cons hlt, List.all_cons, winB, chk_of hi];cases btw 0 8000 g[i].2.1
      · rfl
      · cases btw 1 1440 g[i].2.2.1
        · rfl
        · cases btw 1 1440 g[i].2.2.2
          · rfl
          · exact hnext
  have l4 : ∀ (k m i : Nat), i + k = t.length → k < m → ev_ref11_Check_l4 n t m (i : Int) rest wage t w g = some (if ((t.drop i).all towB && (g.all winB && (decide (t.length ≠ 0) && (decide (g.length ≠ 0) && (btw 1 1440 rest && btw 0 1000 wage))))) = true then 0 else 2) := by
    intro k
    induction k with
    | zero =>
      intro m i hi hm;obtain ⟨m, rfl⟩ : ∃ m', m = m' + 1 := ⟨m - 1, by omega⟩;have := l5 g.length n 0 (by omega) (by omega);rw [List.drop_zero] at this;rw [ev_ref11_Check_l4, cond_if, if_neg (by simp; omega), List.drop_eq_nil_of_le (by omega)];exact this
    | succ k ih =>
      intro m i hi hm;obtain ⟨m, rfl⟩ : ∃ m', m = m' + 1 := ⟨m - 1, by omega⟩;have hlt : i < t.length := by omega
      have hnext := ih m (i + 1) (by omega) (by omega);have hi : in64 ((i : Int) + 1) = true := in64_of (by omega);rw [ev_ref11_Check_l4, cond_if, if_pos (decide_eq_true (by omega)), idx_nat (List.getElem?_eq_getElem hlt), in_ev, in_ev, in_ev, in_ev, List.drop_eq_getElem_cons hlt, List.all_cons, towB, chk_of hi];cases btw 0 120 t[i].1
      · rfl
      · cases btw 0 120 t[i].2.1
        · rfl
        · cases btw 0 1000 t[i].2.2.2.1
          · rfl
          · cases btw 1 30 t[i].2.2.2.2
            · rfl
            · exact hnext
  have e4 : (t.all towB && (g.all winB && (decide (t.length ≠ 0) && (decide (g.length ≠ 0) && (btw 1 1440 rest && btw 0 1000 wage))))) = tailB t g rest wage := by
    rw [tailB];cases decide (t.length ≠ 0) <;> cases t.all towB <;> cases g.all winB <;> cases decide (g.length ≠ 0) <;> rfl
  have l4' := l4 t.length n 0 (by omega) (by omega);rw [List.drop_zero, e4, show ((0 : Nat) : Int) = 0 from rfl] at l4'
  -- one row
  have l3 : formB t w = true → ∀ (i : Nat) (hi : i < w.length) (k2 : Int → Option Int) (k m c : Nat), c + k = t.length + 1 → k < m →
      ev_ref11_Check_l3 n t w (i : Int) k2 m (c : Int) = if (((w[i].drop c).all fun z => btw 0 1440 z) && (decide (i < c) || w[i][i]? == some 0)) = true then k2 ((i + 1 : Nat) : Int) else some 2 := by
    intro hf i hi k2 k;have hf2 : w.length = t.length + 1 ∧ w[i].length = t.length + 1 := by
      rw [formB, Bool.and_eq_true, decide_eq_true_eq, List.all_eq_true] at hf;exact ⟨hf.1, of_decide_eq_true (hf.2 _ (List.getElem_mem hi))⟩
    induction k with
    | zero =>
      intro m c hc hm;obtain ⟨m, rfl⟩ : ∃ m', m = m' + 1 := ⟨m - 1, by omega⟩;rw [ev_ref11_Check_l3, cond_if, if_neg (by simp; omega), List.drop_eq_nil_of_le (by omega), chk_of (in64_of (by omega)), show decide (i < c) = true by simp; omega]
      rfl
    | succ k ih =>
      intro m c hc hm;obtain ⟨m, rfl⟩ : ∃ m', m = m' + 1 := ⟨m - 1, by omega⟩;have hlt : c < w[i].length := by omega
      have hnext := ih m (c + 1) (by omega) (by omega);have hc64 : in64 ((c : Int) + 1) = true := in64_of (by omega);rw [ev_ref11_Check_l3, cond_if, if_pos (decide_eq_true (by omega)), idx_nat (List.getElem?_eq_getElem hi), idx_nat (List.getElem?_eq_getElem hlt), in_ev, List.drop_eq_getElem_cons hlt, List.all_cons, chk_of hc64];cases btw 0 1440 w[i][c]
      · rfl
      · rw [Option.bind_some, cond_if, if_neg (by simp), cond_if]
        by_cases hic : i = c
        · subst hic;have hii : i < w[i].length := by omega
          rw [if_pos (by simp), cond_if, List.getElem?_eq_getElem hii, show decide (i < i) = false by simp];rw [List.getElem?_eq_getElem hii, show decide (i < i + 1) = true by simp] at hnext
          by_cases h0 : w[i][i] = 0
          · rw [if_neg (by simpa using h0), h0]
            simpa using hnext
          · rw [if_pos (by simpa using h0), if_neg (by simp [h0])]
        · rw [if_neg (by simp; omega)];rw [show decide (i < c + 1) = decide (i < c) by rw [decide_eq_decide]; omega] at hnext;exact hnext
  have l2 : formB t w = true → ∀ (k m i : Nat), i + k = w.length → k < m → ev_ref11_Check_l2 n t w rest wage g m (i : Int) = some (if (rowsB i (w.drop i) && tailB t g rest wage) = true then 0 else 2) := by
    intro hf k;have hf1 : w.length = t.length + 1 := by
      rw [formB, Bool.and_eq_true, decide_eq_true_eq] at hf;exact hf.1
    induction k with
    | zero =>
      intro m i hi hm;obtain ⟨m, rfl⟩ : ∃ m', m = m' + 1 := ⟨m - 1, by omega⟩;rw [ev_ref11_Check_l2, cond_if, if_neg (by simp; omega), List.drop_eq_nil_of_le (by omega), rowsB, Bool.true_and];exact l4'
    | succ k ih =>
      intro m i hi hm;obtain ⟨m, rfl⟩ : ∃ m', m = m' + 1 := ⟨m - 1, by omega⟩;have hlt : i < w.length := by omega
      have h3 := l3 hf i hlt (fun i9q => ev_ref11_Check_l2 n t w rest wage g m i9q) (t.length + 1) n 0 (by omega) (by omega);rw [List.drop_zero, show decide (i < 0) = false by simp, Bool.false_or, show ((0 : Nat) : Int) = 0 from rfl] at h3;rw [ev_ref11_Check_l2, cond_if, if_pos (decide_eq_true (by omega)), h3, List.drop_eq_getElem_cons hlt, rowsB, rowB, ih m (i + 1) (by omega) (by omega)];cases ((w[i].all fun z => btw 0 1440 z) && w[i][i]? == some 0)
      · rfl
      · rfl
  have l1 : w.length = t.length + 1 → ∀ (k m i : Nat), i + k = w.length → k < m → ev_ref11_Check_l1 n t w rest wage g m (i : Int) = if ((w.drop i).all fun r => decide (r.length = t.length + 1)) = true then ev_ref11_Check_l2 n t w rest wage g n 0 else some 4 := by
    intro hf1 k
    induction k with
    | zero =>
      intro m i hi hm;obtain ⟨m, rfl⟩ : ∃ m', m = m' + 1 := ⟨m - 1, by omega⟩;rw [ev_ref11_Check_l1, cond_if, if_neg (by simp; omega), List.drop_eq_nil_of_le (by omega)]
      rfl
    | succ k ih =>
      intro m i hi hm;obtain ⟨m, rfl⟩ : ∃ m', m = m' + 1 := ⟨m - 1, by omega⟩;have hlt : i < w.length := by omega
      have hrl := hr _ (List.getElem_mem hlt);rw [ev_ref11_Check_l1, cond_if, if_pos (decide_eq_true (by omega)), idx_nat (List.getElem?_eq_getElem hlt), chk_of (in64_of (by omega)), cond_if, List.drop_eq_getElem_cons hlt, List.all_cons]
      by_cases hc : w[i].length = t.length + 1
      · rw [if_neg (by simp; omega), chk_of (in64_of (by omega)), show decide (w[i].length = t.length + 1) = true by simpa using hc, Bool.true_and];exact ih m (i + 1) (by omega) (by omega)
      · rw [if_pos (by simp; omega), show decide (w[i].length = t.length + 1) = false by simpa using hc]
        rfl
  have hj : ev_ref11_Check_j0 n t w rest wage g = some (if formB t w = true then (if (rowsB 0 w && tailB t g rest wage) = true then 0 else 2) else 4) := by
    rw [ev_ref11_Check_j0, chk_of (in64_of (by omega)), cond_if]
    by_cases hl : w.length = t.length + 1
    · have h1 := l1 hl w.length n 0 (by omega) (by omega);rw [List.drop_zero, show ((0 : Nat) : Int) = 0 from rfl] at h1;rw [if_neg (by simp; omega), h1]
      by_cases hf : (w.all fun r => decide (r.length = t.length + 1)) = true
      · have hff : formB t w = true := by rw [formB, hf]; simpa using hl
        have h2 := l2 hff w.length n 0 (by omega) (by omega);rw [List.drop_zero, show ((0 : Nat) : Int) = 0 from rfl] at h2;rw [if_pos hf, if_pos hff, h2]
      · have hff : ¬ formB t w = true := by rw [formB, Bool.and_eq_true]; exact fun e => hf e.2
        rw [if_neg hf, if_neg hff]
    · have hff : ¬ formB t w = true := by rw [formB, Bool.and_eq_true, decide_eq_true_eq]; exact fun e => hl e.1
      rw [if_pos (by simp; omega), if_neg hff]
  rw [ev_ref11_Check, cond_if, checkP]
  by_cases h1 : 8 < t.length
  · rw [if_pos (decide_eq_true (by omega)), if_pos (.inl h1)]
  · rw [if_neg (by simp; omega), cond_if]
    by_cases h2 : 4 < g.length
    · rw [if_pos (decide_eq_true (by omega)), if_pos (.inr h2)]
    · rw [if_neg (by simp; omega), if_neg (by omega)];exact hj
theorem large_ev {n : Nat} (hn : 100 < n) {t : List Tw} {w : List (List Int)} {g : List Wd} {rest wage : Int} : ∃ b, ev_law11_large n t w g rest wage = some b ∧ (b = false → t.length ≤ 12 ∧ g.length ≤ 8 ∧ w.length ≤ 15 ∧ ∀ r ∈ w, r.length ≤ 15) := by
  rw [ev_law11_large, cond_if]
  by_cases h1 : 12 < t.length
  · rw [if_pos (decide_eq_true (by omega))]; exact ⟨true, rfl, fun h => by cases h⟩
  · rw [if_neg (by simp; omega), cond_if]
    by_cases h2 : 8 < g.length
    · rw [if_pos (decide_eq_true (by omega))]; exact ⟨true, rfl, fun h => by cases h⟩
    · rw [if_neg (by simp; omega), cond_if]
      by_cases h3 : 15 < w.length
      · rw [if_pos (decide_eq_true (by omega))]; exact ⟨true, rfl, fun h => by cases h⟩
      · rw [if_neg (by simp; omega), ev_law11_large_j0];have key : ∀ (k m i : Nat), i + k = w.length → k < m → (∀ r ∈ w.take i, r.length ≤ 15) → ∃ b, ev_law11_large_l1 n w m (i : Int) = some b ∧ (b = false → ∀ r ∈ w, r.length ≤ 15) := by
          intro k
          induction k with
          | zero =>
            intro m i hi hm hr;obtain ⟨m, rfl⟩ : ∃ m', m = m' + 1 := ⟨m - 1, by omega⟩;rw [List.take_of_length_le (by omega)] at hr;rw [ev_law11_large_l1, cond_if, if_neg (by simp; omega)];exact ⟨false, rfl, fun _ => hr⟩
          | succ k ih =>
            intro m i hi hm hr;obtain ⟨m, rfl⟩ : ∃ m', m = m' + 1 := ⟨m - 1, by omega⟩;have hlt : i < w.length := by omega
            rw [ev_law11_large_l1, cond_if, if_pos (decide_eq_true (by omega)), idx_nat (List.getElem?_eq_getElem hlt), cond_if]
            by_cases hc : 15 < w[i].length
            · rw [if_pos (decide_eq_true (by omega))]; exact ⟨true, rfl, fun h => by cases h⟩
            · rw [if_neg (by simp; omega), chk_of (in64_of (by omega))];refine ih m (i + 1) (by omega) (by omega) fun r hr2 => ?_
              rw [List.take_succ_eq_append_getElem hlt] at hr2;rcases List.mem_append.1 hr2 with hr2 | hr2
              · exact hr r hr2
              · rw [List.mem_singleton] at hr2; rw [hr2]; omega
        obtain ⟨b, e, hb⟩ := key w.length n 0 (by omega) (by omega) (by simp);exact ⟨b, e, fun h => ⟨by omega, by omega, by omega, hb h⟩⟩
end Go.Proofs.YtohjpfkcahlfkaaGreat.Sy
