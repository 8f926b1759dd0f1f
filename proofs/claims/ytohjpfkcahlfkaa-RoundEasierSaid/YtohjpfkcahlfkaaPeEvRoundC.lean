/- Rounds: rules that are right. -/
import Derived.Test.YtohjpfkcahlfkaaPeEvRoundKn
import Derived.Test.YtohjpfkcahlfkaaPeSpRoundA
set_option linter.unusedSimpArgs false
set_option linter.unusedVariables false
namespace Go.Proofs.Ytohjpfkcahlfkaa.Sy
open Go.RowKit
set_option maxRecDepth 100000
abbrev Tw := Int × Int × Int × Int × Int
abbrev Wd := Int × Int × Int × Int
structure OkR (t : List Tw) (w : List (List Int)) (g : List Wd) (rest wage : Int) : Prop where
  tn : 1 ≤ t.length ∧ t.length ≤ 8
  gn : 1 ≤ g.length ∧ g.length ≤ 4
  wn : w.length = t.length + 1
  row : ∀ r ∈ w, r.length = t.length + 1
  way : ∀ r ∈ w, ∀ x ∈ r, 0 ≤ x ∧ x ≤ 1440
  diag : ∀ (i : Nat) (r : List Int), w[i]? = some r → r[i]? = some 0
  tow : ∀ x ∈ t, (0 ≤ x.1 ∧ x.1 ≤ 120) ∧ (0 ≤ x.2.1 ∧ x.2.1 ≤ 120) ∧ (0 ≤ x.2.2.2.1 ∧ x.2.2.2.1 ≤ 1000) ∧ (1 ≤ x.2.2.2.2 ∧ x.2.2.2.2 ≤ 30)
  win : ∀ x ∈ g, (0 ≤ x.2.1 ∧ x.2.1 ≤ 8000) ∧ (1 ≤ x.2.2.1 ∧ x.2.2.1 ≤ 1440) ∧ (1 ≤ x.2.2.2 ∧ x.2.2.2 ≤ 1440)
  rest : 1 ≤ rest ∧ rest ≤ 1440
  wage : 0 ≤ wage ∧ wage ≤ 1000
theorem isTower_ev {n : Nat} (hn : 3 < n) {x : Tw} (h : (0 ≤ x.1 ∧ x.1 ≤ 120) ∧ (0 ≤ x.2.1 ∧ x.2.1 ≤ 120) ∧ (0 ≤ x.2.2.2.1 ∧ x.2.2.2.1 ≤ 1000) ∧ (1 ≤ x.2.2.2.2 ∧ x.2.2.2.2 ≤ 30)) : ev_round_isTower n x.1 x.2.1 x.2.2.1 x.2.2.2.1 x.2.2.2.2 = some true := by
  rw [ev_round_isTower, bind_of (wi2_round (by omega)), cond_if, if_pos (by simp; omega), bind_of (wi1_round (by omega)), cond_if, if_pos (by simp; omega), bind_of (wi1_round (by omega))];simp; omega
theorem isWinder_ev {n : Nat} (hn : 3 < n) {x : Wd} (h : (0 ≤ x.2.1 ∧ x.2.1 ≤ 8000) ∧ (1 ≤ x.2.2.1 ∧ x.2.2.1 ≤ 1440) ∧ (1 ≤ x.2.2.2 ∧ x.2.2.2 ≤ 1440)) : ev_round_isWinder n x.1 x.2.1 x.2.2.1 x.2.2.2 = some true := by
  rw [ev_round_isWinder, bind_of (wi1_round (by omega)), cond_if, if_pos (by simp; omega), bind_of (wi2_round (by omega))];simp; omega
theorem rows_ev {n : Nat} {k : Int} : ∀ (w : List (List Int)) (m i : Nat), (∀ r ∈ w, (r.length : Int) = k) → w.length < m + i → i ≤ w.length → w.length ≤ 1000000 → ev_slices_IndexFunc_LLint_Lint_l0 n w k m (i : Int) = some (-1) := by
  intro w m
  induction m with
  | zero => intro i _ h1 h2; omega
  | succ m ih =>
    intro i h h1 h2 h3;rw [ev_slices_IndexFunc_LLint_Lint_l0, cond_if]
    by_cases hlt : i < w.length
    · have e : ev_round_areWays_1 n w[i] k = some false := by
        rw [ev_round_areWays_1, h _ (List.getElem_mem hlt)]; simp
      rw [if_pos (decide_eq_true (by omega)), idx_nat (List.getElem?_eq_getElem hlt), bind_of e, cond_if, if_neg (by simp), chk_of (in64_of (by omega))];exact ih (i + 1) h (by omega) (by omega) h3
    · rw [if_neg (by simp; omega)]
theorem check_ev {n : Nat} (hn : 100 < n) {t : List Tw} {w : List (List Int)} {g : List Wd} {rest wage : Int} (h : OkR t w g rest wage) : ev_round_Check n t w g rest wage = some 0 := by
  obtain ⟨t1, t2⟩ := h.tn;obtain ⟨g1, g2⟩ := h.gn;have hw := h.wn;have hways : ev_round_areWays n t w g rest wage = some true := by
    have := rows_ev (n := n) (k := (t.length : Int) + 1) w n 0 (fun r hr => by rw [h.row r hr]; omega) (by omega) (by omega) (by omega);rw [ev_round_areWays, chk_of (in64_of (by omega)), cond_if, if_pos (by rw [hw]; simp), ev_slices_ContainsFunc_LLint_Lint, ev_slices_IndexFunc_LLint_Lint];rw [show ((0 : Nat) : Int) = 0 from rfl] at this;rw [this]; rfl
  have key : ∀ (k m i : Nat), i + k = w.length → k < m → ev_round_Check_l1 n w t g rest wage m (i : Int) = some 0 := by
    intro k
    induction k with
    | zero =>
      intro m i hi hm;obtain ⟨m, rfl⟩ : ∃ m', m = m' + 1 := ⟨m - 1, by omega⟩;rw [ev_round_Check_l1, cond_if, if_neg (by simp; omega), cond_if, if_neg (by simp; intro e; simp [e] at t1), ev_round_not_api_RoundTower, Option.bind_some,
        bind_of (cf_Lapi_RoundTower_api_RoundTower (g := fun _ => false) (fun x hx => by rw [ev_round_not_api_RoundTower_1, bind_of (isTower_ev (by omega) (h.tow x hx))]; rfl) (by omega) (by omega)), cond_if, if_neg (by simp), cond_if, if_neg (by simp; intro e; simp [e] at g1),
        ev_round_not_api_RoundWinder, Option.bind_some, bind_of (cf_Lapi_RoundWinder_api_RoundWinder (g := fun _ => false) (fun x hx => by rw [ev_round_not_api_RoundWinder_1, bind_of (isWinder_ev (by omega) (h.win x hx))]; rfl) (by omega) (by omega)), cond_if, if_neg (by simp),
        bind_of (wi1_round (by omega)), cond_if, if_neg (by have := h.rest; simp; omega), bind_of (wi1_round (by omega)), cond_if, if_neg (by have := h.wage; simp; omega)]
    | succ k ih =>
      intro m i hi hm;obtain ⟨m, rfl⟩ : ∃ m', m = m' + 1 := ⟨m - 1, by omega⟩;have hlt : i < w.length := by omega
      have hm2 := List.getElem_mem hlt;have hall : (w[i].all fun z => decide ((0 : Int) ≤ z) && decide (z ≤ 1440)) = true := List.all_eq_true.2 fun z hz => by have := h.way _ hm2 z hz; simp; omega
      rw [ev_round_Check_l1, cond_if, if_pos (decide_eq_true (by omega)), idx_nat (List.getElem?_eq_getElem hlt), bind_of (wi_round (by rw [h.row _ hm2]; omega) (by rw [h.row _ hm2]; omega)), hall, cond_if, if_neg (by simp), idx_nat (h.diag i _ (List.getElem?_eq_getElem hlt)), cond_if, if_neg (by simp), chk_of (in64_of (by omega))];exact ih m (i + 1) (by omega) (by omega)
  rw [ev_round_Check, cond_if, if_neg (by simp; omega), ev_round_Check_j0, cond_if, if_neg (by simp; omega), bind_of hways, cond_if, if_neg (by simp)];exact key w.length n 0 (by omega) (by omega)
end Go.Proofs.Ytohjpfkcahlfkaa.Sy
