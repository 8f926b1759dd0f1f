/- Rounds: rules in small numbers are right; some towers. -/
import Derived.Test.YtohjpfkcahlfkaaPeEvRoundF
set_option linter.unusedSimpArgs false
set_option linter.unusedVariables false
namespace Go.Proofs.Ytohjpfkcahlfkaa.Sy
open Go.RowKit
set_option maxRecDepth 100000
theorem some_ev {n : Nat} {t : List Tw} {w : List (List Int)} {g : List Wd} {rest wage most : Int} (ht : 1 ≤ t.length ∧ t.length ≤ 8) {l : List Int} (hb : ∀ x ∈ l, 0 ≤ x ∧ x ≤ 255) (hl : l.length < n) (hl2 : l.length ≤ 9223372036854775807) (hm : 0 ≤ most ∧ most ≤ 8) :
    ∃ s, ev_law11_some n t w g rest wage l most = some s ∧ s.Nodup ∧ (∀ x ∈ s, 0 ≤ x ∧ x < t.length) ∧ (s.length : Int) ≤ most := by
  have key : ∀ (k m i : Nat) (s : List Int) (seen : List Bool), i + k = l.length → k < m → s.Nodup → (∀ x ∈ s, 0 ≤ x ∧ x < t.length) → (s.length : Int) ≤ most → seen.length = 8 → (∀ x ∈ s, seen[x.toNat]? = some true) →
      ∃ s', ev_law11_some_l0 n most m (i : Int) l rest wage s seen t w g = some s' ∧ s'.Nodup ∧ (∀ x ∈ s', 0 ≤ x ∧ x < t.length) ∧ (s'.length : Int) ≤ most := by
    intro k
    induction k with
    | zero =>
      intro m i s seen hi hm' hn hr hs h8 hseen;obtain ⟨m, rfl⟩ : ∃ m', m = m' + 1 := ⟨m - 1, by omega⟩;exact ⟨s, by rw [ev_law11_some_l0, cond_if, if_neg (by simp; omega)], hn, hr, hs⟩
    | succ k ih =>
      intro m i s seen hi hm' hn hr hs h8 hseen;obtain ⟨m, rfl⟩ : ∃ m', m = m' + 1 := ⟨m - 1, by omega⟩;have hlt : i < l.length := by omega
      have hx := hb _ (List.getElem_mem hlt);rw [ev_law11_some_l0, cond_if, if_pos (decide_eq_true (by omega)), cond_if]
      by_cases hc : (s.length : Int) < most
      · obtain ⟨y, hy⟩ : ∃ y, y = l[i] % (t.length : Int) := ⟨_, rfl⟩;have h1 := Int.emod_nonneg l[i] (show (t.length : Int) ≠ 0 by omega);have h2 := Int.emod_lt_of_pos l[i] (show (0 : Int) < t.length by omega);have e : Int.tmod l[i] (t.length : Int) = y := by rw [hy]; exact Int.tmod_eq_emod_of_nonneg hx.1
        have hylt : y.toNat < seen.length := by omega
        rw [if_pos (decide_eq_true hc), ev_law11_some_j1, idx_nat (List.getElem?_eq_getElem hlt), chk_of (in64_of (by omega)), chk_of (by simp; intro e0; simp [e0] at ht), e, chk_of (by simp; omega), idx_of (by omega) (List.getElem?_eq_getElem hylt), cond_if]
        by_cases hs2 : seen[y.toNat] = true
        · rw [if_neg (by simp [hs2]), chk_of (in64_of (by omega))];exact ih m (i + 1) s seen (by omega) (by omega) hn hr hs h8 hseen
        · rw [if_pos (by simpa using hs2), chk_of (room_iff.2 (by simp; omega)), chk_of (by simp; omega), idx_of (by omega) (List.getElem?_eq_getElem hylt), chk_of (in64_of (by omega))];have hns : y ∉ s := fun hm2 => by
            have := hseen y hm2;rw [List.getElem?_eq_getElem hylt] at this;exact hs2 (Option.some.inj this)
          refine ih m (i + 1) (s ++ [y]) (seen.set y.toNat true) (by omega) (by omega) ?_ ?_ ?_ (by rw [List.length_set]; exact h8) ?_
          · rw [List.nodup_append];refine ⟨hn, by simp, fun a ha b hb2 => ?_⟩;rw [List.mem_singleton] at hb2;intro e2;exact hns (by rw [← hb2, ← e2]; exact ha)
          · intro z hz;rcases List.mem_append.1 hz with hz | hz
            · exact hr z hz
            · rw [List.mem_singleton] at hz; omega
          · rw [List.length_append]; simp; omega
          · intro z hz;rcases List.mem_append.1 hz with hz | hz
            · rw [List.getElem?_set]
              by_cases e2 : y.toNat = z.toNat
              · rw [if_pos e2, if_pos hylt]
              · rw [if_neg e2]; exact hseen z hz
            · rw [List.mem_singleton] at hz;subst hz;rw [List.getElem?_set, if_pos rfl, if_pos hylt]
      · rw [if_neg (by simpa using hc)];exact ⟨s, rfl, hn, hr, hs⟩
  rw [ev_law11_some];exact key l.length n 0 [] _ (by omega) (by omega) (by simp) (by simp) (by simpa using hm.1) rfl (by simp)
end Go.Proofs.Ytohjpfkcahlfkaa.Sy
