/- Counts by numbers, and some more. -/
import Derived.Test.YtabjhlfgcmmbfaaEvOf
set_option linter.unusedSimpArgs false
set_option linter.unusedVariables false
namespace Go.Proofs.Ytabjhlfgcmmbfaa.Sy
open Go.RowKit
set_option maxRecDepth 100000

theorem ev_wider {n : Nat} {c more : List Int} (hn : 5000000 < n) (hc : c.length ≤ 1048576) (hm : more.length ≤ 1048576) (g1 : ∀ z ∈ c, 0 ≤ z ∧ z ≤ 255) (g2 : ∀ z ∈ more, 0 ≤ z ∧ z ≤ 255) {most : Nat} (hmo : 6 ≤ most ∧ most ≤ 12) :
    ∃ W', ev_law01_wider n c more 30 (most : Int) = some W' ∧ OkCut W' ∧ W'.length ≤ most ∧ ∀ x ∈ mdF 6 (vals c 30) [], x ∈ W' := by
  have key : ∀ e : List Int, e ≠ [] → (∀ z ∈ e, 0 ≤ z ∧ z ≤ 255) → e.length ≤ 1048577 → vals e 30 = vals c 30 → ∃ W', ev_law01_made n (e ++ more) 30 (most : Int) = some W' ∧ OkCut W' ∧ W'.length ≤ most ∧ ∀ x ∈ mdF 6 (vals c 30) [], x ∈ W' := by
    intro e he ge hel hve
    have g3 : ∀ z ∈ e ++ more, 0 ≤ z ∧ z ≤ 255 := fun z hz => (List.mem_append.1 hz).elim (ge z) (g2 z)
    refine ⟨_, ev_made (n := n) (c := e ++ more) (lo := 30) (most := most) (by rw [List.length_append]; omega) (by rw [List.length_append]; omega) g3 (by decide) (by omega), made_ok g3 (by decide) (by omega), (mdF_ok (lo := 30) (most := most) _ [] (vals_ok g3) ⟨by simp, .nil, by simp⟩).len, fun x hx => ?_⟩
    have e1 : e.length ≠ 0 := fun h => he (List.eq_nil_of_length_eq_zero h)
    have e2 : vals (e ++ more) 30 = vals e 30 ++ more.map (30 + ·) := by
      unfold vals
      rw [if_neg (by rw [List.length_append]; omega), if_neg e1, List.map_append]
    rw [e2, hve]
    exact mdF_wide (by omega) _ _ _ x hx
  rw [ev_law01_wider, chk_of (room_iff.2 (by simp; omega)), cond_if, List.nil_append]
  by_cases h0 : c.length = 0
  · have : c = [] := List.eq_nil_of_length_eq_zero h0
    subst this
    obtain ⟨W', h1, h2⟩ := key [0] (by simp) (by simp) (by simp) (by rfl)
    refine ⟨W', ?_, h2⟩
    have h1' : ev_law01_made n (([] ++ [0]) ++ more) 30 (most : Int) = some W' := h1
    rw [if_pos (by rfl), chk_of (room_iff.2 (by simp)), chk_of (room_iff.2 (by simp; omega)), bind_of h1']
  · obtain ⟨W', h1, h2⟩ := key c (fun e => h0 (by rw [e]; rfl)) g1 (by omega) rfl
    refine ⟨W', ?_, h2⟩
    rw [if_neg (by rw [beq_iff_eq]; omega), chk_of (room_iff.2 (by omega)), bind_of h1]
end Go.Proofs.Ytabjhlfgcmmbfaa.Sy
