/- What functions come to that every package has: printed by specs.py. -/
import Derived.Test.YtglgkcfgjaoabaaSbGLib
import Derived.Test.YtglgkcfgjaoabaaSbEvSort
set_option linter.unusedSimpArgs false
set_option linter.unusedVariables false
namespace Go.Proofs.Ytglgkcfgjaoabaa.Sy
open Go.RowKit
set_option maxRecDepth 100000
theorem ix_Lint_int {n : Nat} {s : List Int} {f : Int → Option Bool} {g : Int → Bool} (hg : ∀ x ∈ s, f x = some (g x)) (hl : s.length ≤ 4611686018427387904) : ∀ (m i : Nat), s.length < m + i → i ≤ s.length →
    ∃ r, ev_slices_IndexFunc_Lint_int_l0 n s f m (i : Int) = some r ∧ decide (0 ≤ r) = (s.drop i).any g := by
  intro m
  induction m with
  | zero => intro i h1 h2; omega
  | succ m ih =>
    intro i h1 h2;rw [ev_slices_IndexFunc_Lint_int_l0, cond_if]
    by_cases h : i < s.length
    · rw [if_pos (by simp; omega), idx_nat (List.getElem?_eq_getElem h), bind_of (hg _ (List.getElem_mem h)), cond_if, List.drop_eq_getElem_cons h, List.any_cons]
      cases hb : g s[i] with
      | true => rw [if_pos rfl]; exact ⟨_, rfl, by simp⟩
      | false =>
        rw [if_neg (by simp), chk_of (in64_of (by omega))];obtain ⟨r, h3, h4⟩ := ih (i + 1) (by omega) (by omega);exact ⟨r, by rw [← h3]; congr 1, by simpa using h4⟩
    · rw [if_neg (by simp; omega)];exact ⟨_, rfl, by rw [List.drop_eq_nil_of_le (by omega)]; rfl⟩
theorem cf_Lint_int {n : Nat} {s : List Int} {f : Int → Option Bool} {g : Int → Bool} (hg : ∀ x ∈ s, f x = some (g x)) (hl : s.length ≤ 4611686018427387904) (hn : s.length < n) : ev_slices_ContainsFunc_Lint_int n s f = some (s.any g) := by
  obtain ⟨r, h1, h2⟩ := ix_Lint_int (n := n) hg hl n 0 (by omega) (by omega);rw [ev_slices_ContainsFunc_Lint_int, ev_slices_IndexFunc_Lint_int];have h1' : ev_slices_IndexFunc_Lint_int_l0 n s f n 0 = some r := h1;rw [bind_of h1', h2]; rfl
theorem ix_Lapi_Span_api_Span {n : Nat} {s : List (Int × Int)} {f : (Int × Int) → Option Bool} {g : (Int × Int) → Bool} (hg : ∀ x ∈ s, f x = some (g x)) (hl : s.length ≤ 4611686018427387904) : ∀ (m i : Nat), s.length < m + i → i ≤ s.length →
    ∃ r, ev_slices_IndexFunc_Lapi_Span_api_Span_l0 n s f m (i : Int) = some r ∧ decide (0 ≤ r) = (s.drop i).any g := by
  intro m
  induction m with
  | zero => intro i h1 h2; omega
  | succ m ih =>
    intro i h1 h2;rw [ev_slices_IndexFunc_Lapi_Span_api_Span_l0, cond_if]
    by_cases h : i < s.length
    · rw [if_pos (by simp; omega), idx_nat (List.getElem?_eq_getElem h), bind_of (hg _ (List.getElem_mem h)), cond_if, List.drop_eq_getElem_cons h, List.any_cons]
      cases hb : g s[i] with
      | true => rw [if_pos rfl]; exact ⟨_, rfl, by simp⟩
      | false =>
        rw [if_neg (by simp), chk_of (in64_of (by omega))];obtain ⟨r, h3, h4⟩ := ih (i + 1) (by omega) (by omega);exact ⟨r, by rw [← h3]; congr 1, by simpa using h4⟩
    · rw [if_neg (by simp; omega)];exact ⟨_, rfl, by rw [List.drop_eq_nil_of_le (by omega)]; rfl⟩
theorem cf_Lapi_Span_api_Span {n : Nat} {s : List (Int × Int)} {f : (Int × Int) → Option Bool} {g : (Int × Int) → Bool} (hg : ∀ x ∈ s, f x = some (g x)) (hl : s.length ≤ 4611686018427387904) (hn : s.length < n) : ev_slices_ContainsFunc_Lapi_Span_api_Span n s f = some (s.any g) := by
  obtain ⟨r, h1, h2⟩ := ix_Lapi_Span_api_Span (n := n) hg hl n 0 (by omega) (by omega);rw [ev_slices_ContainsFunc_Lapi_Span_api_Span, ev_slices_IndexFunc_Lapi_Span_api_Span];have h1' : ev_slices_IndexFunc_Lapi_Span_api_Span_l0 n s f n 0 = some r := h1;rw [bind_of h1', h2]; rfl
def lessI (x y : Int) : Int := if x < y then -1 else 0
theorem sortL_sorted (l : List Int) : (sortL l).Pairwise (· ≤ ·) := by
  have := List.pairwise_mergeSort (le := fun x y : Int => decide (x ≤ y)) (fun a b c h1 h2 => by simp only [decide_eq_true_eq] at *; omega) (fun a b => by simp only [Bool.or_eq_true, decide_eq_true_eq]; omega) l;exact this.imp fun h => by simpa using h
theorem sortL_perm (l : List Int) : (sortL l).Perm l := List.mergeSort_perm l _
theorem sortL_eq (l : List Int) : sortL l = isort lessI l := by
  refine List.Perm.eq_of_pairwise (le := fun a b : Int => a ≤ b) (fun a b _ _ h1 h2 => by omega) (sortL_sorted l) ?_ ((sortL_perm l).trans (isort_perm lessI l).symm);refine (isort_sorted lessI (fun x y h => ?_) (fun x y z h1 h2 => ?_) l).imp fun {x y} h => ?_
  · simp only [lessI] at *; split at h <;> split <;> omega
  · simp only [lessI] at *; split at h1 <;> split at h2 <;> split <;> omega
  · simp only [lessI] at h; split at h <;> omega
theorem so_int {n : Nat} (l : List Int) (hn : 14 < n) (hl : l.length ≤ 1000000) (hP : True) : ev_slices_Sort_Lint_int n l = some (isort lessI l) := by
  rw [ev_slices_Sort_Lint_int, chk_of (room_iff.2 (by omega)), sortL_eq]
end Go.Proofs.Ytglgkcfgjaoabaa.Sy
