/- What functions come to that every package has: printed by specs.py. -/
import Derived.Test.YthgbjhglhejalaaBRGLib
import Derived.Test.YthgbjhglhejalaaBREvSort
set_option linter.unusedSimpArgs false
set_option linter.unusedVariables false
namespace Go.Proofs.Ythgbjhglhejalaa.Sy
open Go.RowKit
set_option maxRecDepth 100000
theorem ix_Lint_int {n : Nat} {s : List Int} {f : Int → Option Bool} {g : Int → Bool} (hg : ∀ x ∈ s, f x = some (g x)) (hl : s.length ≤ 4611686018427387904) : ∀ (m i : Nat), s.length < m + i → i ≤ s.length →
    ∃ r, ev_slices_IndexFunc_Lint_int_l0 n s f m (i : Int) = some r ∧ decide (0 ≤ r) = (s.drop i).any g := by
  intro m
  induction m with
  | zero => intro i h1 h2; omega
  | succ m ih =>
    intro i h1 h2;rw [ev_slices_IndexFunc_Lint_int_l0, cond_if]
    by_cases h : i < s.length
    · rw [if_pos (by simp; omega), idx_nat (List.getElem?_eq_getElem h), bind_of (hg _ (List.getElem_mem h)), cond_if, List.drop_eq_getElem_cons h, List.any_cons]
      cases hb : g s[i] with
      | true => rw [if_pos rfl]; exact ⟨_, rfl, by simp⟩
      | false =>
        rw [if_neg (by simp), chk_of (in64_of (by omega))];obtain ⟨r, h3, h4⟩ := ih (i + 1) (by omega) (by omega);exact ⟨r, by rw [← h3]; congr 1, by simpa using h4⟩
    · rw [if_neg (by simp; omega)];exact ⟨_, rfl, by rw [List.drop_eq_nil_of_le (by omega)]; rfl⟩
theorem cf_Lint_int {n : Nat} {s : List Int} {f : Int → Option Bool} {g : Int → Bool} (hg : ∀ x ∈ s, f x = some (g x)) (hl : s.length ≤ 4611686018427387904) (hn : s.length < n) : ev_slices_ContainsFunc_Lint_int n s f = some (s.any g) := by
  obtain ⟨r, h1, h2⟩ := ix_Lint_int (n := n) hg hl n 0 (by omega) (by omega);rw [ev_slices_ContainsFunc_Lint_int, ev_slices_IndexFunc_Lint_int];have h1' : ev_slices_IndexFunc_Lint_int_l0 n s f n 0 = some r := h1;rw [bind_of h1', h2]; rfl
theorem ix_Lapi_BeatRod_api_BeatRod {n : Nat} {s : List (Int × Int × Int × Bool)} {f : (Int × Int × Int × Bool) → Option Bool} {g : (Int × Int × Int × Bool) → Bool} (hg : ∀ x ∈ s, f x = some (g x)) (hl : s.length ≤ 4611686018427387904) : ∀ (m i : Nat), s.length < m + i → i ≤ s.length →
    ∃ r, ev_slices_IndexFunc_Lapi_BeatRod_api_BeatRod_l0 n s f m (i : Int) = some r ∧ decide (0 ≤ r) = (s.drop i).any g := by
  intro m
  induction m with
  | zero => intro i h1 h2; omega
  | succ m ih =>
    intro i h1 h2;rw [ev_slices_IndexFunc_Lapi_BeatRod_api_BeatRod_l0, cond_if]
    by_cases h : i < s.length
    · rw [if_pos (by simp; omega), idx_nat (List.getElem?_eq_getElem h), bind_of (hg _ (List.getElem_mem h)), cond_if, List.drop_eq_getElem_cons h, List.any_cons]
      cases hb : g s[i] with
      | true => rw [if_pos rfl]; exact ⟨_, rfl, by simp⟩
      | false =>
        rw [if_neg (by simp), chk_of (in64_of (by omega))];obtain ⟨r, h3, h4⟩ := ih (i + 1) (by omega) (by omega);exact ⟨r, by rw [← h3]; congr 1, by simpa using h4⟩
    · rw [if_neg (by simp; omega)];exact ⟨_, rfl, by rw [List.drop_eq_nil_of_le (by omega)]; rfl⟩
theorem cf_Lapi_BeatRod_api_BeatRod {n : Nat} {s : List (Int × Int × Int × Bool)} {f : (Int × Int × Int × Bool) → Option Bool} {g : (Int × Int × Int × Bool) → Bool} (hg : ∀ x ∈ s, f x = some (g x)) (hl : s.length ≤ 4611686018427387904) (hn : s.length < n) : ev_slices_ContainsFunc_Lapi_BeatRod_api_BeatRod n s f = some (s.any g) := by
  obtain ⟨r, h1, h2⟩ := ix_Lapi_BeatRod_api_BeatRod (n := n) hg hl n 0 (by omega) (by omega);rw [ev_slices_ContainsFunc_Lapi_BeatRod_api_BeatRod, ev_slices_IndexFunc_Lapi_BeatRod_api_BeatRod];have h1' : ev_slices_IndexFunc_Lapi_BeatRod_api_BeatRod_l0 n s f n 0 = some r := h1;rw [bind_of h1', h2]; rfl
theorem ix_L_2_api_Span_2_api_Span {n : Nat} {s : List (Int × Int × Int × Int)} {f : (Int × Int × Int × Int) → Option Bool} {g : (Int × Int × Int × Int) → Bool} (hg : ∀ x ∈ s, f x = some (g x)) (hl : s.length ≤ 4611686018427387904) : ∀ (m i : Nat), s.length < m + i → i ≤ s.length →
    ∃ r, ev_slices_IndexFunc_L_2_api_Span_2_api_Span_l0 n s f m (i : Int) = some r ∧ decide (0 ≤ r) = (s.drop i).any g := by
  intro m
  induction m with
  | zero => intro i h1 h2; omega
  | succ m ih =>
    intro i h1 h2;rw [ev_slices_IndexFunc_L_2_api_Span_2_api_Span_l0, cond_if]
    by_cases h : i < s.length
    · rw [if_pos (by simp; omega), idx_nat (List.getElem?_eq_getElem h), bind_of (hg _ (List.getElem_mem h)), cond_if, List.drop_eq_getElem_cons h, List.any_cons]
      cases hb : g s[i] with
      | true => rw [if_pos rfl]; exact ⟨_, rfl, by simp⟩
      | false =>
        rw [if_neg (by simp), chk_of (in64_of (by omega))];obtain ⟨r, h3, h4⟩ := ih (i + 1) (by omega) (by omega);exact ⟨r, by rw [← h3]; congr 1, by simpa using h4⟩
    · rw [if_neg (by simp; omega)];exact ⟨_, rfl, by rw [List.drop_eq_nil_of_le (by omega)]; rfl⟩
theorem cf_L_2_api_Span_2_api_Span {n : Nat} {s : List (Int × Int × Int × Int)} {f : (Int × Int × Int × Int) → Option Bool} {g : (Int × Int × Int × Int) → Bool} (hg : ∀ x ∈ s, f x = some (g x)) (hl : s.length ≤ 4611686018427387904) (hn : s.length < n) : ev_slices_ContainsFunc_L_2_api_Span_2_api_Span n s f = some (s.any g) := by
  obtain ⟨r, h1, h2⟩ := ix_L_2_api_Span_2_api_Span (n := n) hg hl n 0 (by omega) (by omega);rw [ev_slices_ContainsFunc_L_2_api_Span_2_api_Span, ev_slices_IndexFunc_L_2_api_Span_2_api_Span];have h1' : ev_slices_IndexFunc_L_2_api_Span_2_api_Span_l0 n s f n 0 = some r := h1;rw [bind_of h1', h2]; rfl
end Go.Proofs.Ythgbjhglhejalaa.Sy
