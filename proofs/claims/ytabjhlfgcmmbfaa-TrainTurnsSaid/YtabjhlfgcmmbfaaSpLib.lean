/- What functions come to that every package has: printed by specs.py. -/
import Derived.Test.YtabjhlfgcmmbfaaGLib
import Derived.Test.YtabjhlfgcmmbfaaEvSort
set_option linter.unusedSimpArgs false
set_option linter.unusedVariables false
namespace Go.Proofs.Ytabjhlfgcmmbfaa.Sy
open Go.RowKit
set_option maxRecDepth 100000

theorem ix_Lapi_TrainPair_api_TrainPair {n : Nat} {s : List (Int × Int)} {f : (Int × Int) → Option Bool} {g : (Int × Int) → Bool} (hg : ∀ x ∈ s, f x = some (g x)) (hl : s.length ≤ 4611686018427387904) : ∀ (m i : Nat), s.length < m + i → i ≤ s.length →
    ∃ r, ev_slices_IndexFunc_Lapi_TrainPair_api_TrainPair_l0 n s f m (i : Int) = some r ∧ decide (0 ≤ r) = (s.drop i).any g := by
  intro m
  induction m with
  | zero => intro i h1 h2; omega
  | succ m ih =>
    intro i h1 h2
    rw [ev_slices_IndexFunc_Lapi_TrainPair_api_TrainPair_l0, cond_if]
    by_cases h : i < s.length
    · rw [if_pos (by simp; omega), idx_nat (List.getElem?_eq_getElem h), bind_of (hg _ (List.getElem_mem h)), cond_if, List.drop_eq_getElem_cons h, List.any_cons]
      cases hb : g s[i] with
      | true => rw [if_pos rfl]; exact ⟨_, rfl, by simp⟩
      | false =>
        rw [if_neg (by simp), chk_of (in64_of (by omega))]
        obtain ⟨r, h3, h4⟩ := ih (i + 1) (by omega) (by omega)
        exact ⟨r, by rw [← h3]; congr 1, by simpa using h4⟩
    · rw [if_neg (by simp; omega)]
      exact ⟨_, rfl, by rw [List.drop_eq_nil_of_le (by omega)]; rfl⟩
theorem cf_Lapi_TrainPair_api_TrainPair {n : Nat} {s : List (Int × Int)} {f : (Int × Int) → Option Bool} {g : (Int × Int) → Bool} (hg : ∀ x ∈ s, f x = some (g x)) (hl : s.length ≤ 4611686018427387904) (hn : s.length < n) : ev_slices_ContainsFunc_Lapi_TrainPair_api_TrainPair n s f = some (s.any g) := by
  obtain ⟨r, h1, h2⟩ := ix_Lapi_TrainPair_api_TrainPair (n := n) hg hl n 0 (by omega) (by omega)
  rw [ev_slices_ContainsFunc_Lapi_TrainPair_api_TrainPair, ev_slices_IndexFunc_Lapi_TrainPair_api_TrainPair]
  have h1' : ev_slices_IndexFunc_Lapi_TrainPair_api_TrainPair_l0 n s f n 0 = some r := h1
  rw [bind_of h1', h2]; rfl
theorem ix_Lint_int {n : Nat} {s : List Int} {f : Int → Option Bool} {g : Int → Bool} (hg : ∀ x ∈ s, f x = some (g x)) (hl : s.length ≤ 4611686018427387904) : ∀ (m i : Nat), s.length < m + i → i ≤ s.length →
    ∃ r, ev_slices_IndexFunc_Lint_int_l0 n s f m (i : Int) = some r ∧ decide (0 ≤ r) = (s.drop i).any g := by
  intro m
  induction m with
  | zero => intro i h1 h2; omega
  | succ m ih =>
    intro i h1 h2
    rw [ev_slices_IndexFunc_Lint_int_l0, cond_if]
    by_cases h : i < s.length
    · rw [if_pos (by simp; omega), idx_nat (List.getElem?_eq_getElem h), bind_of (hg _ (List.getElem_mem h)), cond_if, List.drop_eq_getElem_cons h, List.any_cons]
      cases hb : g s[i] with
      | true => rw [if_pos rfl]; exact ⟨_, rfl, by simp⟩
      | false =>
        rw [if_neg (by simp), chk_of (in64_of (by omega))]
        obtain ⟨r, h3, h4⟩ := ih (i + 1) (by omega) (by omega)
        exact ⟨r, by rw [← h3]; congr 1, by simpa using h4⟩
    · rw [if_neg (by simp; omega)]
      exact ⟨_, rfl, by rw [List.drop_eq_nil_of_le (by omega)]; rfl⟩
theorem cf_Lint_int {n : Nat} {s : List Int} {f : Int → Option Bool} {g : Int → Bool} (hg : ∀ x ∈ s, f x = some (g x)) (hl : s.length ≤ 4611686018427387904) (hn : s.length < n) : ev_slices_ContainsFunc_Lint_int n s f = some (s.any g) := by
  obtain ⟨r, h1, h2⟩ := ix_Lint_int (n := n) hg hl n 0 (by omega) (by omega)
  rw [ev_slices_ContainsFunc_Lint_int, ev_slices_IndexFunc_Lint_int]
  have h1' : ev_slices_IndexFunc_Lint_int_l0 n s f n 0 = some r := h1
  rw [bind_of h1', h2]; rfl
theorem bits_ok {n L : Nat} (h : L ≤ 12) : ∃ r, ev_math_bits_Len n (IntKind.u64.wrap (L : Int)) = some r := by
  match L, h with
  | 0, _ => exact ⟨_, rfl⟩
  | 1, _ => exact ⟨_, rfl⟩
  | 2, _ => exact ⟨_, rfl⟩
  | 3, _ => exact ⟨_, rfl⟩
  | 4, _ => exact ⟨_, rfl⟩
  | 5, _ => exact ⟨_, rfl⟩
  | 6, _ => exact ⟨_, rfl⟩
  | 7, _ => exact ⟨_, rfl⟩
  | 8, _ => exact ⟨_, rfl⟩
  | 9, _ => exact ⟨_, rfl⟩
  | 10, _ => exact ⟨_, rfl⟩
  | 11, _ => exact ⟨_, rfl⟩
  | 12, _ => exact ⟨_, rfl⟩
  | L + 13, h => omega
def lessI (x y : Int) : Int := if x < y then -1 else 0
theorem less_ok {n : Nat} (x y : Int) : ev_cmp_Less_int n x y = some (decide (lessI x y < 0)) := by
  simp only [ev_cmp_Less_int, ev_cmp_isNaN_int, lessI, cond_if, Option.bind_some, bind_of, bne_self_eq_false, Bool.false_eq_true, if_false]
  by_cases h : x < y <;> simp [h]
theorem si_int {n : Nat}  {i5 : Int} {k : Int → List Int → Option (List Int)} : ∀ (j m : Nat) (l : List Int), j < m → j < l.length → l.length ≤ 4611686018427387904 → True →
    ev_slices_insertionSortOrdered_int_l1 n 0 i5 k m (j : Int) l = chk (in64 (i5 + 1)) (k (i5 + 1) (insIn lessI j l)) := by
  intro j
  induction j with
  | zero =>
    intro m l hm hj hl hP
    cases m with
    | zero => omega
    | succ m => rw [ev_slices_insertionSortOrdered_int_l1, cond_if, if_neg (by simp)]; rfl
  | succ j ih =>
    intro m l hm hj hl hP
    cases m with
    | zero => omega
    | succ m =>
      obtain ⟨a, hx⟩ : ∃ a, l[j + 1]? = some a := ⟨_, List.getElem?_eq_getElem hj⟩
      obtain ⟨b, hy⟩ : ∃ b, l[j]? = some b := ⟨_, List.getElem?_eq_getElem (by omega)⟩
      have e : (((j + 1 : Nat) : Int) - 1) = (j : Int) := by omega
      rw [ev_slices_insertionSortOrdered_int_l1, e, cond_if, if_pos (by rw [decide_eq_true_eq]; omega), idx_nat hx, chk_of (in64_of (by omega)), idx_nat hy, bind_of (less_ok a b), cond_if, insIn, hx, hy]
      simp only
      by_cases hlt : lessI a b < 0
      · rw [if_pos (by simpa using hlt), if_pos hlt, chk_of (in64_of (by omega)), chk_of (in64_of (by omega)), idx_nat (x := b) (by rw [Int.toNat_natCast, List.getElem?_set, if_neg (by omega)]; exact hy), chk_of (in64_of (by omega)), Int.toNat_natCast, Int.toNat_natCast]
        exact ih m _ (by omega) (by simp; omega) (by simpa using hl) trivial
      · rw [if_neg (by simpa using hlt), if_neg hlt]
theorem sj_int {n : Nat}  {b3 : Nat} (hn : b3 < n) : ∀ (k m i : Nat) (l : List Int), i + k = b3 → l.length = b3 → 1 ≤ i → k < m → l.length ≤ 4611686018427387904 → True →
    ev_slices_insertionSortOrdered_int_l0 n (b3 : Int) 0 m (i : Int) l = some (insOut lessI k i l) := by
  intro k
  induction k with
  | zero =>
    intro m i l hi hb h1 hm hl hP
    cases m with
    | zero => omega
    | succ m => rw [ev_slices_insertionSortOrdered_int_l0, cond_if, if_neg (by simp; omega)]; rfl
  | succ k ih =>
    intro m i l hi hb h1 hm hl hP
    cases m with
    | zero => omega
    | succ m =>
      rw [ev_slices_insertionSortOrdered_int_l0, cond_if, if_pos (by simp; omega), si_int  i n l (by omega) (by omega) hl hP, chk_of (in64_of (by omega))]
      exact ih m (i + 1) _ (by omega) (by rw [insIn_length]; omega) (by omega) (by omega) (by rw [insIn_length]; omega) trivial
theorem sk_int {n : Nat}  (l : List Int) (hn : l.length < n) (hl : l.length ≤ 4611686018427387904) (hP : True) : ev_slices_insertionSortOrdered_int n l 0 (l.length : Int) = some (isort lessI l) := by
  rw [ev_slices_insertionSortOrdered_int, chk_of (by decide)]
  cases hz : l.length with
  | zero =>
    have := sj_int  (b3 := 0) (n := n) (by omega) 0 n 1 l
    cases n with
    | zero => omega
    | succ n => rw [ev_slices_insertionSortOrdered_int_l0, cond_if, if_neg (by simp)] <;> simp [isort, hz, insOut]
  | succ q =>
    have := sj_int  (b3 := q + 1) (n := n) (by omega) q n 1 l (by omega) hz (by omega) (by omega) hl hP
    rw [isort, hz]; exact this
theorem so_int {n : Nat}  (l : List Int) (hn : 14 < n) (hl : l.length ≤ 12) (hP : True) : ev_slices_Sort_Lint_int n l = some (isort lessI l) := by
  obtain ⟨r, hr⟩ := bits_ok (n := n) hl
  have hq : ev_slices_pdqsortOrdered_int n l 0 (l.length : Int) r = some (isort lessI l) := by
    cases n with
    | zero => omega
    | succ n =>
      rw [ev_slices_pdqsortOrdered_int, ev_slices_pdqsortOrdered_int_l0, chk_of (in64_of (by omega)), cond_if, if_pos (by simp; omega), bind_of (sk_int  l (by omega) (by omega) hP)]
  rw [ev_slices_Sort_Lint_int, bind_of hr, bind_of hq]
end Go.Proofs.Ytabjhlfgcmmbfaa.Sy
