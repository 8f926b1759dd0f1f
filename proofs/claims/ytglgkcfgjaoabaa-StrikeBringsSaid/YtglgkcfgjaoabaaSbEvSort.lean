/- Insertion sort, in plain terms: no program in sight. -/
import Derived.Test.YtglgkcfgjaoabaaSbEvL
set_option linter.unusedSimpArgs false
set_option linter.unusedVariables false
namespace Go.Proofs.Ytglgkcfgjaoabaa.Sy
open Go.RowKit
section
variable {T : Type} (c : T → T → Int)
def insIn : Nat → List T → List T
  | 0, l => l
  | j + 1, l => match l[j + 1]?, l[j]? with
    | some x, some y => if c x y < 0 then insIn j ((l.set (j + 1) y).set j x) else l
    | _, _ => l
def insOut : Nat → Nat → List T → List T
  | 0, _, l => l
  | k + 1, i, l => insOut k (i + 1) (insIn c i l)
def isort (l : List T) : List T := insOut c (l.length - 1) 1 l
theorem swap_perm {l : List T} {j : Nat} {x y : T} (hx : l[j + 1]? = some x) (hy : l[j]? = some y) : ((l.set (j + 1) y).set j x).Perm l := by
  obtain ⟨h1, rfl⟩ := List.getElem?_eq_some_iff.1 hx;obtain ⟨h2, rfl⟩ := List.getElem?_eq_some_iff.1 hy;exact List.set_set_perm h1 h2
theorem insIn_perm : ∀ (j : Nat) (l : List T), (insIn c j l).Perm l := by
  intro j
  induction j with
  | zero => intro l; exact .refl _
  | succ j ih =>
    intro l;unfold insIn
    split
    · rename_i x y hx hy
      split
      · exact (ih _).trans (swap_perm hx hy)
      · exact .refl _
    · exact .refl _
theorem insIn_length (j : Nat) (l : List T) : (insIn c j l).length = l.length := (insIn_perm c j l).length_eq
theorem insOut_perm : ∀ (k i : Nat) (l : List T), (insOut c k i l).Perm l := by
  intro k
  induction k with
  | zero => intro i l; exact .refl _
  | succ k ih => intro i l; exact (ih _ _).trans (insIn_perm c i l)
theorem isort_perm (l : List T) : (isort c l).Perm l := insOut_perm c _ _ _
theorem isort_length (l : List T) : (isort c l).length = l.length := (isort_perm c l).length_eq
def UpTo (i : Nat) (l : List T) : Prop := ∀ (p q : Nat) (x y : T), p < q → q ≤ i → l[p]? = some x → l[q]? = some y → ¬ c y x < 0
variable (ha : ∀ x y, c x y < 0 → ¬ c y x < 0) (ht : ∀ x y z, ¬ c y x < 0 → ¬ c z y < 0 → ¬ c z x < 0)
include ha ht
theorem insIn_up : ∀ (j i : Nat) (l : List T), j ≤ i → i < l.length → (∀ (p q : Nat) (x y : T), p < q → q ≤ i → q ≠ j → l[p]? = some x → l[q]? = some y → ¬ c y x < 0) → UpTo c i (insIn c j l) := by
  intro j
  induction j with
  | zero =>
    intro i l _ _ h p q x y hpq hqi hx hy;exact h p q x y hpq hqi (by omega) hx hy
  | succ j ih =>
    intro i l hj hi h;unfold insIn;have hxe : l[j + 1]? = some (l[j + 1]'(by omega)) := List.getElem?_eq_getElem _;have hye : l[j]? = some (l[j]'(by omega)) := List.getElem?_eq_getElem _;obtain ⟨a, hae⟩ : ∃ a, a = l[j + 1]'(by omega) := ⟨_, rfl⟩;obtain ⟨b, hbe⟩ : ∃ b, b = l[j]'(by omega) := ⟨_, rfl⟩;rw [← hae] at hxe;rw [← hbe] at hye;rw [hxe, hye];simp only
    split
    · rename_i hlt
      refine ih i _ (by omega) (by simp; omega) ?_;intro p q x y hpq hqi hqj hx hy;rw [List.getElem?_set] at hx hy;simp only [List.length_set] at hx hy;rw [List.getElem?_set] at hx hy;have hjl : j < l.length := by omega
      have hjl1 : j + 1 < l.length := by omega
      rw [if_neg (by omega)] at hy
      by_cases hq1 : j + 1 = q
      · subst hq1;rw [if_pos rfl, if_pos hjl1] at hy;cases hy
        by_cases hp : j = p
        · subst hp;rw [if_pos rfl, if_pos hjl] at hx;cases hx;exact ha _ _ hlt
        · rw [if_neg hp, if_neg (by omega)] at hx;exact h p j x b (by omega) (by omega) (by omega) hx hye
      · rw [if_neg hq1] at hy
        by_cases hp : j = p
        · subst hp;rw [if_pos rfl, if_pos hjl] at hx;cases hx;exact h (j + 1) q a y (by omega) hqi (by omega) hxe hy
        · rw [if_neg hp] at hx
          by_cases hp1 : j + 1 = p
          · subst hp1;rw [if_pos rfl, if_pos hjl1] at hx;cases hx;exact h j q b y (by omega) hqi (by omega) hye hy
          · rw [if_neg hp1] at hx;exact h p q x y hpq hqi (by omega) hx hy
    · rename_i hge
      intro p q x y hpq hqi hx hy
      by_cases hq : q = j + 1
      · subst hq;rw [hxe] at hy; cases hy
        by_cases hp : p = j
        · subst hp; rw [hye] at hx; cases hx; exact hge
        · exact ht _ _ _ (h p j x b (by omega) (by omega) (by omega) hx hye) hge
      · exact h p q x y hpq hqi hq hx hy
theorem insOut_up : ∀ (k i : Nat) (l : List T), i + k = l.length → 1 ≤ i → UpTo c (i - 1) l → UpTo c (i + k - 1) (insOut c k i l) := by
  intro k
  induction k with
  | zero => intro i l _ _ h; exact h
  | succ k ih =>
    intro i l hi h1 h;have := ih (i + 1) (insIn c i l) (by rw [insIn_length]; omega) (by omega) (insIn_up c ha ht i i l (Nat.le_refl _) (by omega) fun p q x y hpq hqi hqn hx hy => h p q x y hpq (by omega) hx hy);rw [show i + (k + 1) - 1 = i + 1 + k - 1 by omega];exact this
theorem isort_sorted (l : List T) : (isort c l).Pairwise fun x y => ¬ c y x < 0 := by
  rw [List.pairwise_iff_getElem];intro p q hp hq hpq;rw [isort_length] at hp hq;have := insOut_up c ha ht (l.length - 1) 1 l (by omega) (Nat.le_refl _) (fun p q x y hpq hqi _ _ => by omega);exact this p q _ _ hpq (by omega) (List.getElem?_eq_getElem _) (List.getElem?_eq_getElem _)
end
end Go.Proofs.Ytglgkcfgjaoabaa.Sy
