/- Maps as lists, and folds over what an iterator yields. -/
import Derived.Test.YtglgkcfgjaoabaaSbEvL
import Derived.Test.YtglgkcfgjaoabaaSbSymQJ
set_option linter.unusedSimpArgs false
set_option linter.unusedVariables false
namespace Go.Proofs.Ytglgkcfgjaoabaa.Sy
open Go.RowKit
set_option maxRecDepth 100000
def foldX {X σ : Type} (f : X → σ → Option (Nat × σ)) : List X → σ → Option σ
  | [], y => some y
  | x :: xs, y => (f x y).bind fun r => if r.1 = 0 then foldX f xs r.2 else none
theorem foldX_cons {X σ : Type} {f : X → σ → Option (Nat × σ)} {x : X} {xs : List X} {y y' : σ} (h : foldX f (x :: xs) y = some y') : ∃ y1, f x y = some (0, y1) ∧ foldX f xs y1 = some y' := by
  obtain ⟨r, h1, h2⟩ := bind_inv (show (f x y).bind _ = some y' from h)
  split at h2
  · rename_i h0
    exact ⟨r.2, by rw [h1, ← h0], h2⟩
  · cases h2
theorem foldX_step {X σ : Type} {f : X → σ → Option (Nat × σ)} {x : X} {xs : List X} {y y1 y' : σ} (h : f x y = some (0, y1)) (h2 : foldX f xs y1 = some y') : foldX f (x :: xs) y = some y' := by
  show (f x y).bind _ = some y';rw [h]; exact h2
theorem mlook_put {κ ν : Type} [BEq κ] [LawfulBEq κ] (xs : List (κ × ν)) (k k' : κ) (v : ν) : mlook (mput xs k v) k' = if (k == k') = true then some v else mlook xs k' := by
  induction xs with
  | nil => rw [mput_nil, mlook_cons, mlook_nil]
  | cons x xs ih =>
    rw [mput_cons, mlook_cons]
    by_cases h : x.1 = k
    · simp only [h, BEq.rfl, if_true, mlook_cons];cases (k == k') <;> simp
    · have h1 : (x.1 == k) = false := by simpa using h
      simp only [h1, Bool.false_eq_true, if_false, mlook_cons, ih]
      by_cases h2 : x.1 = k'
      · subst h2;have h4 : (k == x.1) = false := by simpa using Ne.symm h
        simp [h4]
      · have h3 : (x.1 == k') = false := by simpa using h2
        simp only [h3, Bool.false_eq_true, if_false]
theorem mlook_put_same {κ ν : Type} [BEq κ] [LawfulBEq κ] (xs : List (κ × ν)) (k : κ) (v : ν) : mlook (mput xs k v) k = some v := by rw [mlook_put]; simp
theorem mlook_put_ne {κ ν : Type} [BEq κ] [LawfulBEq κ] (xs : List (κ × ν)) {k k' : κ} (v : ν) (h : k ≠ k') : mlook (mput xs k v) k' = mlook xs k' := by
  have : (k == k') = false := by simpa using h
  rw [mlook_put, this]; simp
end Go.Proofs.Ytglgkcfgjaoabaa.Sy
