/- Evaluating what the symbolic contracts compute. -/
import Derived.Test.YthgbjhglhejalaaBRSymO
import Derived.Test.YthgbjhglhejalaaBRSymQJ
set_option linter.unusedSimpArgs false
set_option linter.unusedVariables false
namespace Go.Proofs.Ythgbjhglhejalaa.Sy
open Go.RowKit
theorem chk_of {α : Type} {b : Bool} {k : Option α} (h : b = true) : chk b k = k := by subst h; rfl
theorem idx_of {α β : Type} {xs : List α} {i : Int} {k : α → Option β} {x : α} (h0 : 0 ≤ i) (h : xs[i.toNat]? = some x) : idx xs i k = k x := by
  unfold idx; rw [chk_of (by simpa using h0), h]; rfl
theorem idx_nat {α β : Type} {xs : List α} {i : Nat} {k : α → Option β} {x : α} (h : xs[i]? = some x) : idx xs (i : Int) k = k x := idx_of (by omega) (by simpa using h)
theorem cond_if {α : Type} {b : Bool} {x y : α} : cond b x y = if b = true then x else y := by cases b <;> rfl
theorem bind_of {α β : Type} {e : Option α} {k : α → Option β} {x : α} (h : e = some x) : e.bind k = k x := by subst h; rfl
theorem in64_of {z : Int} (h : -9223372036854775808 ≤ z ∧ z ≤ 9223372036854775807) : in64 z = true := in64_iff.2 h
theorem inK8_iff {z : Int} : inK .u8 z = true ↔ 0 ≤ z ∧ z ≤ 255 := by
  simp only [inK, fits, IntKind.wrap, decide_eq_true_eq];simp [IntKind.bits, IntKind.signed]
  omega
theorem wf8 {z : Int} : (Lit.int .u8 z).wf = true ↔ 0 ≤ z ∧ z ≤ 255 := by
  simp only [Lit.wf, Bool.and_eq_true, decide_eq_true_eq, show IntKind.u8.min = 0 from rfl, show IntKind.u8.max = 255 from rfl]
theorem room_iff {b n : Nat} : room b n = true ↔ n * b ≤ 140737488355328 ∧ n ≤ 140737488355327 := by simp [room]
end Go.Proofs.Ythgbjhglhejalaa.Sy
