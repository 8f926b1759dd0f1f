/- A struct of two ints as a key of maps. -/
import Derived.Test.YtjmkjlhnipnkcaaPfIMap
import Derived.DeepKeys5
set_option linter.unusedSimpArgs false
set_option linter.unusedVariables false
set_option linter.unusedSectionVars false
namespace Go.Proofs.Ytjmkjlhnipnkcaa
open Go.RowKit Go.Shelf Go.Maps
theorem laid_try : laidOutB Try.prog = true := by kernel_rfl
theorem keyLits_int {P : Program} {d : Nat} {T : TypeId} {q : IntKind} (hT : P.underlying T = some (.int q)) {z : Value} {l : List Lit} (h : P.keyLits (d + 1) T [z] = some l) : ∃ n, z = .int q n ∧ (Lit.int q n).wf = true ∧ l = [.int q n] := by
  cases z <;> simp [Program.keyLits, hT] at h
  obtain ⟨⟨rfl, hw⟩, rfl⟩ := h;exact ⟨_, rfl, hw, rfl⟩
section
variable {P : Program} {K : TypeId} {f0 f1 : Field} (hu : P.underlying K = some (.struct #[f0, f1])) (hkt : P.keyType K = true) (hsz : ∃ m, P.types.size = m + 2) (hc : P.cellsOf K = 2)
    (h0 : f0.name ≠ "_") (h1 : f1.name ≠ "_") (o0 : f0.offset = 0) (o1 : f1.offset = 1) (t0 : P.underlying f0.type = some (.int .i64)) (t1 : P.underlying f1.type = some (.int .i64)) (c0 : P.cellsOf f0.type = 1) (c1 : P.cellsOf f1.type = 1)
include hu hkt hsz hc h0 h1 o0 o1 t0 t1 c0 c1
theorem keyOf_two {a b : Int} (wa : (Lit.int .i64 a).wf = true) (wb : (Lit.int .i64 b).wf = true) :
    keyOf P K (.agg #[.int .i64 a, .int .i64 b]) = some (.string (keyBytes [.int .i64 a, .int .i64 b])) := by
  obtain ⟨m, hm⟩ := hsz;unfold keyOf;simp only [hu];rw [if_pos (by simp [hkt, Value.formed, hu, hc]), hm];unfold Program.keyLits;simp only [hu, Value.cells];rw [if_pos (by simp [hc, h0, h1])];simp [o0, o1, c0, c1, Program.keyLits, t0, t1, wa, wb]
theorem keyOf_two_inv {v : Value} {l : Lit} (h : keyOf P K v = some l) : ∃ a b, (Lit.int .i64 a).wf = true ∧ (Lit.int .i64 b).wf = true ∧ v = .agg #[.int .i64 a, .int .i64 b] := by
  obtain ⟨m, hm⟩ := hsz;unfold keyOf at h;simp only [hu] at h
  split at h
  case isFalse => cases h
  case isTrue hf =>
  simp only [Bool.and_eq_true] at hf;obtain ⟨_, hf⟩ := hf;cases v <;> simp [Value.formed, hu] at hf
  rename_i cs
  rw [hc] at hf;obtain ⟨x, y, rfl⟩ : ∃ x y, cs = #[x, y] := ⟨cs[0]'(by omega), cs[1]'(by omega), by
    apply Array.ext
    · simp [hf]
    · intro i h1 h2;have : i = 0 ∨ i = 1 := by omega
      rcases this with rfl | rfl <;> rfl⟩
  rw [hm] at h;unfold Program.keyLits at h;simp only [hu, Value.cells] at h;rw [if_pos (by simp [hc, h0, h1]), List.mapM_cons, List.mapM_cons, List.mapM_nil, o0, o1, c0, c1] at h;simp only [bind, Option.bind_eq_some_iff, pure, Option.some.injEq, Option.map_eq_some_iff] at h;obtain ⟨_, ⟨_, ⟨l0, h2, _, ⟨l1, h3, _⟩, _⟩, _⟩, _⟩ := h;obtain ⟨a, rfl, wa, _⟩ := keyLits_int (d := m + 1) t0 h2;obtain ⟨b, rfl, wb, _⟩ := keyLits_int (d := m + 1) t1 h3;exact ⟨a, b, wa, wb, rfl⟩
end
end Go.Proofs.Ytjmkjlhnipnkcaa
