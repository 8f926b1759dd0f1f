/- Dials as keys of maps. -/
import Derived.Test.YtjmkjlhnipnkcaaPfKey2
import Derived.Test.YtjmkjlhnipnkcaaPfPulsePlain
set_option linter.unusedSimpArgs false
set_option linter.unusedVariables false
namespace Go.Proofs.Ytjmkjlhnipnkcaa
open Go.RowKit Go.Shelf Go.Maps
instance : DecidableEq Pu.Dl := fun a b => if h : a.s = b.s ∧ a.k = b.k then isTrue (by cases a; cases b; simp_all) else isFalse (fun e => h (by rw [e]; exact ⟨rfl, rfl⟩))
theorem le_ble {a b : Nat} (h : Nat.ble a b = true) : a ≤ b := Nat.le_of_ble_eq_true h
theorem dial_keyed : Keyed Try.prog 72 := Keyed.of_law (deep_law_gate laid_try (le_ble (by kernel_rfl)) (le_ble (by kernel_rfl)) (by kernel_rfl) (by kernel_rfl))
theorem sizes2 : ∃ m, Try.prog.types.size = m + 2 := ⟨Try.prog.types.size - 2, by have : 2 ≤ Try.prog.types.size := le_ble (by kernel_rfl); omega⟩
def dialE : KeyEnc Try.prog 72 Pu.Dl where
  K := dial_keyed
  kv d := .agg #[.int .i64 (d).s, .int .i64 (d).k]
  kl d := .string (keyBytes [.int .i64 d.s, .int .i64 d.k])
  ok d := (Lit.int .i64 d.s).wf = true ∧ (Lit.int .i64 d.k).wf = true
  enc d h := keyOf_two Try.underlying72 (by kernel_rfl) sizes2 (by kernel_rfl) (by decide) (by decide) rfl rfl Try.underlying3 Try.underlying3 (by kernel_rfl) (by kernel_rfl) h.1 h.2
  dec v l h := by
    obtain ⟨a, b, wa, wb, rfl⟩ := keyOf_two_inv Try.underlying72 (by kernel_rfl) sizes2 (by kernel_rfl) (by decide) (by decide) rfl rfl Try.underlying3 Try.underlying3 (by kernel_rfl) (by kernel_rfl) h;exact ⟨⟨a, b⟩, ⟨wa, wb⟩, rfl⟩
  inj d d' h := by
    cases d; cases d'
    simp at h;rw [h.1, h.2]
theorem dialE_kv (d : Pu.Dl) : dialE.kv d = .agg #[.int .i64 (d).s, .int .i64 (d).k] := rfl
theorem dialE_ok {d : Pu.Dl} (h0 : -1000000000 ≤ d.s) (h1 : d.s ≤ 1000000000) (h2 : -1000000000 ≤ d.k) (h3 : d.k ≤ 1000000000) : dialE.ok d :=
  ⟨WalkArith.wf_i64 ⟨by omega, by omega⟩, WalkArith.wf_i64 ⟨by omega, by omega⟩⟩
theorem zero_int (w : World) : (zeroValue 3).run Try.prog w = .ok (.int .i64 0) w := by kernel_rfl
end Go.Proofs.Ytjmkjlhnipnkcaa
