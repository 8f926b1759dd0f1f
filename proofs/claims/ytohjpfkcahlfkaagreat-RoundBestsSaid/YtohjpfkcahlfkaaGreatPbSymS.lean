/- The small logic of symbolic states: structs as keys of maps, zero values behind keys, made slices. -/
import Derived.Test.YtohjpfkcahlfkaaGreatPbSymR
set_option linter.unusedSimpArgs false
set_option linter.unusedVariables false
namespace Go.Proofs.YtohjpfkcahlfkaaGreat.Sy
open Go.RowKit
inductive ZL : List Value → List D → Prop where
  | nil : ZL [] []
  | v {x : Value} {l m} : x.oneCell' = true → ZL l m → ZL (x :: l) (D.v x :: m)
  | s {size l m} : ZL l m → ZL (.slice none 0 0 :: l) (D.s size [] :: m)
theorem ZL.ok {cs : List Value} {ds : List D} (h : ZL cs ds) (W : World) (R : Nat → Prop) : cs.length = ds.length ∧ ∀ (j : Nat) (d : D), ds[j]? = some d → ∃ u : Value, cs[j]? = some u ∧ d.ok W R u ∧ u.oneCell' = true := by
  induction h with
  | nil => exact ⟨rfl, fun j d hj => by simp at hj⟩
  | v hx _ ih =>
    refine ⟨by simp [ih.1], fun j d hj => ?_⟩
    cases j with
    | zero => simp at hj; subst hj; exact ⟨_, rfl, rfl, hx⟩
    | succ j => simpa using ih.2 j d (by simpa using hj)
  | s _ ih =>
    refine ⟨by simp [ih.1], fun j d hj => ?_⟩
    cases j with
    | zero => simp at hj; subst hj; exact ⟨_, rfl, ⟨none, 0, rfl, Nat.le_refl _, Nat.zero_le _, fun _ => rfl, fun i el hi => by simp at hi⟩, rfl⟩
    | succ j => simpa using ih.2 j d (by simpa using hj)
theorem findNow_array {n E : Nat} (k : Value) (es : List MapEntry) (i : Nat) : Instr.findNow (.array n E) k es i = if es = [] then some none else none := by
  cases es with
  | nil => rfl
  | cons e es =>
    simp only [Instr.findNow]
    have : Instr.sameNow (.array n E) k e.key = none := by unfold Instr.sameNow; rfl
    simp [this]
section
variable {P : Program} {c : Ctx} {sz : Fm} {Q : Exit → Act → World → Prop} {t : List Item} {s : List (Nat × AV)} {V : List NEnt}
theorem nilRowC (d n E size : Nat) (els : List (List D)) (he : els = []) (hs : look s d = some (.val (.slice none 0 0))) (hf : freshN [.row n E size els] s V = true)
    (h : TC P c sz Q t ((d, .ref n) :: s) (.row n E size els :: V)) : TC P c sz Q t s V := (nilRowM (ops := #[]) (rest := []) d n E size els he hs hf).1 h
end
end Go.Proofs.YtohjpfkcahlfkaaGreat.Sy
