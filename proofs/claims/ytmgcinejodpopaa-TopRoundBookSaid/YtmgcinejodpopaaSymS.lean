/- The small logic of symbolic states: structs as keys of maps, zero values behind keys, made slices. -/
import Derived.Test.YtmgcinejodpopaaSymR
set_option linter.unusedSimpArgs false
set_option linter.unusedVariables false
namespace Go.Proofs.Ytmgcinejodpopaa.Sy
open Go.RowKit

inductive ZL : List Value → List D → Prop where
  | nil : ZL [] []
  | v {x : Value} {l m} : x.oneCell' = true → ZL l m → ZL (x :: l) (D.v x :: m)
  | s {size l m} : ZL l m → ZL (.slice none 0 0 :: l) (D.s size [] :: m)
theorem ZL.ok {cs : List Value} {ds : List D} (h : ZL cs ds) (W : World) (R : Nat → Prop) : cs.length = ds.length ∧ ∀ (j : Nat) (d : D), ds[j]? = some d → ∃ u : Value, cs[j]? = some u ∧ d.ok W R u ∧ u.oneCell' = true := by
  induction h with
  | nil => exact ⟨rfl, fun j d hj => by simp at hj⟩
  | v hx _ ih =>
    refine ⟨by simp [ih.1], fun j d hj => ?_⟩
    cases j with
    | zero => simp at hj; subst hj; exact ⟨_, rfl, rfl, hx⟩
    | succ j => simpa using ih.2 j d (by simpa using hj)
  | s _ ih =>
    refine ⟨by simp [ih.1], fun j d hj => ?_⟩
    cases j with
    | zero => simp at hj; subst hj; exact ⟨_, rfl, ⟨none, 0, rfl, Nat.le_refl _, Nat.zero_le _, fun _ => rfl, fun i el hi => by simp at hi⟩, rfl⟩
    | succ j => simpa using ih.2 j d (by simpa using hj)
theorem zok {ag : Bool} {z : Value} {cs : List Value} {ds : List D} (h : ZL cs ds) (h1 : z.cells = cs.toArray) (h2 : z = if ag then .agg cs.toArray else cs.headD undef) (W : World) (R : Nat → Prop) : VOk ag ds W R z :=
  ⟨cs, h1, h2, (h.ok W R).1, (h.ok W R).2⟩
/-- keys that are structs -/
theorem findNow_struct {fs : Array Field} (k : Value) (es : List MapEntry) (i : Nat) : Instr.findNow (.struct fs) k es i = if es = [] then some none else none := by
  cases es with
  | nil => rfl
  | cons e es =>
    simp only [Instr.findNow]
    have : Instr.sameNow (.struct fs) k e.key = none := by unfold Instr.sameNow; rfl
    simp [this]
theorem findNow_array {n E : Nat} (k : Value) (es : List MapEntry) (i : Nat) : Instr.findNow (.array n E) k es i = if es = [] then some none else none := by
  cases es with
  | nil => rfl
  | cons e es =>
    simp only [Instr.findNow]
    have : Instr.sameNow (.array n E) k e.key = none := by unfold Instr.sameNow; rfl
    simp [this]
theorem findAsk {P : Program} {K : TypeId} {κ : Type} [DecidableEq κ] {ek : κ → Value} (hq : ∀ k k' w, (Op.equal K (ek k) (ek k')).run P w = .ok (decide (k = k')) w) (k : κ) : ∀ (es : List MapEntry) (ks : List κ) (i : Nat) (w : World), es.map (·.key) = ks.map ek →
    (Instr.findAsking K (ek k) es i).run P w = .ok ((ks.findIdx? (· == k)).bind fun j => (es[j]?).map fun e => (i + j, e.val)) w := by
  intro es
  induction es with
  | nil => intro ks i w h; cases ks <;> first | rfl | cases h
  | cons e es ih =>
    intro ks i w h
    cases ks with
    | nil => cases h
    | cons z ks =>
      simp only [List.map_cons, List.cons.injEq] at h
      simp only [Instr.findAsking, h.1, Sem.run_bind, hq, Result.andThen_ok, List.findIdx?_cons]
      by_cases hz : k = z
      · subst hz; simp
      · have h2 : (z == k) = false := by simpa using Ne.symm hz
        simp only [hz, decide_false, Bool.false_eq_true, if_false, h2, ih ks (i + 1) w h.2]
        cases ks.findIdx? (· == k) <;> simp
        rename_i j
        cases es[j]? <;> simp
        omega
theorem mkey_agg {P : Program} {M K V : TypeId} {κ : Type} [DecidableEq κ] {ek : κ → Value} {dK : TypeDesc} (hu : P.underlying M = some (.map K V)) (hK : P.underlying K = some dK) (hd : ∀ k es i, Instr.findNow dK k es i = if es = [] then some none else none) (hc : ∀ b k w, (Instr.checkKey b 10000 K (ek k)).run P w = .ok () w)
    (hq : ∀ k k' w, (Op.equal K (ek k) (ek k')).run P w = .ok (decide (k = k')) w) (hs : ∀ k, Instr.sameBits 10000 (ek k) (ek k) = true) : MKey P M K V ek where
  under := hu
  check := hc
  find k es ks w h := by
    simp only [Instr.findKey, Sem.run_bind, run_underlying hK, Result.andThen_ok, hd]
    cases es with
    | nil => cases ks <;> first | rfl | cases h
    | cons e es =>
      simp only [reduceCtorEq, if_false]
      have := findAsk hq k (e :: es) ks 0 w h
      simpa using this
  stay k w := by simp [Instr.keyThatStays, hs]
  eq ks k i x h1 h2 := by
    obtain ⟨h3, h4, _⟩ := List.findIdx?_eq_some_iff_getElem.1 h1
    rw [List.getElem?_eq_getElem h3] at h2
    cases h2
    simp only [beq_iff_eq] at h4
    rw [h4]
section
variable {P : Program} {c : Ctx} {sz : Fm} {Q : Exit → Act → World → Prop} {t : List Item} {s : List (Nat × AV)} {V : List NEnt}
theorem nilRowC (d n E size : Nat) (els : List (List D)) (he : els = []) (hs : look s d = some (.val (.slice none 0 0))) (hf : freshN [.row n E size els] s V = true)
    (h : TC P c sz Q t ((d, .ref n) :: s) (.row n E size els :: V)) : TC P c sz Q t s V := (nilRowM (ops := #[]) (rest := []) d n E size els he hs hf).1 h
theorem nilRoC (d n size : Nat) (els : List (List D)) (he : els = []) (hs : look s d = some (.val (.slice none 0 0))) (hf : freshN [.ro n size els] s V = true)
    (h : TC P c sz Q t ((d, .ref n) :: s) (.ro n size els :: V)) : TC P c sz Q t s V := (nilRoM (ops := #[]) (rest := []) d n size els he hs hf).1 h
theorem nilRowL {ops : Array Oper} {rest : List Oper} (d n E size : Nat) (els : List (List D)) (he : els = []) (hs : look s d = some (.val (.slice none 0 0))) (hf : freshN [.row n E size els] s V = true)
    (h : TL P c sz Q ops rest t ((d, .ref n) :: s) (.row n E size els :: V)) : TL P c sz Q ops rest t s V := (nilRowM d n E size els he hs hf).2 h
theorem nilRoL {ops : Array Oper} {rest : List Oper} (d n size : Nat) (els : List (List D)) (he : els = []) (hs : look s d = some (.val (.slice none 0 0))) (hf : freshN [.ro n size els] s V = true)
    (h : TL P c sz Q ops rest t ((d, .ref n) :: s) (.ro n size els :: V)) : TL P c sz Q ops rest t s V := (nilRoM d n size els he hs hf).2 h
theorem boolC (d : Nat) {b b' : Bool} (hs : look s d = some (.val (.bool b))) (hb : b = b') (h : TC P c sz Q t ((d, .val (.bool b')) :: s) V) : TC P c sz Q t s V := (boolLit (ops := #[]) (rest := []) d hs hb).1 h
end
end Go.Proofs.Ytmgcinejodpopaa.Sy
