/- Searching for the quickest: the first of the quickest lists, in lexicographic order. -/
import Derived.Test.YtohjpfkcahlfkaaPeEvL
set_option linter.unusedSimpArgs false
set_option linter.unusedVariables false
namespace Go.Proofs.Ytohjpfkcahlfkaa.Sy
open Go.RowKit
set_option maxRecDepth 100000
def lx : List Int → List Int → Bool
  | _, [] => false
  | [], _ :: _ => true
  | a :: l, b :: m => if a = b then lx l m else decide (a < b)
theorem lx_nil (a : List Int) : lx a [] = false := by cases a <;> rfl
theorem lx_irr : ∀ a : List Int, lx a a = false
  | [] => rfl
  | a :: l => by rw [lx, if_pos rfl, lx_irr l]
theorem lx_tri : ∀ a b : List Int, lx a b = false → lx b a = false → a = b
  | [], [], _, _ => rfl
  | [], _ :: _, h, _ => by simp [lx] at h
  | _ :: _, [], _, h => by simp [lx] at h
  | a :: l, b :: m, h, h' => by
    rw [lx] at h h'
    by_cases e : a = b
    · rw [if_pos e] at h; rw [if_pos e.symm] at h';rw [e, lx_tri l m h h']
    · rw [if_neg e] at h; rw [if_neg (fun e2 => e e2.symm)] at h';simp at h h'; omega
theorem lx_app : ∀ p a b : List Int, lx (p ++ a) (p ++ b) = lx a b
  | [], a, b => rfl
  | x :: p, a, b => by rw [List.cons_append, List.cons_append, lx, if_pos rfl, lx_app p]
theorem lx_lt {a b : Int} (h : a < b) (p l m : List Int) : lx (p ++ b :: m) (p ++ a :: l) = false := by
  rw [lx_app, lx, if_neg (by omega)]; simp; omega
theorem lx_ext (p l : List Int) : lx (p ++ l) p = false := by
  have := lx_app p l [];rw [List.append_nil] at this;rw [this, lx_nil]
abbrev Cs := List Int → Int → Prop
abbrev Bo := Option (List Int × Int)
def Bst (C : Cs) : Bo → Prop
  | none => ∀ l m, ¬ C l m
  | some r => C r.1 r.2 ∧ ∀ l' m', C l' m' → r.2 < m' ∨ r.2 = m' ∧ lx l' r.1 = false
theorem Bst.uniq {C : Cs} {r r' : Bo} (h : Bst C r) (h' : Bst C r') : r = r' := by
  cases r with
  | none =>
    cases r' with
    | none => rfl
    | some x => exact absurd h'.1 (h _ _)
  | some x =>
    cases r' with
    | none => exact absurd h.1 (h' _ _)
    | some y =>
      have h1 := h.2 _ _ h'.1;have h2 := h'.2 _ _ h.1;obtain ⟨x1, x2⟩ := x;obtain ⟨y1, y2⟩ := y;simp only at h1 h2;have e : x2 = y2 := by omega
      subst e;rcases h1 with h1 | ⟨_, h1⟩
      · omega
      · rcases h2 with h2 | ⟨_, h2⟩
        · omega
        · rw [lx_tri _ _ h2 h1]
theorem Bst.congr {C C' : Cs} {r : Bo} (h : Bst C r) (e : ∀ l m, C l m ↔ C' l m) : Bst C' r := by
  cases r with
  | none => exact fun l m hc => h l m ((e l m).2 hc)
  | some x => exact ⟨(e _ _).1 h.1, fun l m hc => h.2 l m ((e l m).2 hc)⟩
def Ext (C : Cs) (acc r : Bo) : Prop :=
  (r = acc ∧ ∀ l m, C l m → ∃ l0 m0, acc = some (l0, m0) ∧ m0 ≤ m) ∨
  (∃ l m, r = some (l, m) ∧ C l m ∧ (∀ l0 m0, acc = some (l0, m0) → m < m0) ∧ ∀ l' m', C l' m' → m < m' ∨ m = m' ∧ lx l' l = false)
theorem Ext.bst {C : Cs} {r : Bo} (h : Ext C none r) : Bst C r := by
  rcases h with ⟨rfl, h⟩ | ⟨l, m, rfl, h1, _, h2⟩
  · intro l m hc;obtain ⟨_, _, e, _⟩ := h l m hc;cases e
  · exact ⟨h1, h2⟩
theorem Ext.none {C : Cs} {acc : Bo} (h : ∀ l m, ¬ C l m) : Ext C acc acc := .inl ⟨rfl, fun l m hc => absurd hc (h l m)⟩
theorem Ext.prune {C : Cs} {l0 : List Int} {m0 : Int} (h : ∀ l m, C l m → m0 ≤ m) : Ext C (some (l0, m0)) (some (l0, m0)) := .inl ⟨rfl, fun l m hc => ⟨l0, m0, rfl, h l m hc⟩⟩
theorem Ext.congr {C C' : Cs} {acc r : Bo} (h : Ext C acc r) (e : ∀ l m, C l m ↔ C' l m) : Ext C' acc r := by
  rcases h with ⟨e1, h⟩ | ⟨l, m, e1, h1, h2, h3⟩
  · exact .inl ⟨e1, fun l m hc => h l m ((e l m).2 hc)⟩
  · exact .inr ⟨l, m, e1, (e _ _).1 h1, h2, fun l m hc => h3 l m ((e l m).2 hc)⟩
theorem Ext.comp {C1 C2 : Cs} {acc r1 r2 : Bo} (h1 : Ext C1 acc r1) (h2 : Ext C2 r1 r2) (hlt : ∀ l1 m1 l2 m2, C1 l1 m1 → C2 l2 m2 → lx l2 l1 = false) : Ext (fun l m => C1 l m ∨ C2 l m) acc r2 := by
  rcases h1 with ⟨rfl, h1⟩ | ⟨l, m, rfl, a1, a2, a3⟩
  · rcases h2 with ⟨rfl, h2⟩ | ⟨l2, m2, rfl, b1, b2, b3⟩
    · exact .inl ⟨rfl, fun l m hc => hc.elim (h1 l m) (h2 l m)⟩
    · refine .inr ⟨l2, m2, rfl, .inr b1, b2, fun l' m' hc => ?_⟩;rcases hc with hc | hc
      · obtain ⟨l0, m0, e, hle⟩ := h1 _ _ hc;have := b2 _ _ e;exact .inl (by omega)
      · exact b3 _ _ hc
  · rcases h2 with ⟨rfl, h2⟩ | ⟨l2, m2, rfl, b1, b2, b3⟩
    · refine .inr ⟨l, m, rfl, .inl a1, a2, fun l' m' hc => ?_⟩;rcases hc with hc | hc
      · exact a3 _ _ hc
      · obtain ⟨l0, m0, e, hle⟩ := h2 _ _ hc;have := hlt _ _ _ _ a1 hc;cases e
        by_cases e : m = m'
        · exact .inr ⟨e, this⟩
        · exact .inl (by omega)
    · have hb := b2 _ _ rfl;refine .inr ⟨l2, m2, rfl, .inr b1, fun l0 m0 e => by have := a2 _ _ e; omega, fun l' m' hc => ?_⟩;rcases hc with hc | hc
      · rcases a3 _ _ hc with h | h
        · exact .inl (by omega)
        · exact .inl (by omega)
      · exact b3 _ _ hc
end Go.Proofs.Ytohjpfkcahlfkaa.Sy
