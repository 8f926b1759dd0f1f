/- Rounds: the order of shares is total; the document compares them alike. -/
import Derived.Test.YtohjpfkcahlfkaaGreatPfEvRoundT
import Derived.Test.YtohjpfkcahlfkaaGreatPfEvRoundX
import Derived.Test.YtohjpfkcahlfkaaGreatPfGTurretref11
set_option linter.unusedSimpArgs false
set_option linter.unusedVariables false
namespace Go.Proofs.YtohjpfkcahlfkaaGreat.Sy
open Go.RowKit
set_option maxRecDepth 100000
structure IsCmp {α : Type} (c : α → α → Int) : Prop where
  refl : ∀ a, c a a = 0
  anti : ∀ a b, c a b ≤ 0 ↔ 0 ≤ c b a
  trans : ∀ a b d, c a b ≤ 0 → c b d ≤ 0 → c a d ≤ 0
theorem lex_trans {α : Type} {c : α → α → Int} (h : IsCmp c) {a b d : α} {p q r : Int} (hp : p ≤ 0 → q ≤ 0 → r ≤ 0) (h1 : (if c a b ≠ 0 then c a b else p) ≤ 0) (h2 : (if c b d ≠ 0 then c b d else q) ≤ 0) : (if c a d ≠ 0 then c a d else r) ≤ 0 := by
  have ab := h.anti a b;have ba := h.anti b a;have bd := h.anti b d;have db := h.anti d b;have ad := h.anti a d;have da := h.anti d a;have t1 := h.trans a b d;have t2 := h.trans b d a;have t3 := h.trans d a b
  by_cases e1 : c a b = 0
  · rw [if_neg (by simpa using e1)] at h1
    by_cases e2 : c b d = 0
    · rw [if_neg (by simpa using e2)] at h2
      by_cases e3 : c a d = 0
      · rw [if_neg (by simpa using e3)]; exact hp h1 h2
      · rw [if_pos e3]; omega
    · rw [if_pos e2] at h2
      by_cases e3 : c a d = 0
      · exfalso; omega
      · rw [if_pos e3]; omega
  · rw [if_pos e1] at h1
    by_cases e2 : c b d = 0
    · rw [if_neg (by simpa using e2)] at h2
      by_cases e3 : c a d = 0
      · exfalso; omega
      · rw [if_pos e3]; omega
    · rw [if_pos e2] at h2
      by_cases e3 : c a d = 0
      · exfalso; omega
      · rw [if_pos e3]; omega
theorem lex_anti {α : Type} {c : α → α → Int} (h : IsCmp c) {a b : α} {p q : Int} (hp : p ≤ 0 ↔ 0 ≤ q) : (if c a b ≠ 0 then c a b else p) ≤ 0 ↔ 0 ≤ (if c b a ≠ 0 then c b a else q) := by
  have ab := h.anti a b;have ba := h.anti b a
  by_cases e1 : c a b = 0
  · have e2 : c b a = 0 := by omega
    rw [if_neg (by simpa using e1), if_neg (by simpa using e2)]; exact hp
  · have e2 : c b a ≠ 0 := by omega
    rw [if_pos e1, if_pos e2]; exact ab
theorem cmpP_le {a b : Int} : cmpP a b ≤ 0 ↔ a ≤ b := by
  unfold cmpP
  by_cases h1 : a < b
  · rw [if_pos h1]; omega
  · rw [if_neg h1]
    by_cases h2 : b < a
    · rw [if_pos h2]; omega
    · rw [if_neg h2]; omega
theorem cmpP_ge {a b : Int} : 0 ≤ cmpP a b ↔ b ≤ a := by
  unfold cmpP
  by_cases h1 : a < b
  · rw [if_pos h1]; omega
  · rw [if_neg h1]
    by_cases h2 : b < a
    · rw [if_pos h2]; omega
    · rw [if_neg h2]; omega
theorem cmpP_is : IsCmp cmpP := by
  refine ⟨fun a => ?_, fun a b => ?_, fun a b d h1 h2 => ?_⟩
  · have h1 := cmpP_le (a := a) (b := a);have h2 := cmpP_ge (a := a) (b := a)
    omega
  · rw [cmpP_le, cmpP_ge]
  · rw [cmpP_le] at *; omega
theorem sgnP_le {a b : List Int} : sgnP a b ≤ 0 ↔ lx b a = false := by
  unfold sgnP;cases h1 : lx a b
  · cases h2 : lx b a
    · simp
    · simp
  · have := lx_asym _ _ h1;rw [this]; simp
theorem sgnP_ge {a b : List Int} : 0 ≤ sgnP a b ↔ lx a b = false := by
  unfold sgnP;cases h1 : lx a b
  · cases h2 : lx b a <;> simp
  · simp
theorem sgnP_is : IsCmp sgnP := by
  refine ⟨fun a => ?_, fun a b => ?_, fun a b d h1 h2 => ?_⟩
  · unfold sgnP; rw [lx_irr]; simp
  · rw [sgnP_le, sgnP_ge]
  · rw [sgnP_le] at *;exact lx_trans _ _ _ h2 h1
theorem sgnP_zero {a b : List Int} (h : sgnP a b = 0) : a = b := lx_tri _ _ (sgnP_ge.1 (by omega)) (sgnP_le.1 (by omega))
theorem cmpP_zero {a b : Int} (h : cmpP a b = 0) : a = b := by
  unfold cmpP at h
  split at h
  · omega
  · split at h <;> omega
theorem sgnT_refl : ∀ a : List Trp, sgnT a a = 0
  | [] => rfl
  | a :: l => by rw [sgnT, sgnP_is.refl, if_neg (by simp), sgnT_refl l]
theorem sgnT_anti : ∀ a b : List Trp, sgnT a b ≤ 0 ↔ 0 ≤ sgnT b a
  | [], [] => by simp [sgnT]
  | [], _ :: _ => by simp [sgnT]
  | _ :: _, [] => by simp [sgnT]
  | a :: l, b :: m => by
    rw [sgnT, sgnT];exact lex_anti sgnP_is (sgnT_anti l m)
theorem sgnT_trans : ∀ a b d : List Trp, sgnT a b ≤ 0 → sgnT b d ≤ 0 → sgnT a d ≤ 0
  | [], _, [], _, _ => by simp [sgnT]
  | [], _, _ :: _, _, _ => by simp [sgnT]
  | _ :: _, [], _, h, _ => by simp [sgnT] at h
  | _ :: _, _ :: _, [], _, h => by simp [sgnT] at h
  | a :: l, b :: m, d :: k, h1, h2 => by
    rw [sgnT] at *;exact lex_trans sgnP_is (sgnT_trans l m k) h1 h2
theorem sgnT_is : IsCmp sgnT := ⟨sgnT_refl, sgnT_anti, sgnT_trans⟩
theorem sgnT_zero : ∀ {a b : List Trp}, sgnT a b = 0 → a.map (·.1) = b.map (·.1) → a = b
  | [], [], _, _ => rfl
  | [], _ :: _, h, _ => by simp [sgnT] at h
  | _ :: _, [], h, _ => by simp [sgnT] at h
  | a :: l, b :: m, h, hm => by
    rw [sgnT] at h
    by_cases e : sgnP a.2 b.2 = 0
    · rw [if_neg (by simpa using e)] at h;simp only [List.map_cons, List.cons.injEq] at hm;rw [sgnT_zero h hm.2, Prod.ext hm.1 (sgnP_zero e)]
    · rw [if_pos e] at h; exact absurd h e
def leS (a b : Shr) : Prop := sgnS a b ≤ 0
theorem sgnS_anti (a b : Shr) : sgnS a b ≤ 0 ↔ 0 ≤ sgnS b a := by
  unfold sgnS orP;exact lex_anti (c := fun a b : Shr => cmpP a.1.length b.1.length) ⟨fun a => cmpP_is.refl _, fun a b => cmpP_is.anti _ _, fun a b d => cmpP_is.trans _ _ _⟩ (lex_anti (c := fun a b : Shr => cmpP a.2 b.2) ⟨fun a => cmpP_is.refl _, fun a b => cmpP_is.anti _ _, fun a b d => cmpP_is.trans _ _ _⟩
    (lex_anti (c := fun a b : Shr => sgnP (a.1.map (·.1)) (b.1.map (·.1))) ⟨fun a => sgnP_is.refl _, fun a b => sgnP_is.anti _ _, fun a b d => sgnP_is.trans _ _ _⟩ (sgnT_is.anti _ _)))
theorem sgnS_trans (a b d : Shr) : sgnS a b ≤ 0 → sgnS b d ≤ 0 → sgnS a d ≤ 0 := by
  unfold sgnS orP;exact lex_trans (c := fun a b : Shr => cmpP a.1.length b.1.length) ⟨fun a => cmpP_is.refl _, fun a b => cmpP_is.anti _ _, fun a b d => cmpP_is.trans _ _ _⟩ (lex_trans (c := fun a b : Shr => cmpP a.2 b.2) ⟨fun a => cmpP_is.refl _, fun a b => cmpP_is.anti _ _, fun a b d => cmpP_is.trans _ _ _⟩
    (lex_trans (c := fun a b : Shr => sgnP (a.1.map (·.1)) (b.1.map (·.1))) ⟨fun a => sgnP_is.refl _, fun a b => sgnP_is.anti _ _, fun a b d => sgnP_is.trans _ _ _⟩ (sgnT_is.trans _ _ _)))
theorem sgnS_refl (a : Shr) : sgnS a a = 0 := by
  unfold sgnS orP;rw [if_neg (by rw [cmpP_is.refl]; simp), if_neg (by rw [cmpP_is.refl]; simp), if_neg (by rw [sgnP_is.refl]; simp), sgnT_refl]
theorem sgnS_zero {a b : Shr} (h : sgnS a b = 0) : a = b := by
  unfold sgnS orP at h
  by_cases e1 : cmpP a.1.length b.1.length = 0
  · rw [if_neg (by simpa using e1)] at h
    by_cases e2 : cmpP a.2 b.2 = 0
    · rw [if_neg (by simpa using e2)] at h
      by_cases e3 : sgnP (a.1.map (·.1)) (b.1.map (·.1)) = 0
      · rw [if_neg (by simpa using e3)] at h;exact Prod.ext (sgnT_zero h (sgnP_zero e3)) (cmpP_zero e2)
      · rw [if_pos e3] at h; exact absurd h e3
    · rw [if_pos e2] at h; exact absurd h e2
  · rw [if_pos e1] at h; exact absurd h e1
theorem leS_ok : OkLe leS := ⟨fun a => by unfold leS; rw [sgnS_refl]; decide, fun a b c h1 h2 => sgnS_trans a b c h1 h2, fun a b _ _ h => by unfold ltS at h; unfold leS; omega, fun a b _ _ h => by unfold ltS at h; unfold leS; rw [sgnS_anti]; omega⟩
theorem leS_eq {a b : Shr} (h1 : leS a b) (h2 : leS b a) : a = b := by
  unfold leS at *;have := (sgnS_anti b a).1 h2;exact sgnS_zero (by omega)
theorem better_ev {n : Nat} (hn : 500 < n) {a b : Shr} (ha : OkS a) (hb : OkS b) : ev_ref11_better n a.1 a.2 b.1 b.2 = some (decide (sgnS a b < 0)) := by
  have ha1 := ha.len;have hb1 := hb.len;rw [ev_ref11_better, cond_if];unfold sgnS orP
  by_cases h1 : a.1.length = b.1.length
  · have e1 : cmpP a.1.length b.1.length = 0 := by rw [h1]; exact cmpP_is.refl _
    rw [if_neg (by simp [h1]), if_neg (by simpa using e1), cond_if]
    by_cases h2 : a.2 = b.2
    · have e2 : cmpP a.2 b.2 = 0 := by rw [h2]; exact cmpP_is.refl _
      rw [if_neg (by simpa using h2), if_neg (by simpa using e2)];have l1 : ∀ (k m i : Nat), i + k = a.1.length → k < m → ev_ref11_better_l1 n a.1 b.1 m (i : Int) = some (decide (sgnT (a.1.drop i) (b.1.drop i) < 0)) := by
        intro k
        induction k with
        | zero =>
          intro m i hi hm;obtain ⟨m, rfl⟩ : ∃ m', m = m' + 1 := ⟨m - 1, by omega⟩;rw [ev_ref11_better_l1, cond_if, if_neg (by simp; omega), List.drop_eq_nil_of_le (by omega), List.drop_eq_nil_of_le (by omega)]
          rfl
        | succ k ih =>
          intro m i hi hm;obtain ⟨m, rfl⟩ : ∃ m', m = m' + 1 := ⟨m - 1, by omega⟩;have hlt : i < a.1.length := by omega
          have hlt2 : i < b.1.length := by omega
          have s1 := ha.st _ (List.getElem_mem hlt);have s2 := hb.st _ (List.getElem_mem hlt2);have q1 := smaller_ev (n := n) (a := a.1[i].2) (b := b.1[i].2) (by omega) (by omega) (by omega);have q2 := smaller_ev (n := n) (a := b.1[i].2) (b := a.1[i].2) (by omega) (by omega) (by omega);rw [ev_ref11_better_l1, cond_if, if_pos (decide_eq_true (by omega)), idx_nat (List.getElem?_eq_getElem hlt), idx_nat (List.getElem?_eq_getElem hlt2), bind_of q1, cond_if, List.drop_eq_getElem_cons hlt, List.drop_eq_getElem_cons hlt2, sgnT];cases h3 : lx a.1[i].2 b.1[i].2
          · rw [if_neg (by simp), bind_of q2, cond_if];cases h4 : lx b.1[i].2 a.1[i].2
            · have e : sgnP a.1[i].2 b.1[i].2 = 0 := by unfold sgnP; rw [h3, h4]; rfl
              rw [if_neg (by simp), if_neg (by simpa using e), chk_of (in64_of (by omega))];exact ih m (i + 1) (by omega) (by omega)
            · have e : sgnP a.1[i].2 b.1[i].2 = 1 := by unfold sgnP; rw [h3, h4]; rfl
              rw [if_pos rfl, e, if_pos (by decide), bind_of q1, h3]; rfl
          · have e : sgnP a.1[i].2 b.1[i].2 = -1 := by unfold sgnP; rw [h3]; rfl
            rw [if_pos rfl, e, if_pos (by decide), bind_of q1, h3]; rfl
      have l0 : ∀ (k m i : Nat), i + k = a.1.length → k < m → ev_ref11_better_l0 n a.1 b.1 m (i : Int) = some (decide ((if sgnP ((a.1.drop i).map (·.1)) ((b.1.drop i).map (·.1)) ≠ 0 then sgnP ((a.1.drop i).map (·.1)) ((b.1.drop i).map (·.1)) else sgnT a.1 b.1) < 0)) := by
        intro k
        induction k with
        | zero =>
          intro m i hi hm;obtain ⟨m, rfl⟩ : ∃ m', m = m' + 1 := ⟨m - 1, by omega⟩;have := l1 a.1.length n 0 (by omega) (by omega);rw [List.drop_zero, List.drop_zero, show ((0 : Nat) : Int) = 0 from rfl] at this;rw [ev_ref11_better_l0, cond_if, if_neg (by simp; omega), show a.1.drop i = [] from List.drop_eq_nil_of_le (by omega), show b.1.drop i = [] from List.drop_eq_nil_of_le (by omega), this, if_neg (by simp [sgnP, lx])]
        | succ k ih =>
          intro m i hi hm;obtain ⟨m, rfl⟩ : ∃ m', m = m' + 1 := ⟨m - 1, by omega⟩;have hlt : i < a.1.length := by omega
          have hlt2 : i < b.1.length := by omega
          rw [ev_ref11_better_l0, cond_if, if_pos (decide_eq_true (by omega)), idx_nat (List.getElem?_eq_getElem hlt), idx_nat (List.getElem?_eq_getElem hlt2), cond_if, List.drop_eq_getElem_cons hlt, List.drop_eq_getElem_cons hlt2, List.map_cons, List.map_cons];rcases Int.lt_trichotomy a.1[i].1 b.1[i].1 with h3 | h3 | h3
          · have e : sgnP (a.1[i].1 :: (a.1.drop (i + 1)).map (·.1)) (b.1[i].1 :: (b.1.drop (i + 1)).map (·.1)) = -1 := by
              unfold sgnP;rw [lx, if_neg (show ¬ a.1[i].1 = b.1[i].1 by omega), if_pos (decide_eq_true h3)]
            rw [if_pos (by simp; omega), e, if_pos (by decide), decide_eq_true h3]; rfl
          · have e : sgnP (a.1[i].1 :: (a.1.drop (i + 1)).map (·.1)) (b.1[i].1 :: (b.1.drop (i + 1)).map (·.1)) = sgnP ((a.1.drop (i + 1)).map (·.1)) ((b.1.drop (i + 1)).map (·.1)) := by
              unfold sgnP;rw [lx, lx, if_pos h3, if_pos h3.symm]
            rw [if_neg (by simpa using h3), chk_of (in64_of (by omega)), e];exact ih m (i + 1) (by omega) (by omega)
          · have e : sgnP (a.1[i].1 :: (a.1.drop (i + 1)).map (·.1)) (b.1[i].1 :: (b.1.drop (i + 1)).map (·.1)) = 1 := by
              unfold sgnP;rw [lx, lx, if_neg (show ¬ a.1[i].1 = b.1[i].1 by omega), if_neg (by simp; omega), if_neg (show ¬ b.1[i].1 = a.1[i].1 by omega), if_pos (decide_eq_true h3)]
            rw [if_pos (by simp; omega), e, if_pos (by decide), decide_eq_false (by omega)]; rfl
      have := l0 a.1.length n 0 (by omega) (by omega);rw [List.drop_zero, List.drop_zero, show ((0 : Nat) : Int) = 0 from rfl] at this;exact this
    · have e2 : cmpP a.2 b.2 ≠ 0 := fun e => h2 (cmpP_zero e)
      rw [if_pos (by simpa using h2), if_pos e2]
      congr 1
      rw [decide_eq_decide];unfold cmpP
      split
      · omega
      · split <;> omega
  · have e1 : cmpP a.1.length b.1.length ≠ 0 := fun e => h1 (by have := cmpP_zero e; omega)
    rw [if_pos (by simp; omega), if_pos e1]
    congr 1
    rw [decide_eq_decide];unfold cmpP
    split
    · omega
    · split <;> omega
end Go.Proofs.YtohjpfkcahlfkaaGreat.Sy
