/- Rounds: a round that is found is walked in as many minutes; a round that is walked can be found. -/
import Derived.Test.YtohjpfkcahlfkaaPlEvRoundBe
set_option linter.unusedSimpArgs false
set_option linter.unusedVariables false
namespace Go.Proofs.Ytohjpfkcahlfkaa.Sy
open Go.RowKit
set_option maxRecDepth 100000
def noRR : Bool → List Int → Prop
  | _, [] => True
  | r, s :: l => (s = -1 → r = false) ∧ noRR (s == -1) l
def lastR : Bool → List Int → Bool
  | r, [] => r
  | _, s :: l => lastR (s == -1) l
theorem lastR_app (x : Int) : ∀ (o : List Int) (r : Bool), lastR r (o ++ [x]) = (x == -1)
  | [], r => rfl
  | s :: l, r => lastR_app x l _
theorem noRR_app (x : Int) : ∀ (o : List Int) (r : Bool), noRR r o → (x = -1 → lastR r o = false) → noRR r (o ++ [x])
  | [], r, _, h => ⟨h, trivial⟩
  | s :: l, r, h1, h2 => ⟨h1.1, noRR_app x l _ h1.2 h2⟩
theorem hasP_ext {a b : Int} (ha : 0 ≤ a ∧ a < 256) (hb : 0 ≤ b ∧ b < 256) (h : ∀ k : Int, 0 ≤ k → k < 8 → hasP a k = hasP b k) : a = b := by
  obtain ⟨a, rfl⟩ : ∃ n : Nat, a = n := ⟨a.toNat, by omega⟩
  obtain ⟨b, rfl⟩ : ∃ n : Nat, b = n := ⟨b.toNat, by omega⟩
  have : a = b := by
    apply Nat.eq_of_testBit_eq
    intro i
    by_cases hi : i < 8
    · have := h i (by omega) (by omega)
      unfold hasP at this
      simpa using this
    · have hp : (2 : Nat) ^ 8 ≤ 2 ^ i := Nat.pow_le_pow_right (by decide) (by omega)
      rw [Nat.testBit_lt_two_pow (by omega), Nat.testBit_lt_two_pow (by omega)]
  rw [this]
section
variable {t : List Tw} {w : List (List Int)} {g : List Wd} {rest wage : Int} (h : OkR t w g rest wage) {wd : Wd} (hw : wd ∈ g)
include h hw in
theorem walk_cand {goal : Int} (hgoal : 0 ≤ goal ∧ goal < 256) : ∀ (l : List Int) (r : Bool) (σ : Wk) (i : Nat), OkW t σ → (walkP t w rest wd i σ l).2.2 = 0 → noRR r l → (∀ s ∈ l, 0 ≤ s → hasP goal s = true) → (∀ k : Int, 0 ≤ k → k < 8 → (hasP goal k = true ↔ k ∈ l ∨ hasP σ.wo k = true)) →
    candP t w rest wd goal r σ l (walkP t w rest wd i σ l).1
  | [], r, σ, i, hσ, h0, _, _, hk => by
    rw [walkP] at h0 ⊢
    by_cases hh : (homeP t w wd σ).1 = 0
    · rw [if_pos hh] at h0 ⊢
      refine ⟨hasP_ext hσ.wo hgoal fun k k0 k8 => ?_, hh, rfl⟩
      have := hk k k0 k8
      rw [Bool.eq_iff_iff]
      simpa using this.symm
    · rw [if_neg hh] at h0
      exact absurd h0 hh
  | s :: l, r, σ, i, hσ, h0, hn, hg, hk => by
    rw [walkP] at h0 ⊢
    by_cases hh : (stepP t w rest wd σ s).1 = 0
    · rw [if_pos hh] at h0 ⊢
      have hst := step_wo hh
      refine ⟨?_, hh, walk_cand hgoal l _ _ _ (step_ok h hw hσ hh).1 h0 hn.2 (fun x hx => hg x (by simp [hx])) fun k k0 k8 => ?_⟩
      · rcases hst with ⟨e, _⟩ | ⟨a1, a2, a3, _⟩
        · exact .inl ⟨e, hn.1 e⟩
        · exact .inr ⟨a1, hg s (by simp) a1, a3⟩
      · rw [hk k k0 k8, List.mem_cons]
        rcases hst with ⟨e, e2⟩ | ⟨a1, a2, a3, e2⟩
        · rw [e2]
          constructor
          · rintro ((h1 | h1) | h1)
            · omega
            · exact .inl h1
            · exact .inr h1
          · rintro (h1 | h1)
            · exact .inl (.inr h1)
            · exact .inr h1
        · rw [e2, has_with a1 k0, Bool.or_eq_true, decide_eq_true_eq]
          constructor
          · rintro ((h1 | h1) | h1)
            · exact .inr (.inl h1.symm)
            · exact .inl h1
            · exact .inr (.inr h1)
          · rintro (h1 | h1 | h1)
            · exact .inl (.inr h1)
            · exact .inl (.inl h1.symm)
            · exact .inr h1
    · rw [if_neg hh] at h0
      exact absurd h0 hh
theorem cand_walk {goal : Int} : ∀ (l : List Int) (r : Bool) (σ : Wk) (i : Nat) (m : Int), candP t w rest wd goal r σ l m → walkP t w rest wd i σ l = (m, 0, 0)
  | [], r, σ, i, m, hc => by
    obtain ⟨_, h0, rfl⟩ := hc
    rw [walkP, if_pos h0]
  | s :: l, r, σ, i, m, hc => by
    obtain ⟨_, h0, hc⟩ := hc
    rw [walkP, if_pos h0, cand_walk l _ _ _ m hc]
include h hw in
theorem cand_len {goal : Int} : ∀ (l : List Int) (r : Bool) (σ : Wk) (m : Int), OkW t σ → candP t w rest wd goal r σ l m → l.length ≤ measP σ r
  | [], _, _, _, _, _ => Nat.zero_le _
  | s :: l, r, σ, m, hσ, hc => by
    obtain ⟨h1, h0, hc⟩ := hc
    have := cand_len l _ _ m (step_ok h hw hσ h0).1 hc
    have := meas_step h hσ h1 h0
    rw [List.length_cons]; omega
include h hw in
theorem cand_count {goal : Int} : ∀ (l : List Int) (r : Bool) (σ : Wk) (m : Int), OkW t σ → candP t w rest wd goal r σ l m → (l.filter fun s => decide (0 ≤ s)).length + freeP goal = freeP σ.wo
  | [], _, σ, _, _, hc => by rw [← hc.1]; simp
  | s :: l, r, σ, m, hσ, hc => by
    obtain ⟨h1, h0, hc⟩ := hc
    have ih := cand_count l _ _ m (step_ok h hw hσ h0).1 hc
    have ht := h.tn
    rcases step_wo h0 with ⟨e, e2⟩ | ⟨a1, a2, a3, e2⟩
    · rw [e2] at ih
      rw [List.filter_cons, if_neg (by simp [e])]
      exact ih
    · have := free_with hσ.wo (i := s) (by omega) a3
      rw [e2] at ih
      rw [List.filter_cons, if_pos (by simpa using a1), List.length_cons]
      omega
include h hw in
theorem cand_mem {goal : Int} {k : Int} (k0 : 0 ≤ k) : ∀ (l : List Int) (r : Bool) (σ : Wk) (m : Int), OkW t σ → candP t w rest wd goal r σ l m → (hasP goal k = true ↔ k ∈ l ∨ hasP σ.wo k = true)
  | [], _, σ, _, _, hc => by rw [← hc.1]; simp
  | s :: l, r, σ, m, hσ, hc => by
    obtain ⟨h1, h0, hc⟩ := hc
    rw [cand_mem k0 l _ _ m (step_ok h hw hσ h0).1 hc, List.mem_cons]
    rcases step_wo h0 with ⟨e, e2⟩ | ⟨a1, a2, a3, e2⟩
    · rw [e2]
      constructor
      · rintro (h1 | h1)
        · exact .inl (.inr h1)
        · exact .inr h1
      · rintro ((h1 | h1) | h1)
        · omega
        · exact .inl h1
        · exact .inr h1
    · rw [e2, has_with a1 k0, Bool.or_eq_true, decide_eq_true_eq]
      constructor
      · rintro (h1 | h1 | h1)
        · exact .inl (.inr h1)
        · exact .inl (.inl h1.symm)
        · exact .inr h1
      · rintro ((h1 | h1) | h1)
        · exact .inr (.inl h1.symm)
        · exact .inl h1
        · exact .inr (.inr h1)
include h hw in
theorem cand_range {goal : Int} : ∀ (l : List Int) (r : Bool) (σ : Wk) (m : Int), OkW t σ → candP t w rest wd goal r σ l m → ∀ s ∈ l, -1 ≤ s ∧ s < 8
  | [], _, σ, _, _, hc => by simp
  | s :: l, r, σ, m, hσ, hc => by
    obtain ⟨h1, h0, hc⟩ := hc
    have ih := cand_range l _ _ m (step_ok h hw hσ h0).1 hc
    have ht := h.tn
    intro x hx
    rcases List.mem_cons.1 hx with rfl | hx
    · rcases step_wo h0 with ⟨e, _⟩ | ⟨a1, a2, _⟩ <;> omega
    · exact ih x hx
end
theorem setP_free : ∀ (l : List Int) (s : Int), (0 ≤ s ∧ s < 256) → (∀ x ∈ l, 0 ≤ x ∧ x < 8) → twiceB s l = false → freeP (setP s l) + l.length = freeP s
  | [], s, _, _, _ => rfl
  | x :: l, s, hs, hl, ht => by
    rw [twiceB, Bool.or_eq_false_iff] at ht
    have hx := hl x (by simp)
    have := setP_free l _ (with_ev (n := 0) hs hx).2 (fun y hy => hl y (by simp [hy])) ht.2
    have := free_with hs hx ht.1
    rw [setP, List.length_cons]; omega
end Go.Proofs.Ytohjpfkcahlfkaa.Sy
