/- Rounds: the document's step, way home and walk are the program's. -/
import Derived.Test.YtohjpfkcahlfkaaGreatPfEvRoundO
import Derived.Test.YtohjpfkcahlfkaaGreatPfEvRoundA
set_option linter.unusedSimpArgs false
set_option linter.unusedVariables false
namespace Go.Proofs.YtohjpfkcahlfkaaGreat.Sy
open Go.RowKit
set_option maxRecDepth 100000
abbrev On := Int × Bool × Bool × Bool × Bool × Bool × Bool × Bool × Bool × Int × Int × Int × Int
def refR (σ : Wk) (e : Int) : On := (σ.pl, hasP σ.wo 0, hasP σ.wo 1, hasP σ.wo 2, hasP σ.wo 3, hasP σ.wo 4, hasP σ.wo 5, hasP σ.wo 6, hasP σ.wo 7, σ.oil, σ.run, σ.min, e)
section
variable {t : List Tw} {w : List (List Int)} {g : List Wd} {rest wage : Int}
theorem refWork_ev {n : Nat} {wd : Wd} {σ : Wk} (hσ : OkW t σ) {d : Int} (hd : 0 ≤ d ∧ d ≤ 2000) {b0 b1 b2 b3 b4 b5 b6 b7 : Bool} :
    ev_ref11_On_work n σ.pl b0 b1 b2 b3 b4 b5 b6 b7 σ.oil σ.run σ.min wd.1 wd.2.1 wd.2.2.1 wd.2.2.2 d = some (σ.pl, b0, b1, b2, b3, b4, b5, b6, b7, σ.oil, σ.run + d, σ.min + d, (workP wd σ d).1) := by
  have hr := hσ.run;have hm := hσ.min;rw [ev_ref11_On_work, chk_of (in64_of (by omega)), chk_of (in64_of (by omega)), cond_if, workP]
  by_cases h1 : wd.2.2.2 < σ.run + d
  · rw [if_pos (decide_eq_true h1), if_pos h1]
  · rw [if_neg (by simpa using h1), if_neg h1, cond_if]
    by_cases h2 : wd.2.2.1 < σ.min + d
    · rw [if_pos (decide_eq_true h2), if_pos h2]
    · rw [if_neg (by simpa using h2), if_neg h2]
variable (h : OkR t w g rest wage) {wd : Wd} (hw : wd ∈ g)
include h in
theorem refHome_ev {n : Nat} {σ : Wk} (hσ : OkW t σ) :
    ev_ref11_Home n t w g rest wage wd.1 wd.2.1 wd.2.2.1 wd.2.2.2 σ.pl (hasP σ.wo 0) (hasP σ.wo 1) (hasP σ.wo 2) (hasP σ.wo 3) (hasP σ.wo 4) (hasP σ.wo 5) (hasP σ.wo 6) (hasP σ.wo 7) σ.oil σ.run σ.min = some (refR (homeP t w wd σ).2 (homeP t w wd σ).1) := by
  obtain ⟨r, h1, h2, h3, h4⟩ := way_at h hσ.pl (b := t.length) (by omega);rw [ev_ref11_Home, idx_of hσ.pl.1 h1, idx_of (by omega) h2, bind_of (refWork_ev hσ ⟨h3, by omega⟩)]
  rfl
theorem sel_ev {s : Int} (hs : 0 ≤ s) (wo : Int) (k : Nat) : cond (s.toNat == k) true (hasP wo (k : Int)) = hasP (withP wo s) (k : Int) := by
  rw [has_with hs (by omega)];have e : (s.toNat == k) = decide (s = (k : Int)) := by rw [Bool.eq_iff_iff]; simp; omega
  rw [e];cases decide (s = (k : Int)) <;> rfl
theorem bools_at {s : Int} (hs : 0 ≤ s ∧ s < 8) (wo : Int) : ([hasP wo 0, hasP wo 1, hasP wo 2, hasP wo 3, hasP wo 4, hasP wo 5, hasP wo 6, hasP wo 7] : List Bool)[s.toNat]? = some (hasP wo s) := by
  have : s = 0 ∨ s = 1 ∨ s = 2 ∨ s = 3 ∨ s = 4 ∨ s = 5 ∨ s = 6 ∨ s = 7 := by omega
  rcases this with rfl | rfl | rfl | rfl | rfl | rfl | rfl | rfl <;> rfl
include h hw in
theorem refStep_ev {n : Nat} {σ : Wk} (hσ : OkW t σ) (s : Int) :
    ∃ σ', ev_ref11_Step n t w g rest wage wd.1 wd.2.1 wd.2.2.1 wd.2.2.2 σ.pl (hasP σ.wo 0) (hasP σ.wo 1) (hasP σ.wo 2) (hasP σ.wo 3) (hasP σ.wo 4) (hasP σ.wo 5) (hasP σ.wo 6) (hasP σ.wo 7) σ.oil σ.run σ.min s = some (refR σ' (stepP t w rest wd σ s).1) ∧ ((stepP t w rest wd σ s).1 = 0 → σ' = (stepP t w rest wd σ s).2) := by
  have ht := h.tn;have hrest := h.rest;have hm := hσ.min;have ho := hσ.oil;rw [ev_ref11_Step, chk_of (in64_of (by omega)), in_ev, Option.bind_some, cond_if, stepP]
  by_cases h1 : s = -1
  · have hb : btw (-1) ((t.length : Int) - 1) s = true := btw_iff.2 (by omega);rw [if_pos h1, if_neg (by simp [hb]), cond_if, if_pos (by simpa using h1), chk_of (in64_of (by omega)), cond_if]
    by_cases h2 : wd.2.2.1 < σ.min + rest
    · rw [if_pos (decide_eq_true h2), if_pos h2];exact ⟨{ σ with run := 0, min := σ.min + rest }, rfl, fun _ => rfl⟩
    · rw [if_neg (by simpa using h2), if_neg h2];exact ⟨{ σ with run := 0, min := σ.min + rest }, rfl, fun _ => rfl⟩
  · rw [if_neg h1]
    by_cases h2 : 0 ≤ s ∧ s < t.length
    · have hb : btw (-1) ((t.length : Int) - 1) s = true := btw_iff.2 (by omega);obtain ⟨a1, a2, a3, a4⟩ := tow_at h h2;have hbs := bools_at (s := s) (by omega) σ.wo;rw [if_pos h2, if_neg (by simp [hb]), cond_if, if_neg (by simpa using h1), idx_of h2.1 a1, chk_of (by simp; omega), idx_of h2.1 hbs, cond_if]
      by_cases h3 : hasP σ.wo s = true
      · rw [if_pos h3, if_pos h3];exact ⟨σ, rfl, fun e => by simp at e⟩
      · rw [if_neg h3, if_neg h3, cond_if]
        by_cases h4 : bitK .u16 .andNot (towP t s).2.2.1 wd.1 ≠ 0
        · rw [if_pos (by simpa using h4), if_pos h4];exact ⟨σ, rfl, fun e => by simp at e⟩
        · rw [if_neg (by simpa using h4), if_neg h4, chk_of (in64_of (by omega)), cond_if]
          by_cases h5 : wd.2.1 < σ.oil + (towP t s).2.2.2.1
          · rw [if_pos (decide_eq_true h5), if_pos h5];exact ⟨{ σ with oil := σ.oil + (towP t s).2.2.2.1 }, rfl, fun e => by simp at e⟩
          · obtain ⟨r, b1, b2, b3, b4⟩ := way_at h hσ.pl (b := s) (by omega);have c := with_ev (n := n) (i := s) hσ.wo (by omega);have hwin := (h.win wd hw).1;have e0 := sel_ev h2.1 σ.wo 0;have e1 := sel_ev h2.1 σ.wo 1;have e2 := sel_ev h2.1 σ.wo 2;have e3 := sel_ev h2.1 σ.wo 3;have e4 := sel_ev h2.1 σ.wo 4;have e5 := sel_ev h2.1 σ.wo 5;have e6 := sel_ev h2.1 σ.wo 6;have e7 := sel_ev h2.1 σ.wo 7;simp only [Int.cast_ofNat_Int] at e0 e1 e2 e3 e4 e5 e6 e7;rw [if_neg (by simpa using h5), if_neg h5, idx_of hσ.pl.1 b1, idx_of h2.1 b2, chk_of (by simp; omega), idx_of h2.1 hbs, chk_of (in64_of (by omega)), chk_of (in64_of (by omega)), e0, e1, e2, e3, e4, e5, e6, e7,
              bind_of (refWork_ev (σ := { σ with pl := s, wo := withP σ.wo s, oil := σ.oil + (towP t s).2.2.2.1 }) (t := t) ⟨by show 0 ≤ s ∧ s ≤ t.length; omega, c.2, by show 0 ≤ σ.oil + (towP t s).2.2.2.1 ∧ σ.oil + (towP t s).2.2.2.1 ≤ 8000; omega, hσ.run, hσ.min⟩ (d := wayP w σ.pl s + (towP t s).1 + (towP t s).2.1) (by omega))]
            exact ⟨_, rfl, fun _ => rfl⟩
    · have hb : btw (-1) ((t.length : Int) - 1) s = false := by
        cases hb : btw (-1) ((t.length : Int) - 1) s
        · rfl
        · have := btw_iff.1 hb; omega
      rw [if_neg h2, if_pos (by simp [hb])];exact ⟨σ, rfl, fun e => by simp at e⟩
end
end Go.Proofs.YtohjpfkcahlfkaaGreat.Sy
