/- Rounds: the document's step, way home and walk are the program's. -/
import Derived.Test.YtohjpfkcahlfkaaGreatPwEvRoundO
import Derived.Test.YtohjpfkcahlfkaaGreatPwEvRoundA
set_option linter.unusedSimpArgs false
set_option linter.unusedVariables false
namespace Go.Proofs.YtohjpfkcahlfkaaGreat.Sy
open Go.RowKit
set_option maxRecDepth 100000
abbrev On := Int × Bool × Bool × Bool × Bool × Bool × Bool × Bool × Bool × Int × Int × Int × Int
def refR (σ : Wk) (e : Int) : On := (σ.pl, hasP σ.wo 0, hasP σ.wo 1, hasP σ.wo 2, hasP σ.wo 3, hasP σ.wo 4, hasP σ.wo 5, hasP σ.wo 6, hasP σ.wo 7, σ.oil, σ.run, σ.min, e)
section
variable {t : List Tw} {w : List (List Int)} {g : List Wd} {rest wage : Int}
theorem refWork_ev {n : Nat} {wd : Wd} {σ : Wk} (hσ : OkW t σ) {d : Int} (hd : 0 ≤ d ∧ d ≤ 2000) {b0 b1 b2 b3 b4 b5 b6 b7 : Bool} :
    ev_ref11_On_work n σ.pl b0 b1 b2 b3 b4 b5 b6 b7 σ.oil σ.run σ.min wd.1 wd.2.1 wd.2.2.1 wd.2.2.2 d = some (σ.pl, b0, b1, b2, b3, b4, b5, b6, b7, σ.oil, σ.run + d, σ.min + d, (workP wd σ d).1) := by
  have hr := hσ.run
  have hm := hσ.min
  rw [ev_ref11_On_work, chk_of (in64_of (by omega)), chk_of (in64_of (by omega)), cond_if, workP]
  by_cases h1 : wd.2.2.2 < σ.run + d
  · rw [if_pos (decide_eq_true h1), if_pos h1]
  · rw [if_neg (by simpa using h1), if_neg h1, cond_if]
    by_cases h2 : wd.2.2.1 < σ.min + d
    · rw [if_pos (decide_eq_true h2), if_pos h2]
    · rw [if_neg (by simpa using h2), if_neg h2]
variable (h : OkR t w g rest wage) {wd : Wd} (hw : wd ∈ g)
include h in
theorem refHome_ev {n : Nat} {σ : Wk} (hσ : OkW t σ) :
    ev_ref11_Home n t w g rest wage wd.1 wd.2.1 wd.2.2.1 wd.2.2.2 σ.pl (hasP σ.wo 0) (hasP σ.wo 1) (hasP σ.wo 2) (hasP σ.wo 3) (hasP σ.wo 4) (hasP σ.wo 5) (hasP σ.wo 6) (hasP σ.wo 7) σ.oil σ.run σ.min = some (refR (homeP t w wd σ).2 (homeP t w wd σ).1) := by
  obtain ⟨r, h1, h2, h3, h4⟩ := way_at h hσ.pl (b := t.length) (by omega)
  rw [ev_ref11_Home, idx_of hσ.pl.1 h1, idx_of (by omega) h2, bind_of (refWork_ev hσ ⟨h3, by omega⟩)]
  rfl
theorem sel_ev {s : Int} (hs : 0 ≤ s) (wo : Int) (k : Nat) : cond (s.toNat == k) true (hasP wo (k : Int)) = hasP (withP wo s) (k : Int) := by
  rw [has_with hs (by omega)]
  have e : (s.toNat == k) = decide (s = (k : Int)) := by rw [Bool.eq_iff_iff]; simp; omega
  rw [e]
  cases decide (s = (k : Int)) <;> rfl
theorem bools_at {s : Int} (hs : 0 ≤ s ∧ s < 8) (wo : Int) : ([hasP wo 0, hasP wo 1, hasP wo 2, hasP wo 3, hasP wo 4, hasP wo 5, hasP wo 6, hasP wo 7] : List Bool)[s.toNat]? = some (hasP wo s) := by
  have : s = 0 ∨ s = 1 ∨ s = 2 ∨ s = 3 ∨ s = 4 ∨ s = 5 ∨ s = 6 ∨ s = 7 := by omega
  rcases this with rfl | rfl | rfl | rfl | rfl | rfl | rfl | rfl <;> rfl
include h hw in
theorem refStep_ev {n : Nat} {σ : Wk} (hσ : OkW t σ) (s : Int) :
    ∃ σ', ev_ref11_Step n t w g rest wage wd.1 wd.2.1 wd.2.2.1 wd.2.2.2 σ.pl (hasP σ.wo 0) (hasP σ.wo 1) (hasP σ.wo 2) (hasP σ.wo 3) (hasP σ.wo 4) (hasP σ.wo 5) (hasP σ.wo 6) (hasP σ.wo 7) σ.oil σ.run σ.min s = some (refR σ' (stepP t w rest wd σ s).1) ∧ ((stepP t w rest wd σ s).1 = 0 → σ' = (stepP t w rest wd σ s).2) := by
  have ht := h.tn
  have hrest := h.rest
  have hm := hσ.min
  have ho := hσ.oil
  rw [ev_ref11_Step, chk_of (in64_of (by omega)), in_ev, Option.bind_some, cond_if, stepP]
  by_cases h1 : s = -1
  · have hb : btw (-1) ((t.length : Int) - 1) s = true := btw_iff.2 (by omega)
    rw [if_pos h1, if_neg (by simp [hb]), cond_if, if_pos (by simpa using h1), chk_of (in64_of (by omega)), cond_if]
    by_cases h2 : wd.2.2.1 < σ.min + rest
    · rw [if_pos (decide_eq_true h2), if_pos h2]
      exact ⟨{ σ with run := 0, min := σ.min + rest }, rfl, fun _ => rfl⟩
    · rw [if_neg (by simpa using h2), if_neg h2]
      exact ⟨{ σ with run := 0, min := σ.min + rest }, rfl, fun _ => rfl⟩
  · rw [if_neg h1]
    by_cases h2 : 0 ≤ s ∧ s < t.length
    · have hb : btw (-1) ((t.length : Int) - 1) s = true := btw_iff.2 (by omega)
      obtain ⟨a1, a2, a3, a4⟩ := tow_at h h2
      have hbs := bools_at (s := s) (by omega) σ.wo
      rw [if_pos h2, if_neg (by simp [hb]), cond_if, if_neg (by simpa using h1), idx_of h2.1 a1, chk_of (by simp; omega), idx_of h2.1 hbs, cond_if]
      by_cases h3 : hasP σ.wo s = true
      · rw [if_pos h3, if_pos h3]
        exact ⟨σ, rfl, fun e => by simp at e⟩
      · rw [if_neg h3, if_neg h3, cond_if]
        by_cases h4 : bitK .u16 .andNot (towP t s).2.2.1 wd.1 ≠ 0
        · rw [if_pos (by simpa using h4), if_pos h4]
          exact ⟨σ, rfl, fun e => by simp at e⟩
        · rw [if_neg (by simpa using h4), if_neg h4, chk_of (in64_of (by omega)), cond_if]
          by_cases h5 : wd.2.1 < σ.oil + (towP t s).2.2.2.1
          · rw [if_pos (decide_eq_true h5), if_pos h5]
            exact ⟨{ σ with oil := σ.oil + (towP t s).2.2.2.1 }, rfl, fun e => by simp at e⟩
          · obtain ⟨r, b1, b2, b3, b4⟩ := way_at h hσ.pl (b := s) (by omega)
            have c := with_ev (n := n) (i := s) hσ.wo (by omega)
            have hwin := (h.win wd hw).1
            have e0 := sel_ev h2.1 σ.wo 0
            have e1 := sel_ev h2.1 σ.wo 1
            have e2 := sel_ev h2.1 σ.wo 2
            have e3 := sel_ev h2.1 σ.wo 3
            have e4 := sel_ev h2.1 σ.wo 4
            have e5 := sel_ev h2.1 σ.wo 5
            have e6 := sel_ev h2.1 σ.wo 6
            have e7 := sel_ev h2.1 σ.wo 7
            simp only [Int.cast_ofNat_Int] at e0 e1 e2 e3 e4 e5 e6 e7
            rw [if_neg (by simpa using h5), if_neg h5, idx_of hσ.pl.1 b1, idx_of h2.1 b2, chk_of (by simp; omega), idx_of h2.1 hbs, chk_of (in64_of (by omega)), chk_of (in64_of (by omega)), e0, e1, e2, e3, e4, e5, e6, e7,
              bind_of (refWork_ev (σ := { σ with pl := s, wo := withP σ.wo s, oil := σ.oil + (towP t s).2.2.2.1 }) (t := t) ⟨by show 0 ≤ s ∧ s ≤ t.length; omega, c.2, by show 0 ≤ σ.oil + (towP t s).2.2.2.1 ∧ σ.oil + (towP t s).2.2.2.1 ≤ 8000; omega, hσ.run, hσ.min⟩ (d := wayP w σ.pl s + (towP t s).1 + (towP t s).2.1) (by omega))]
            exact ⟨_, rfl, fun _ => rfl⟩
    · have hb : btw (-1) ((t.length : Int) - 1) s = false := by
        cases hb : btw (-1) ((t.length : Int) - 1) s
        · rfl
        · have := btw_iff.1 hb; omega
      rw [if_neg h2, if_pos (by simp [hb])]
      exact ⟨σ, rfl, fun e => by simp at e⟩
include h hw in
theorem refWalk_l0 {n : Nat} {t6 : Int} {l : List Int} (hl : l.length ≤ 10000) : ∀ (k m i : Nat) (σ : Wk), i + k = l.length → k < m → OkW t σ →
    ev_ref11_Walk_l0 n m (i : Int) rest wage t6 wd.1 wd.2.1 wd.2.2.1 wd.2.2.2 σ.pl (hasP σ.wo 0) (hasP σ.wo 1) (hasP σ.wo 2) (hasP σ.wo 3) (hasP σ.wo 4) (hasP σ.wo 5) (hasP σ.wo 6) (hasP σ.wo 7) σ.oil σ.run σ.min t w g l = some (walkP t w rest wd i σ (l.drop i)) := by
  intro k
  induction k with
  | zero =>
    intro m i σ hi hm hσ
    obtain ⟨m, rfl⟩ : ∃ m', m = m' + 1 := ⟨m - 1, by omega⟩
    rw [ev_ref11_Walk_l0, cond_if, if_neg (by simp; omega), bind_of (refHome_ev h hσ), List.drop_eq_nil_of_le (by omega), walkP]
    dsimp only [refR]
    rw [cond_if]
    by_cases h0 : (homeP t w wd σ).1 = 0
    · rw [if_neg (by simpa using h0), if_pos h0]
    · rw [if_pos (by simpa using h0), if_neg h0, show (l.length : Int) = (i : Int) by omega]
  | succ k ih =>
    intro m i σ hi hm hσ
    obtain ⟨m, rfl⟩ : ∃ m', m = m' + 1 := ⟨m - 1, by omega⟩
    have hlt : i < l.length := by omega
    obtain ⟨σ', e1, e2⟩ := refStep_ev h hw (n := n) hσ l[i]
    rw [ev_ref11_Walk_l0, cond_if, if_pos (decide_eq_true (by omega)), idx_nat (List.getElem?_eq_getElem hlt), bind_of e1, List.drop_eq_getElem_cons hlt, walkP]
    dsimp only [refR]
    rw [cond_if]
    by_cases h0 : (stepP t w rest wd σ l[i]).1 = 0
    · rw [if_neg (by simpa using h0), if_pos h0, chk_of (in64_of (by omega)), e2 h0]
      exact ih m (i + 1) _ (by omega) (by omega) (step_ok h hw hσ h0).1
    · rw [if_pos (by simpa using h0), if_neg h0]
include h in
theorem refWalk_ev {n : Nat} (hn : 2000 < n) {x : Int} {l : List Int} (hl : l.length ≤ 100) : ev_ref11_Walk n t w g rest wage x l = some (walkR t w g rest x l) := by
  have hg := h.gn
  rw [ev_ref11_Walk, chk_of (in64_of (by omega)), in_ev, Option.bind_some, cond_if]
  by_cases hx : 0 ≤ x ∧ x < g.length
  · have hlt : x.toNat < g.length := by omega
    have hb : btw 0 ((g.length : Int) - 1) x = true := btw_iff.2 (by omega)
    rw [if_neg (by simp [hb]), walkR, List.getElem?_eq_getElem hlt, cond_if]
    dsimp only
    rw [if_neg (show ¬ x < 0 by omega)]
    by_cases hlong : 40 < l.length
    · rw [if_pos (decide_eq_true (by omega)), if_pos hlong]
    · have := refWalk_l0 h (List.getElem_mem hlt) (n := n) (t6 := x) (l := l) (by omega) l.length n 0 (beginP t) (by omega) (by omega) begin_ok
      rw [List.drop_zero] at this
      simp only [show (beginP t).wo = 0 from rfl, hasP_zero] at this
      have hbg : ev_ref11_Begin n t w g rest wage = some ((t.length : Int), false, false, false, false, false, false, false, false, 0, 0, 0) := rfl
      rw [if_neg (by simp; omega), if_neg hlong, idx_of hx.1 (List.getElem?_eq_getElem hlt), bind_of hbg]
      exact this
  · have hb : btw 0 ((g.length : Int) - 1) x = false := by
      cases hb : btw 0 ((g.length : Int) - 1) x
      · rfl
      · have := btw_iff.1 hb; omega
    rw [if_pos (by simp [hb]), walkR]
    by_cases h0 : x < 0
    · cases g[x.toNat]? with
      | none => rfl
      | some wd => dsimp only; rw [if_pos h0]
    · rw [List.getElem?_eq_none (by omega)]
end
end Go.Proofs.YtohjpfkcahlfkaaGreat.Sy
