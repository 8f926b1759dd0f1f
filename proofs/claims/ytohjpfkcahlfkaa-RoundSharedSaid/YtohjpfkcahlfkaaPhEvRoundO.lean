/- Rounds: a step that is done leaves a state that is right; the whole walk of the program. -/
import Derived.Test.YtohjpfkcahlfkaaPhEvRoundW
import Derived.Test.YtohjpfkcahlfkaaPhGRound
set_option linter.unusedSimpArgs false
set_option linter.unusedVariables false
namespace Go.Proofs.Ytohjpfkcahlfkaa.Sy
open Go.RowKit
set_option maxRecDepth 100000
def beginP (t : List Tw) : Wk := ⟨t.length, 0, 0, 0, 0⟩
theorem begin_ok {t : List Tw} : OkW t (beginP t) := ⟨by show 0 ≤ (t.length : Int) ∧ (t.length : Int) ≤ t.length; omega, by show (0 : Int) ≤ 0 ∧ (0 : Int) < 256; decide, by show (0 : Int) ≤ 0 ∧ (0 : Int) ≤ 8000; decide, by show (0 : Int) ≤ 0 ∧ (0 : Int) ≤ 1440; decide, by show (0 : Int) ≤ 0 ∧ (0 : Int) ≤ 1440; decide⟩
theorem work_ok {t : List Tw} {wd : Wd} (hwd : (1 ≤ wd.2.2.1 ∧ wd.2.2.1 ≤ 1440) ∧ (1 ≤ wd.2.2.2 ∧ wd.2.2.2 ≤ 1440)) {σ : Wk} (hσ : OkW t σ) {d : Int} (hd : 0 ≤ d) (h0 : (workP wd σ d).1 = 0) : OkW t (workP wd σ d).2 := by
  unfold workP at h0 ⊢
  have hr := hσ.run
  have hm := hσ.min
  by_cases h1 : wd.2.2.2 < σ.run + d
  · rw [if_pos h1] at h0; simp at h0
  · rw [if_neg h1] at h0
    by_cases h2 : wd.2.2.1 < σ.min + d
    · rw [if_pos h2] at h0; simp at h0
    · exact ⟨hσ.pl, hσ.wo, hσ.oil, by show 0 ≤ σ.run + d ∧ σ.run + d ≤ 1440; omega, by show 0 ≤ σ.min + d ∧ σ.min + d ≤ 1440; omega⟩
section
variable {t : List Tw} {w : List (List Int)} {g : List Wd} {rest wage : Int} (h : OkR t w g rest wage) {wd : Wd} (hw : wd ∈ g)
include h hw in
theorem step_ok {σ : Wk} (hσ : OkW t σ) {s : Int} (h0 : (stepP t w rest wd σ s).1 = 0) : OkW t (stepP t w rest wd σ s).2 ∧ σ.min ≤ (stepP t w rest wd σ s).2.min := by
  have hwd := h.win wd hw
  have hrest := h.rest
  have ht := h.tn
  unfold stepP at h0 ⊢
  by_cases h1 : s = -1
  · rw [if_pos h1] at h0 ⊢
    have hm := hσ.min
    by_cases h2 : wd.2.2.1 < σ.min + rest
    · rw [if_pos h2] at h0; simp at h0
    · exact ⟨⟨hσ.pl, hσ.wo, hσ.oil, by show (0 : Int) ≤ 0 ∧ (0 : Int) ≤ 1440; decide, by show 0 ≤ σ.min + rest ∧ σ.min + rest ≤ 1440; omega⟩, by show σ.min ≤ σ.min + rest; omega⟩
  · rw [if_neg h1] at h0 ⊢
    by_cases h2 : 0 ≤ s ∧ s < t.length
    · obtain ⟨a1, a2, a3, a4⟩ := tow_at h h2
      rw [if_pos h2] at h0 ⊢
      by_cases h3 : hasP σ.wo s = true
      · rw [if_pos h3] at h0; simp at h0
      · rw [if_neg h3] at h0 ⊢
        by_cases h4 : bitK .u16 .andNot (towP t s).2.2.1 wd.1 ≠ 0
        · rw [if_pos h4] at h0; simp at h0
        · rw [if_neg h4] at h0 ⊢
          by_cases h5 : wd.2.1 < σ.oil + (towP t s).2.2.2.1
          · rw [if_pos h5] at h0; simp at h0
          · obtain ⟨r, b1, b2, b3, b4⟩ := way_at h hσ.pl (b := s) (by omega)
            have c := with_ev (n := 0) (i := s) hσ.wo (by omega)
            have ho := hσ.oil
            rw [if_neg h5] at h0 ⊢
            refine ⟨work_ok (σ := { σ with pl := s, wo := withP σ.wo s, oil := σ.oil + (towP t s).2.2.2.1 }) (d := wayP w σ.pl s + (towP t s).1 + (towP t s).2.1) hwd.2 ⟨by show 0 ≤ s ∧ s ≤ t.length; omega, c.2, by show 0 ≤ σ.oil + (towP t s).2.2.2.1 ∧ σ.oil + (towP t s).2.2.2.1 ≤ 8000; omega, hσ.run, hσ.min⟩ (by omega) h0, ?_⟩
            show σ.min ≤ σ.min + _
            omega
    · rw [if_neg h2] at h0; simp at h0
include h hw in
theorem home_ok {σ : Wk} (hσ : OkW t σ) (h0 : (homeP t w wd σ).1 = 0) : σ.min ≤ (homeP t w wd σ).2.min ∧ 0 ≤ (homeP t w wd σ).2.min ∧ (homeP t w wd σ).2.min ≤ 1440 := by
  obtain ⟨r, b1, b2, b3, b4⟩ := way_at h hσ.pl (b := t.length) (by omega)
  have := (work_ok (h.win wd hw).2 hσ b3 h0).min
  exact ⟨by show σ.min ≤ σ.min + _; omega, this⟩
end
def walkP (t : List Tw) (w : List (List Int)) (rest : Int) (wd : Wd) : Nat → Wk → List Int → Int × Int × Int
  | i, σ, [] => if (homeP t w wd σ).1 = 0 then ((homeP t w wd σ).2.min, 0, 0) else (0, (i : Int), (homeP t w wd σ).1)
  | i, σ, s :: l => if (stepP t w rest wd σ s).1 = 0 then walkP t w rest wd (i + 1) (stepP t w rest wd σ s).2 l else (0, (i : Int), (stepP t w rest wd σ s).1)
section
variable {t : List Tw} {w : List (List Int)} {g : List Wd} {rest wage : Int} (h : OkR t w g rest wage) {wd : Wd} (hw : wd ∈ g)
include h hw in
theorem walk_l0 {n : Nat} (hn : 1 < n) {t6 : Int} {l : List Int} (hl : l.length ≤ 10000) : ∀ (k m i : Nat) (σ : Wk), i + k = l.length → k < m → OkW t σ →
    ev_round_Walk_l0 n l m (i : Int) rest wage t6 rest wage wd.1 wd.2.1 wd.2.2.1 wd.2.2.2 σ.pl σ.wo σ.oil σ.run σ.min l t w g t w g = some ((walkP t w rest wd i σ (l.drop i)).1, (walkP t w rest wd i σ (l.drop i)).1 * wage, (walkP t w rest wd i σ (l.drop i)).2.1, (walkP t w rest wd i σ (l.drop i)).2.2) := by
  intro k
  induction k with
  | zero =>
    intro m i σ hi hm hσ
    obtain ⟨m, rfl⟩ : ∃ m', m = m' + 1 := ⟨m - 1, by omega⟩
    have hwage := h.wage
    rw [ev_round_Walk_l0, cond_if, if_neg (by simp; omega), bind_of (home_ev h hσ), List.drop_eq_nil_of_le (by omega), walkP, cond_if]
    dsimp only
    by_cases h0 : (homeP t w wd σ).1 = 0
    · have hh := home_ok h hw hσ h0
      have hmul : (homeP t w wd σ).2.min * wage ≤ 1440 * 1000 := Int.mul_le_mul hh.2.2 hwage.2 hwage.1 (by decide)
      have hmul0 : 0 ≤ (homeP t w wd σ).2.min * wage := Int.mul_nonneg hh.2.1 hwage.1
      rw [if_neg (by simpa using h0), if_pos h0, chk_of (in64_of (by omega))]
    · rw [if_pos (by simpa using h0), if_neg h0, Int.zero_mul, show (l.length : Int) = (i : Int) by omega]
  | succ k ih =>
    intro m i σ hi hm hσ
    obtain ⟨m, rfl⟩ : ∃ m', m = m' + 1 := ⟨m - 1, by omega⟩
    have hlt : i < l.length := by omega
    rw [ev_round_Walk_l0, cond_if, if_pos (decide_eq_true (by omega)), idx_nat (List.getElem?_eq_getElem hlt), bind_of (step_ev h hw hn hσ _), List.drop_eq_getElem_cons hlt, walkP, cond_if]
    dsimp only
    by_cases h0 : (stepP t w rest wd σ l[i]).1 = 0
    · rw [if_neg (by simpa using h0), if_pos h0, chk_of (in64_of (by omega))]
      exact ih m (i + 1) _ (by omega) (by omega) (step_ok h hw hσ h0).1
    · rw [if_pos (by simpa using h0), if_neg h0, Int.zero_mul]
theorem isNumber_ev {n : Nat} (hn : 1 < n) (hg : g.length ≤ 1000) {x : Int} : ev_round_isNumber n t w g rest wage x = some (decide (0 ≤ x ∧ x < g.length)) := by
  rw [ev_round_isNumber, chk_of (in64_of (by omega)), bind_of (wi1_round hn)]
  congr 1
  rw [← Bool.decide_and, decide_eq_decide]
  omega
theorem start_ev {n : Nat} {x : Int} (hx : 0 ≤ x ∧ x < g.length) : ∃ wd, g[x.toNat]? = some wd ∧ wd ∈ g ∧ ev_round_start n t w g rest wage x = some (t, w, g, rest, wage, wd.1, wd.2.1, wd.2.2.1, wd.2.2.2, (t.length : Int), 0, 0, 0, 0) := by
  have hlt : x.toNat < g.length := by omega
  have hwk : ev_round_works n t w g rest wage = some (t.length : Int) := rfl
  refine ⟨_, List.getElem?_eq_getElem hlt, List.getElem_mem hlt, ?_⟩
  rw [ev_round_start, idx_of hx.1 (List.getElem?_eq_getElem hlt), bind_of hwk]
def walkR (t : List Tw) (w : List (List Int)) (g : List Wd) (rest : Int) (x : Int) (l : List Int) : Int × Int × Int :=
  match g[x.toNat]? with
  | none => (0, 0, 7)
  | some wd => if x < 0 then (0, 0, 7) else if 40 < l.length then (0, 0, 5) else walkP t w rest wd 0 (beginP t) l
include h in
theorem walk_ev {n : Nat} (hn : 2000 < n) {x : Int} {l : List Int} (hl : l.length ≤ 100) : ev_round_Walk n t w g rest wage x l = some ((walkR t w g rest x l).1, (walkR t w g rest x l).1 * wage, (walkR t w g rest x l).2.1, (walkR t w g rest x l).2.2) := by
  have hg := h.gn
  rw [ev_round_Walk, bind_of (check_ev (by omega) h), cond_if, if_neg (by simp), bind_of (isNumber_ev (by omega) (by omega)), cond_if]
  by_cases hx : 0 ≤ x ∧ x < g.length
  · obtain ⟨wd, hwd, hm, hs⟩ := start_ev (t := t) (w := w) (rest := rest) (wage := wage) (n := n) hx
    rw [if_neg (by simp; omega), walkR, hwd, cond_if]
    dsimp only
    rw [if_neg (show ¬ x < 0 by omega)]
    by_cases hlong : 40 < l.length
    · rw [if_pos (decide_eq_true (by omega)), if_pos hlong, Int.zero_mul]
    · have := walk_l0 h hm (n := n) (by omega) (t6 := x) (l := l) (by omega) l.length n 0 (beginP t) (by omega) (by omega) begin_ok
      rw [List.drop_zero] at this
      rw [if_neg (by simp; omega), if_neg hlong, bind_of hs]
      exact this
  · rw [if_pos (by simp; omega), walkR]
    by_cases h0 : x < 0
    · cases g[x.toNat]? with
      | none => rw [Int.zero_mul]
      | some wd => dsimp only; rw [if_pos h0, Int.zero_mul]
    · rw [List.getElem?_eq_none (by omega), Int.zero_mul]
end
end Go.Proofs.Ytohjpfkcahlfkaa.Sy
