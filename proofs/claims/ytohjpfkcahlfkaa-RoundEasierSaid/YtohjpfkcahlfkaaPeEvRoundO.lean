/- Rounds: a step that is done leaves a state that is right; the whole walk of the program. -/
import Derived.Test.YtohjpfkcahlfkaaPeEvRoundW
import Derived.Test.YtohjpfkcahlfkaaPeGRound
set_option linter.unusedSimpArgs false
set_option linter.unusedVariables false
namespace Go.Proofs.Ytohjpfkcahlfkaa.Sy
open Go.RowKit
set_option maxRecDepth 100000
def beginP (t : List Tw) : Wk := ⟨t.length, 0, 0, 0, 0⟩
theorem begin_ok {t : List Tw} : OkW t (beginP t) := ⟨by show 0 ≤ (t.length : Int) ∧ (t.length : Int) ≤ t.length; omega, by show (0 : Int) ≤ 0 ∧ (0 : Int) < 256; decide, by show (0 : Int) ≤ 0 ∧ (0 : Int) ≤ 8000; decide, by show (0 : Int) ≤ 0 ∧ (0 : Int) ≤ 1440; decide, by show (0 : Int) ≤ 0 ∧ (0 : Int) ≤ 1440; decide⟩
theorem work_ok {t : List Tw} {wd : Wd} (hwd : (1 ≤ wd.2.2.1 ∧ wd.2.2.1 ≤ 1440) ∧ (1 ≤ wd.2.2.2 ∧ wd.2.2.2 ≤ 1440)) {σ : Wk} (hσ : OkW t σ) {d : Int} (hd : 0 ≤ d) (h0 : (workP wd σ d).1 = 0) : OkW t (workP wd σ d).2 := by
  unfold workP at h0 ⊢;have hr := hσ.run;have hm := hσ.min
  by_cases h1 : wd.2.2.2 < σ.run + d
  · rw [if_pos h1] at h0; simp at h0
  · rw [if_neg h1] at h0
    by_cases h2 : wd.2.2.1 < σ.min + d
    · rw [if_pos h2] at h0; simp at h0
    · exact ⟨hσ.pl, hσ.wo, hσ.oil, by show 0 ≤ σ.run + d ∧ σ.run + d ≤ 1440; omega, by show 0 ≤ σ.min + d ∧ σ.min + d ≤ 1440; omega⟩
section
variable {t : List Tw} {w : List (List Int)} {g : List Wd} {rest wage : Int} (h : OkR t w g rest wage) {wd : Wd} (hw : wd ∈ g)
include h hw in
theorem step_ok {σ : Wk} (hσ : OkW t σ) {s : Int} (h0 : (stepP t w rest wd σ s).1 = 0) : OkW t (stepP t w rest wd σ s).2 ∧ σ.min ≤ (stepP t w rest wd σ s).2.min := by
  have hwd := h.win wd hw;have hrest := h.rest;have ht := h.tn;unfold stepP at h0 ⊢
  by_cases h1 : s = -1
  · rw [if_pos h1] at h0 ⊢;have hm := hσ.min
    by_cases h2 : wd.2.2.1 < σ.min + rest
    · rw [if_pos h2] at h0; simp at h0
    · exact ⟨⟨hσ.pl, hσ.wo, hσ.oil, by show (0 : Int) ≤ 0 ∧ (0 : Int) ≤ 1440; decide, by show 0 ≤ σ.min + rest ∧ σ.min + rest ≤ 1440; omega⟩, by show σ.min ≤ σ.min + rest; omega⟩
  · rw [if_neg h1] at h0 ⊢
    by_cases h2 : 0 ≤ s ∧ s < t.length
    · obtain ⟨a1, a2, a3, a4⟩ := tow_at h h2;rw [if_pos h2] at h0 ⊢
      by_cases h3 : hasP σ.wo s = true
      · rw [if_pos h3] at h0; simp at h0
      · rw [if_neg h3] at h0 ⊢
        by_cases h4 : bitK .u16 .andNot (towP t s).2.2.1 wd.1 ≠ 0
        · rw [if_pos h4] at h0; simp at h0
        · rw [if_neg h4] at h0 ⊢
          by_cases h5 : wd.2.1 < σ.oil + (towP t s).2.2.2.1
          · rw [if_pos h5] at h0; simp at h0
          · obtain ⟨r, b1, b2, b3, b4⟩ := way_at h hσ.pl (b := s) (by omega);have c := with_ev (n := 0) (i := s) hσ.wo (by omega);have ho := hσ.oil;rw [if_neg h5] at h0 ⊢;refine ⟨work_ok (σ := { σ with pl := s, wo := withP σ.wo s, oil := σ.oil + (towP t s).2.2.2.1 }) (d := wayP w σ.pl s + (towP t s).1 + (towP t s).2.1) hwd.2 ⟨by show 0 ≤ s ∧ s ≤ t.length; omega, c.2, by show 0 ≤ σ.oil + (towP t s).2.2.2.1 ∧ σ.oil + (towP t s).2.2.2.1 ≤ 8000; omega, hσ.run, hσ.min⟩ (by omega) h0, ?_⟩;show σ.min ≤ σ.min + _
            omega
    · rw [if_neg h2] at h0; simp at h0
include h hw in
theorem home_ok {σ : Wk} (hσ : OkW t σ) (h0 : (homeP t w wd σ).1 = 0) : σ.min ≤ (homeP t w wd σ).2.min ∧ 0 ≤ (homeP t w wd σ).2.min ∧ (homeP t w wd σ).2.min ≤ 1440 := by
  obtain ⟨r, b1, b2, b3, b4⟩ := way_at h hσ.pl (b := t.length) (by omega);have := (work_ok (h.win wd hw).2 hσ b3 h0).min;exact ⟨by show σ.min ≤ σ.min + _; omega, this⟩
end
section
variable {t : List Tw} {w : List (List Int)} {g : List Wd} {rest wage : Int} (h : OkR t w g rest wage) {wd : Wd} (hw : wd ∈ g)
theorem isNumber_ev {n : Nat} (hn : 1 < n) (hg : g.length ≤ 1000) {x : Int} : ev_round_isNumber n t w g rest wage x = some (decide (0 ≤ x ∧ x < g.length)) := by
  rw [ev_round_isNumber, chk_of (in64_of (by omega)), bind_of (wi1_round hn)]
  congr 1
  rw [← Bool.decide_and, decide_eq_decide]
  omega
theorem start_ev {n : Nat} {x : Int} (hx : 0 ≤ x ∧ x < g.length) : ∃ wd, g[x.toNat]? = some wd ∧ wd ∈ g ∧ ev_round_start n t w g rest wage x = some (t, w, g, rest, wage, wd.1, wd.2.1, wd.2.2.1, wd.2.2.2, (t.length : Int), 0, 0, 0, 0) := by
  have hlt : x.toNat < g.length := by omega
  have hwk : ev_round_works n t w g rest wage = some (t.length : Int) := rfl;refine ⟨_, List.getElem?_eq_getElem hlt, List.getElem_mem hlt, ?_⟩;rw [ev_round_start, idx_of hx.1 (List.getElem?_eq_getElem hlt), bind_of hwk]
end
end Go.Proofs.Ytohjpfkcahlfkaa.Sy
