/- Rounds: a step, the way home, and the whole walk. -/
import Derived.Test.YtohjpfkcahlfkaaPeEvRoundC
import Derived.Test.YtohjpfkcahlfkaaPeGTurretref11
set_option linter.unusedSimpArgs false
set_option linter.unusedVariables false
namespace Go.Proofs.Ytohjpfkcahlfkaa.Sy
open Go.RowKit
set_option maxRecDepth 100000
structure Wk where
  pl : Int
  wo : Int
  oil : Int
  run : Int
  min : Int
def hasP (s i : Int) : Bool := Nat.testBit s.toNat i.toNat
def withP (s i : Int) : Int := ((s.toNat ||| 2 ^ i.toNat : Nat) : Int)
theorem has_all : ((List.range 256).all fun s => (List.range 8).all fun i => (bitK .i64 .and ((s : Int) / (shK .i64 (i : Int) : Int)) 1 == 1) == hasP (s : Int) (i : Int)) = true := by decide +kernel
theorem with_all : ((List.range 256).all fun s => (List.range 8).all fun i => decide (bitK .i64 .or (s : Int) ((1 : Int) * (shK .i64 (i : Int) : Int)) = withP (s : Int) (i : Int)) && (decide (in64 ((1 : Int) * (shK .i64 (i : Int) : Int)) = true) && decide (withP (s : Int) (i : Int) < 256))) = true := by decide +kernel
theorem has_ev {n : Nat} {s i : Int} (hs : 0 ≤ s ∧ s < 256) (hi : 0 ≤ i ∧ i < 8) : ev_round_set_has n s i = some (hasP s i) := by
  obtain ⟨a, rfl⟩ : ∃ a : Nat, s = a := ⟨s.toNat, by omega⟩;obtain ⟨b, rfl⟩ : ∃ b : Nat, i = b := ⟨i.toNat, by omega⟩;have h := List.all_eq_true.1 (List.all_eq_true.1 has_all a (List.mem_range.2 (by omega))) b (List.mem_range.2 (by omega));rw [ev_round_set_has, chk_of (by simp)];simp only [beq_iff_eq] at h;rw [h]
theorem with_ev {n : Nat} {s i : Int} (hs : 0 ≤ s ∧ s < 256) (hi : 0 ≤ i ∧ i < 8) : ev_round_set_with n s i = some (withP s i) ∧ 0 ≤ withP s i ∧ withP s i < 256 := by
  obtain ⟨a, rfl⟩ : ∃ a : Nat, s = a := ⟨s.toNat, by omega⟩;obtain ⟨b, rfl⟩ : ∃ b : Nat, i = b := ⟨i.toNat, by omega⟩;have h := List.all_eq_true.1 (List.all_eq_true.1 with_all a (List.mem_range.2 (by omega))) b (List.mem_range.2 (by omega));simp only [Bool.and_eq_true, decide_eq_true_eq] at h;refine ⟨?_, by unfold withP; omega, h.2.2⟩;rw [ev_round_set_with, chk_of (by simp), chk_of h.2.1, h.1]
theorem has_with {s i k : Int} (hi : 0 ≤ i) (hk : 0 ≤ k) : hasP (withP s i) k = (decide (i = k) || hasP s k) := by
  unfold hasP withP;rw [Int.toNat_natCast, Nat.testBit_or, Nat.testBit_two_pow, Bool.or_comm]
  congr 1
  exact decide_eq_decide.2 (by omega)
theorem hasP_zero (k : Int) : hasP 0 k = false := by unfold hasP; simp
def wayP (w : List (List Int)) (a b : Int) : Int := (w.getD a.toNat []).getD b.toNat 0
def workP (wd : Wd) (σ : Wk) (d : Int) : Int × Wk := (if wd.2.2.2 < σ.run + d then 111 else if wd.2.2.1 < σ.min + d then 110 else 0, { σ with run := σ.run + d, min := σ.min + d })
def towP (t : List Tw) (s : Int) : Tw := t.getD s.toNat (0, 0, 0, 0, 0)
def stepP (t : List Tw) (w : List (List Int)) (rest : Int) (wd : Wd) (σ : Wk) (s : Int) : Int × Wk :=
  if s = -1 then (if wd.2.2.1 < σ.min + rest then 110 else 0, { σ with run := 0, min := σ.min + rest })
  else if 0 ≤ s ∧ s < t.length then
    if hasP σ.wo s = true then (6, { σ with oil := σ.oil + (towP t s).2.2.2.1 })
    else if bitK .u16 .andNot (towP t s).2.2.1 wd.1 ≠ 0 then (112, { σ with oil := σ.oil + (towP t s).2.2.2.1 })
    else if wd.2.1 < σ.oil + (towP t s).2.2.2.1 then (113, { σ with oil := σ.oil + (towP t s).2.2.2.1 })
    else workP wd { σ with pl := s, wo := withP σ.wo s, oil := σ.oil + (towP t s).2.2.2.1 } (wayP w σ.pl s + (towP t s).1 + (towP t s).2.1)
  else (2, σ)
def homeP (t : List Tw) (w : List (List Int)) (wd : Wd) (σ : Wk) : Int × Wk := workP wd σ (wayP w σ.pl t.length)
structure OkW (t : List Tw) (σ : Wk) : Prop where
  pl : 0 ≤ σ.pl ∧ σ.pl ≤ t.length
  wo : 0 ≤ σ.wo ∧ σ.wo < 256
  oil : 0 ≤ σ.oil ∧ σ.oil ≤ 8000
  run : 0 ≤ σ.run ∧ σ.run ≤ 1440
  min : 0 ≤ σ.min ∧ σ.min ≤ 1440
section
variable {t : List Tw} {w : List (List Int)} {g : List Wd} {rest wage : Int} (h : OkR t w g rest wage) {wd : Wd} (hw : wd ∈ g)
include h in
theorem way_at {a b : Int} (ha : 0 ≤ a ∧ a ≤ t.length) (hb : 0 ≤ b ∧ b ≤ t.length) : ∃ r, w[a.toNat]? = some r ∧ r[b.toNat]? = some (wayP w a b) ∧ 0 ≤ wayP w a b ∧ wayP w a b ≤ 1440 := by
  have hwn := h.wn;have hlt : a.toNat < w.length := by omega
  have hr := h.row _ (List.getElem_mem hlt);have hlt2 : b.toNat < w[a.toNat].length := by omega
  have e : wayP w a b = w[a.toNat][b.toNat] := by
    unfold wayP;rw [List.getD_eq_getElem?_getD, List.getD_eq_getElem?_getD, List.getElem?_eq_getElem hlt, Option.getD_some, List.getElem?_eq_getElem hlt2]; rfl
  have hv := h.way _ (List.getElem_mem hlt) _ (List.getElem_mem hlt2);exact ⟨_, List.getElem?_eq_getElem hlt, by rw [List.getElem?_eq_getElem hlt2, e], by omega, by omega⟩
include h in
theorem tow_at {s : Int} (hs : 0 ≤ s ∧ s < t.length) : t[s.toNat]? = some (towP t s) ∧ (0 ≤ (towP t s).1 ∧ (towP t s).1 ≤ 120) ∧ (0 ≤ (towP t s).2.1 ∧ (towP t s).2.1 ≤ 120) ∧ (0 ≤ (towP t s).2.2.2.1 ∧ (towP t s).2.2.2.1 ≤ 1000) := by
  have hlt : s.toNat < t.length := by omega
  have e : towP t s = t[s.toNat] := by unfold towP; rw [List.getD_eq_getElem?_getD, List.getElem?_eq_getElem hlt]; rfl
  have hv := h.tow _ (List.getElem_mem hlt);rw [e];exact ⟨List.getElem?_eq_getElem hlt, hv.1, hv.2.1, hv.2.2.1⟩
theorem work_ev {n : Nat} {σ : Wk} (hσ : OkW t σ) {d : Int} (hd : 0 ≤ d ∧ d ≤ 2000) :
    ev_p_round_walker_work n t w g rest wage wd.1 wd.2.1 wd.2.2.1 wd.2.2.2 σ.pl σ.wo σ.oil σ.run σ.min d = some ((workP wd σ d).1, t, w, g, rest, wage, wd.1, wd.2.1, wd.2.2.1, wd.2.2.2, (workP wd σ d).2.pl, (workP wd σ d).2.wo, (workP wd σ d).2.oil, (workP wd σ d).2.run, (workP wd σ d).2.min) := by
  have hr := hσ.run;have hm := hσ.min;rw [ev_p_round_walker_work, chk_of (in64_of (by omega)), chk_of (in64_of (by omega)), cond_if, workP]
  by_cases h1 : wd.2.2.2 < σ.run + d
  · rw [if_pos (decide_eq_true h1), if_pos h1]
  · rw [if_neg (by simpa using h1), if_neg h1, ev_round_walker_late, cond_if]
    by_cases h2 : wd.2.2.1 < σ.min + d
    · rw [if_pos (decide_eq_true h2), if_pos h2]; rfl
    · rw [if_neg (by simpa using h2), if_neg h2]; rfl
include h in
theorem home_ev {n : Nat} {σ : Wk} (hσ : OkW t σ) :
    ev_p_round_walker_home n t w g rest wage wd.1 wd.2.1 wd.2.2.1 wd.2.2.2 σ.pl σ.wo σ.oil σ.run σ.min = some ((homeP t w wd σ).1, t, w, g, rest, wage, wd.1, wd.2.1, wd.2.2.1, wd.2.2.2, (homeP t w wd σ).2.pl, (homeP t w wd σ).2.wo, (homeP t w wd σ).2.oil, (homeP t w wd σ).2.run, (homeP t w wd σ).2.min) := by
  obtain ⟨r, h1, h2, h3, h4⟩ := way_at h hσ.pl (b := t.length) (by omega);have hwk : ev_round_works n t w g rest wage = some (t.length : Int) := rfl;rw [ev_p_round_walker_home, idx_of hσ.pl.1 h1, bind_of hwk, idx_of (by omega) h2, bind_of (work_ev hσ ⟨h3, by omega⟩)]
  rfl
include h hw in
theorem step_ev {n : Nat} (hn : 1 < n) {σ : Wk} (hσ : OkW t σ) (s : Int) :
    ev_p_round_walker_step n t w g rest wage wd.1 wd.2.1 wd.2.2.1 wd.2.2.2 σ.pl σ.wo σ.oil σ.run σ.min s = some ((stepP t w rest wd σ s).1, t, w, g, rest, wage, wd.1, wd.2.1, wd.2.2.1, wd.2.2.2, (stepP t w rest wd σ s).2.pl, (stepP t w rest wd σ s).2.wo, (stepP t w rest wd σ s).2.oil, (stepP t w rest wd σ s).2.run, (stepP t w rest wd σ s).2.min) := by
  have ht := h.tn;have hrest := h.rest;have hm := hσ.min;have ho := hσ.oil;rw [ev_p_round_walker_step, cond_if, stepP]
  by_cases h1 : s = -1
  · have hl : ev_round_walker_late n t w g rest wage wd.1 wd.2.1 wd.2.2.1 wd.2.2.2 σ.pl σ.wo σ.oil 0 (σ.min + rest) = some (if wd.2.2.1 < σ.min + rest then 110 else 0) := by
      rw [ev_round_walker_late, cond_if]
      by_cases h2 : wd.2.2.1 < σ.min + rest
      · rw [if_pos (decide_eq_true h2), if_pos h2]
      · rw [if_neg (by simpa using h2), if_neg h2]
    rw [if_pos (by simpa using h1), if_pos h1, ev_p_round_walker_rest, chk_of (in64_of (by omega)), bind_of hl]
    rfl
  · rw [if_neg (by simpa using h1), if_neg h1, chk_of (in64_of (by omega))]
    by_cases h2 : 0 ≤ s ∧ s < t.length
    · obtain ⟨a1, a2, a3, a4⟩ := tow_at h h2;have hb : ev_round_within n 0 ((t.length : Int) - 1) ([s] : List Int) = some true := by
        rw [wi1_round hn]; simp; omega
      rw [if_pos h2, bind_of hb, cond_if, if_neg (by simp), ev_p_round_walker_visit, idx_of h2.1 a1, chk_of (in64_of (by omega)), bind_of (has_ev hσ.wo (by omega)), cond_if]
      by_cases h3 : hasP σ.wo s = true
      · rw [if_pos h3, if_pos h3]; rfl
      · rw [if_neg h3, if_neg h3, cond_if]
        by_cases h4 : bitK .u16 .andNot (towP t s).2.2.1 wd.1 ≠ 0
        · rw [if_pos (by simpa using h4), if_pos h4]; rfl
        · rw [if_neg (by simpa using h4), if_neg h4, cond_if]
          by_cases h5 : wd.2.1 < σ.oil + (towP t s).2.2.2.1
          · rw [if_pos (decide_eq_true h5), if_pos h5]; rfl
          · obtain ⟨r, b1, b2, b3, b4⟩ := way_at h hσ.pl (b := s) (by omega);obtain ⟨c1, c2, c3⟩ := with_ev (n := n) (i := s) hσ.wo (by omega);rw [if_neg (by simpa using h5), if_neg h5, idx_of hσ.pl.1 b1, idx_of h2.1 b2, bind_of c1, chk_of (in64_of (by omega)), chk_of (in64_of (by omega)),
              bind_of (work_ev (σ := { σ with pl := s, wo := withP σ.wo s, oil := σ.oil + (towP t s).2.2.2.1 }) ⟨by show 0 ≤ s ∧ s ≤ t.length; omega, ⟨c2, c3⟩, by show 0 ≤ σ.oil + (towP t s).2.2.2.1 ∧ σ.oil + (towP t s).2.2.2.1 ≤ 8000; have := (h.win wd hw).1; omega, hσ.run, hσ.min⟩ (d := wayP w σ.pl s + (towP t s).1 + (towP t s).2.1) (by omega))]
            rfl
    · have hb : ev_round_within n 0 ((t.length : Int) - 1) ([s] : List Int) = some false := by
        rw [wi1_round hn]; simp; omega
      rw [if_neg h2, bind_of hb, cond_if, if_pos (by simp)]
end
end Go.Proofs.Ytohjpfkcahlfkaa.Sy
