/- RoundWalks: the error of any rules, and what any round takes, as the document says. -/
import Derived.Test.YtohjpfkcahlfkaaGreatPwEvRoundV
import Derived.Test.YtohjpfkcahlfkaaGreatPwEvRoundX
import Derived.Test.YtohjpfkcahlfkaaGreatPwEvRoundQ
import Derived.Test.YtohjpfkcahlfkaaGreatPwGRoundWalks
set_option linter.unusedSimpArgs false
set_option linter.unusedVariables false
namespace Go.Proofs.YtohjpfkcahlfkaaGreat.Sy
open Go.RowKit
set_option maxRecDepth 100000
theorem walkP_min {t : List Tw} {w : List (List Int)} {g : List Wd} {rest wage : Int} (h : OkR t w g rest wage) {wd : Wd} (hw : wd ∈ g) : ∀ (l : List Int) (i : Nat) (σ : Wk), OkW t σ → 0 ≤ (walkP t w rest wd i σ l).1 ∧ (walkP t w rest wd i σ l).1 ≤ 1440
  | [], i, σ, hσ => by
    rw [walkP]
    split
    · rename_i h0; exact (home_ok h hw hσ h0).2
    · exact ⟨by show (0 : Int) ≤ 0; decide, by show (0 : Int) ≤ 1440; decide⟩
  | s :: l, i, σ, hσ => by
    rw [walkP]
    split
    · rename_i h0; exact walkP_min h hw l _ _ (step_ok h hw hσ h0).1
    · exact ⟨by show (0 : Int) ≤ 0; decide, by show (0 : Int) ≤ 1440; decide⟩
theorem walkR_min {t : List Tw} {w : List (List Int)} {g : List Wd} {rest wage : Int} (h : OkR t w g rest wage) {x : Int} {l : List Int} : 0 ≤ (walkR t w g rest x l).1 ∧ (walkR t w g rest x l).1 ≤ 1440 := by
  unfold walkR
  split
  · exact ⟨by show (0 : Int) ≤ 0; decide, by show (0 : Int) ≤ 1440; decide⟩
  · rename_i wd hwd
    split
    · exact ⟨by show (0 : Int) ≤ 0; decide, by show (0 : Int) ≤ 1440; decide⟩
    · split
      · exact ⟨by show (0 : Int) ≤ 0; decide, by show (0 : Int) ≤ 1440; decide⟩
      · exact walkP_min h (List.mem_of_getElem? hwd) l 0 _ begin_ok
theorem end_j2 {W e at1 : Int} {wage : Int} (hw : 0 ≤ wage ∧ wage ≤ 1000 ∨ W = 0) (hW : 0 ≤ W ∧ W ≤ 1440) : ev_law11_RoundWalks_j2 2200 (W, W * wage, at1, e) wage e W at1 = some true := by
  rw [ev_law11_RoundWalks_j2, cond_if, if_pos (by simp), cond_if, if_pos (by simp), cond_if]
  by_cases h0 : W = 0
  · rw [if_pos (by simpa using h0), cond_if, if_pos (by simp [h0]), cond_if, if_pos (by simp), bind_of known11]
  · have hw' := hw.resolve_right h0
    have h1 : W * wage ≤ 1440 * 1000 := Int.mul_le_mul hW.2 hw'.2 hw'.1 (by decide)
    have h2 : 0 ≤ W * wage := Int.mul_nonneg hW.1 hw'.1
    rw [if_neg (by simpa using h0), cond_if, if_pos (decide_eq_true (by omega)), chk_of (in64_of (by omega)), cond_if, if_pos (by simp), cond_if, if_pos (by simp), bind_of known11]
theorem roundWalks_evx {rr1 : List (Int × Int × Int × Int × Int)} {rr2 : List ((List Int))} {rr3 : List (Int × Int × Int × Int)} {rr4 : Int} {rr5 : Int} {t6 : Int} {t7 : List Int} (h0 : (rr1.length ≤ maxLen ∧ ∀ el71 ∈ rr1, (Lit.int .i64 el71.1).wf = true ∧ (Lit.int .i64 el71.2.1).wf = true ∧ (Lit.int .u16 el71.2.2.1).wf = true ∧ (Lit.int .i64 el71.2.2.2.1).wf = true ∧ (Lit.int .i64 el71.2.2.2.2).wf = true) ∧ (rr2.length ≤ maxLen ∧ ∀ el27 ∈ rr2, ((el27).length ≤ maxLen ∧ ∀ el3 ∈ el27, (Lit.int .i64 el3).wf = true)) ∧ (rr3.length ≤ maxLen ∧ ∀ el50 ∈ rr3, (Lit.int .u16 el50.1).wf = true ∧ (Lit.int .i64 el50.2.1).wf = true ∧ (Lit.int .i64 el50.2.2.1).wf = true ∧ (Lit.int .i64 el50.2.2.2).wf = true) ∧ (Lit.int .i64 rr4).wf = true ∧ (Lit.int .i64 rr5).wf = true) (h1 : (Lit.int .i64 t6).wf = true ∧ (t7.length ≤ maxLen ∧ ∀ el3 ∈ t7, (Lit.int .i64 el3).wf = true)) :
    ∃ n, ev_law11_RoundWalks n rr1 rr2 rr3 rr4 rr5 t6 t7 = some true := by
  refine ⟨2200, ?_⟩
  obtain ⟨b, hb, hbf⟩ := large_ev (n := 2200) (by decide) (t := rr1) (w := rr2) (g := rr3) (rest := rr4) (wage := rr5)
  rw [ev_law11_RoundWalks, bind_of hb, cond_if]
  cases b
  · obtain ⟨a1, a2, a3, a4⟩ := hbf rfl
    rw [if_neg (by simp), cond_if]
    by_cases hl : 50 < t7.length
    · rw [if_pos (decide_eq_true (by omega)), bind_of known11]
    · have hcop : ev_law11_copied 2200 rr1 rr2 rr3 rr4 rr5 = some (rr1, rr2, rr3, rr4, rr5) := copied_ev (by omega) (by omega) (fun d hd => by have := a4 d hd; omega) (by omega) (by omega)
      have hc := check_any (n := 2200) (by decide) (t := rr1) (w := rr2) (g := rr3) (rest := rr4) (wage := rr5) (by omega) (by omega) (by omega) fun r h => by have := a4 r h; omega
      have hrc := refCheck_any (n := 2200) (by decide) (t := rr1) (w := rr2) (g := rr3) (rest := rr4) (wage := rr5) (by omega) (by omega) (by omega) fun r h => by have := a4 r h; omega
      have hsame := rules_same (n := 2200) (t := rr1) (w := rr2) (g := rr3) (rest := rr4) (wage := rr5) (by omega) (by omega) (by omega) fun r h => by have := a4 r h; omega
      rw [if_neg (by simp; omega), ev_law11_RoundWalks_j0, bind_of hcop, bind_of (ints_ev (by omega)), bind_of hc]
      by_cases hck : checkP rr1 rr2 rr3 rr4 rr5 = 0
      · have hok := checkP_ok hck
        rw [bind_of (walk_ev hok (by decide) (by omega)), bind_of hrc, bind_of hsame, cond_if, if_neg (by simp), bind_of (same_refl (by omega) (by omega)), cond_if, if_neg (by simp), cond_if, if_neg (by simp), ev_law11_RoundWalks_j1, cond_if, if_pos (by simpa using hck), bind_of (refWalk_ev hok (by decide) (by omega))]
        exact end_j2 (.inl hok.wage) (walkR_min hok)
      · have hwb : ev_round_Walk 2200 rr1 rr2 rr3 rr4 rr5 t6 t7 = some (0, 0, 0, checkP rr1 rr2 rr3 rr4 rr5) := by
          rw [ev_round_Walk, bind_of hc, cond_if, if_pos (by simpa using hck)]
        rw [bind_of hwb, bind_of hrc, bind_of hsame, cond_if, if_neg (by simp), bind_of (same_refl (by omega) (by omega)), cond_if, if_neg (by simp), cond_if, if_neg (by simp), ev_law11_RoundWalks_j1, cond_if, if_neg (by simpa using hck)]
        have := end_j2 (W := 0) (e := checkP rr1 rr2 rr3 rr4 rr5) (at1 := 0) (wage := rr5) (.inr rfl) (by decide)
        rw [Int.zero_mul] at this
        exact this
  · rw [if_pos rfl, bind_of known11]
end Go.Proofs.YtohjpfkcahlfkaaGreat.Sy
