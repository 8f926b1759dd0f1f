/- A day of a strike: what the law computes is true. -/
import Derived.Test.YtglgkcfgjaoabaaGStrikeDays
import Derived.Test.YtglgkcfgjaoabaaEvWheel
set_option linter.unusedSimpArgs false
set_option linter.unusedVariables false
namespace Go.Proofs.Ytglgkcfgjaoabaa.Sy
open Go.RowKit
set_option maxRecDepth 100000

theorem freeDay (h : Bool) : dayP h [] = 156 + 24 * (plN h / 24) := by cases h <;> decide +kernel
theorem blP_nil {h : Bool} {slot p : Int} : blP h [] slot p = atP h p := by unfold blP silP; rfl
theorem day_slot (h : Bool) (d k : Int) (hk : 0 ≤ k ∧ k < 2 * plN h) : (2 * plN h * d + k) % (2 * plN h) = k ∧ (2 * plN h * d + k) % plN h = k % plN h := by
  rcases plN_or h with e | e <;> rw [e] at hk ⊢ <;> omega
theorem strikeDays_evx {w1 : Bool} {w2 : Int} {w3 : Int} {day4 : Int} (h0 : True ∧ (Lit.int .u8 w2).wf = true ∧ (Lit.int .u8 w3).wf = true) (h1 : (Lit.int .u16 day4).wf = true) :
    ∃ n, ev_law05_StrikeDays n w1 w2 w3 day4 = some true := by
  have ha := wf8.1 h0.2.1
  have hb := wf8.1 h0.2.2
  have hd : 0 ≤ day4 ∧ day4 ≤ 65535 := by
    simpa only [Lit.wf, Bool.and_eq_true, decide_eq_true_eq, show IntKind.u16.min = 0 from rfl, show IntKind.u16.max = 65535 from rfl] using h1
  have hN := plNs w1
  have hNc := nN_cast w1
  have hl := quietP_len w1 w2 w3
  have hc := quietP_chk w1 (a := w2) (b := w3)
  have et : Int.tdiv (plN w1) 24 = plN w1 / 24 := Int.tdiv_eq_ediv_of_nonneg (by omega)
  have ed : Int.tmod day4 41666 = day4 % 41666 := Int.tmod_eq_emod_of_nonneg hd.1
  obtain ⟨d, hdd⟩ : ∃ d, day4 % 41666 = d := ⟨_, rfl⟩
  have hd2 : 0 ≤ d ∧ d ≤ 41665 := by omega
  have hm : 0 ≤ 2 * plN w1 * d ∧ 2 * plN w1 * d ≤ 1999920 := by rcases plN_or w1 with e | e <;> rw [e] <;> omega
  obtain ⟨q, hq⟩ : ∃ q, q = quietP w1 w2 w3 := ⟨_, rfl⟩
  have hr := ev_rules (n := 3100) (h := w1) ha hb
  rw [← hq] at hr hl hc
  have hD := ev_DayP (n := 3100) (by decide) (h := w1) (rack := false) (q := q) (by omega)
  rw [if_neg (by simp [hc])] at hD
  have hF := ev_DayP (n := 3100) (by decide) (h := w1) (rack := false) (q := []) (by simp)
  rw [if_neg (by simp [chkP_nil]), freeDay] at hF
  refine ⟨3100, ?_⟩
  have key : ∀ (k m i : Nat) (c : Int), i + k = 2 * nN w1 → k < m → 0 ≤ c → c ≤ 12 * (i : Int) → c + dayS w1 q k i = dayP w1 q → ev_law05_StrikeDays_l1 3100 (plN w1) day4 (w1, false, q) w1 w2 w3 (dayP w1 q, 0) m c (i : Int) = some true := by
    intro k
    induction k with
    | zero =>
      intro m i c hi hm2 h0 h1 hs
      cases m with
      | zero => omega
      | succ m =>
        simp only [dayS, Int.add_zero] at hs
        rw [ev_law05_StrikeDays_l1, chk_of (in64_of (by omega)), cond_if, if_neg (by simp only [decide_eq_true_eq]; omega), cond_if, if_pos (by simp [hs]), bind_of known_ev]
    | succ k ih =>
      intro m i c hi hm2 h0 h1 hs
      cases m with
      | zero => omega
      | succ m =>
        have he := emod_place w1 (i : Int)
        have hb1 := blP_range (h := w1) (q := q) (slot := (i : Int)) he
        have hat := atP_range he
        have e : ((i : Int) + 1) = ((i + 1 : Nat) : Int) := by omega
        have him : Int.tmod (i : Int) (plN w1) = (i : Int) % plN w1 := Int.tmod_eq_emod_of_nonneg (by omega)
        simp only [dayS] at hs
        obtain ⟨s1, s2⟩ := day_slot w1 d i ⟨by omega, by omega⟩
        obtain ⟨x, hx⟩ : ∃ x, x = blP w1 q (i : Int) ((i : Int) % plN w1) := ⟨_, rfl⟩
        obtain ⟨y, hy⟩ : ∃ y, y = atP w1 ((i : Int) % plN w1) := ⟨_, rfl⟩
        have hB := ev_BlowsP (n := 3100) (by decide) (h := w1) (rack := false) (q := q) (by omega) (2 * plN w1 * d + (i : Int))
        have hbx : blP w1 q (2 * plN w1 * d + (i : Int)) ((i : Int) % plN w1) = x := by
          rw [hx]; unfold blP silP
          rw [s1, Int.emod_eq_of_lt (b := 2 * plN w1) (show 0 ≤ (i : Int) by omega) (by omega)]
        rw [if_neg (by simp [hc]), if_pos (by omega), s2, hbx] at hB
        have hB2 := ev_BlowsP (n := 3100) (by decide) (h := w1) (rack := false) (q := []) (by simp) (2 * plN w1 * d + (i : Int))
        rw [if_neg (by simp [chkP_nil]), if_pos (by omega), s2, blP_nil, ← hy] at hB2
        have hS := ev_silent (n := 3100) (h := w1) (slot := (i : Int)) ha hb (by omega)
        rw [← hq] at hS
        rw [← hx] at hs hb1
        rw [← hy] at hat
        have cont : chk (in64 (c + x)) (chk (in64 ((i : Int) + 1)) (ev_law05_StrikeDays_l1 3100 (plN w1) day4 (w1, false, q) w1 w2 w3 (dayP w1 q, 0) m (c + x) ((i : Int) + 1))) = some true := by
          rw [chk_of (in64_of (by omega)), chk_of (in64_of (by omega)), e]
          refine ih m (i + 1) (c + x) (by omega) (by omega) (by omega) (by omega) ?_
          rw [← hs, e, Int.add_assoc]
        have rest : cond (decide ((0 : Int) < (i : Int))) (chk (plN w1 != 0) <| cond (decide ((0 : Int) < (Int.tmod (i : Int) (plN w1)))) (cond (!w1) (chk (plN w1 != 0) <| cond (y != (Int.tmod (i : Int) (plN w1))) (some false) (chk (in64 (c + x)) (chk (in64 ((i : Int) + 1)) (ev_law05_StrikeDays_l1 3100 (plN w1) day4 (w1, false, q) w1 w2 w3 (dayP w1 q, 0) m (c + x) ((i : Int) + 1)))))
            (chk (in64 (c + x)) (chk (in64 ((i : Int) + 1)) (ev_law05_StrikeDays_l1 3100 (plN w1) day4 (w1, false, q) w1 w2 w3 (dayP w1 q, 0) m (c + x) ((i : Int) + 1))))) (chk (in64 (c + x)) (chk (in64 ((i : Int) + 1)) (ev_law05_StrikeDays_l1 3100 (plN w1) day4 (w1, false, q) w1 w2 w3 (dayP w1 q, 0) m (c + x) ((i : Int) + 1)))))
            (chk (in64 (c + x)) (chk (in64 ((i : Int) + 1)) (ev_law05_StrikeDays_l1 3100 (plN w1) day4 (w1, false, q) w1 w2 w3 (dayP w1 q, 0) m (c + x) ((i : Int) + 1)))) = some true := by
          rw [cont, cond_if]
          split
          · rw [chk_of (by simp; omega), cond_if]
            split
            · rename_i hpos
              have hpos := of_decide_eq_true hpos
              rw [him] at hpos
              rw [cond_if]
              split
              · rename_i hw
                have hw : w1 = false := by simpa using hw
                have hyy : y = (i : Int) % plN w1 := by rw [hy]; unfold atP; rw [hw]; simp; rw [hw] at hpos; omega
                rw [chk_of (by simp; omega), cond_if, if_neg (by rw [him, ← hyy]; simp)]
              · rfl
            · rfl
          · rfl
        rw [ev_law05_StrikeDays_l1, chk_of (in64_of (by omega)), cond_if, if_pos (by simp only [decide_eq_true_eq]; omega), chk_of (in64_of (by omega)), chk_of (in64_of (by omega)), ed, hdd, chk_of (in64_of (by omega)), chk_of (in64_of (by omega)), bind_of (ev_copied (by simp only; omega))]
        simp only
        rw [bind_of hB, bind_of hB2, cond_if, if_neg (by simp), cond_if, if_neg (by simp), cond_if, if_neg (by simp only [decide_eq_true_eq]; omega), cond_if, if_neg (by simp only [decide_eq_true_eq]; omega), bind_of hS]
        simp only
        cases hsv : silP q (plN w1) (i : Int) with
        | true =>
          have hx0 : x = 0 := by rw [hx]; unfold blP; rw [hsv]; rfl
          rw [hsv] at hS
          rw [cond_true, cond_if, if_neg (by simp [hx0]), bind_of hS]
          exact rest
        | false =>
          have hxy : x = y := by rw [hx, hy]; unfold blP; rw [hsv]; rfl
          rw [hsv] at hS
          rw [cond_false, bind_of hS, Bool.not_false, cond_true, cond_if, if_neg (by simp [hxy])]
          exact rest
  rw [ev_law05_StrikeDays, bind_of ev_wplaces, bind_of hr]
  simp only
  rw [bind_of hD, bind_of hF, cond_if, if_neg (by simp), cond_if, if_neg (by simp), et, chk_of (in64_of (by omega)), chk_of (in64_of (by omega)), chk_of (in64_of (by omega)), cond_if, if_neg (by simp), ev_law05_StrikeDays_j0]
  exact key (2 * nN w1) 3100 0 0 (by omega) (by omega) (by omega) (by omega) (by rw [Int.zero_add]; rfl)
end Go.Proofs.Ytglgkcfgjaoabaa.Sy
