/- The hands and the strike. -/
import Derived.Test.YtmgcinejodpopaaGTopBookStrike
import Derived.Test.YtmgcinejodpopaaEvHands
import Derived.Test.YtmgcinejodpopaaEvFree
set_option linter.unusedSimpArgs false
set_option linter.unusedVariables false
namespace Go.Proofs.Ytmgcinejodpopaa.Sy
open Go.RowKit
set_option maxRecDepth 100000

theorem pubStrike_s : ev_top_pubStrike 2200 = some true := by decide +kernel
theorem pubBook_s : ev_top_pubBook 2200 = some true := by decide +kernel
theorem check_s : ev_strike_Check 2200 false false [] = some 0 := by decide +kernel
theorem hour_s (x : Int) : (0 + (x * 3600 - 0) * (86400000 + 0)) % 3732480000000 / 86400 = 3600000 * (x % 12) := by omega
theorem holds_rep (k : Nat) : holdsP (List.replicate k ((0 : Int), true)) = k := by
  induction k with
  | zero => rfl
  | succ k ih => rw [List.replicate_succ, holdsP_cons, ih]; simp; omega
theorem topBookStrike_evx {hour1 : Int} {missed2 : Int} (h0 : (Lit.int .u16 hour1).wf = true) (h1 : (Lit.int .u8 missed2).wf = true) :
    ∃ n, ev_top_TopBookStrike n hour1 missed2 = some true := by
  refine ⟨2200, ?_⟩
  have hh : 0 ≤ hour1 ∧ hour1 ≤ 65535 := by
    simpa only [Lit.wf, Bool.and_eq_true, decide_eq_true_eq, show IntKind.u16.min = 0 from rfl, show IntKind.u16.max = 65535 from rfl] using h0
  have hm := wf8.1 h1
  have e1 : Int.tmod hour1 40000 = hour1 % 40000 := Int.tmod_eq_emod_of_nonneg hh.1
  have e2 : Int.tmod missed2 24 = missed2 % 24 := Int.tmod_eq_emod_of_nonneg hm.1
  obtain ⟨h, hhe⟩ : ∃ h, h = Int.tmod hour1 40000 + 24 := ⟨_, rfl⟩
  obtain ⟨k, hke⟩ : ∃ k : Nat, (k : Int) = Int.tmod missed2 24 := ⟨(Int.tmod missed2 24).toNat, by omega⟩
  have hb : 24 ≤ h ∧ h ≤ 40023 := by omega
  have kb : k ≤ 23 := by omega
  have H0 := ev_Hands (n := 2200) (l := []) ⟨by simp, .nil, by simp⟩ (t := h * 3600) (by omega) (by omega) (by decide)
  have b0 : bkP [] (h * 3600) = ((0 + (h * 3600 - 0) * (86400000 + 0)) % 3732480000000, 0, h * 3600, false) := rfl
  rw [b0] at H0
  dsimp only at H0
  rw [hour_s] at H0
  have x1 : okE ((h - k) * 3600, 3, 0) := ⟨⟨by simp only; omega, by simp only; omega⟩, .inr (.inr (.inl ⟨rfl, rfl⟩))⟩
  have H1 := ev_Hands (n := 2200) (l := [((h - k) * 3600, 3, 0)]) ⟨by simpa using x1, by simp, by simp⟩ (t := h * 3600) (by omega) (by omega) (by decide)
  have b1 : bkP [((h - k) * 3600, 3, 0)] (h * 3600) = ((0 + ((h - k) * 3600 - 0) * (86400000 + 0)) % 3732480000000, 0, h * 3600, true) := by
    unfold bkP runP
    rw [if_pos (by simp only; omega)]
    rfl
  rw [b1] at H1
  dsimp only at H1
  rw [hour_s] at H1
  have hBl : ev_strike_Blows 2200 false false [] h = some (atP false (h % 12), 0) := by
    have hop : ev_strike_open 2200 false false [] = some (false, false, [], 12, 0) := by decide +kernel
    have hsl : ev_strike_isSlot 2200 h = some true := by
      rw [ev_strike_isSlot, bind_of (wi1_strike (by decide))]; congr 1; simp; omega
    have et : Int.tmod h 12 = h % 12 := Int.tmod_eq_emod_of_nonneg (by omega)
    have hbl := ev_blows (n := 2200) (by decide) (h := false) (rack := false) (q := []) (by decide) (slot := h) (p := h % 12) (by omega) (by omega)
    have hpl : plN false = 12 := rfl
    rw [hpl] at hbl
    rw [ev_strike_Blows, bind_of hop, cond_if, if_neg (by decide), bind_of hsl, cond_if, if_neg (by decide), chk_of (by decide)]
    dsimp only
    rw [et, bind_of hbl]
    rfl
  have hat : atP false (h % 12) = if h % 12 = 0 then 12 else h % 12 := rfl
  rw [ev_top_TopBookStrike, chk_of (in64_of (by omega)), ← hhe, chk_of (in64_of (by omega)), chk_of (in64_of (by omega)), chk_of (in64_of (by omega)), bind_of H0, bind_of hBl]
  dsimp only
  have em : Int.tmod (3600000 * (h % 12)) 3600000 = 0 := Int.tmod_eq_zero_of_dvd (Int.dvd_mul_right _ _)
  have ed : Int.tdiv (3600000 * (h % 12)) 3600000 = h % 12 := by rw [Int.tdiv_eq_ediv_of_nonneg (by omega)]; omega
  rw [cond_if, if_neg (by decide), cond_if, if_neg (by decide), cond_if, if_neg (by decide), em, cond_if, if_neg (by decide), ev_top_TopBookStrike_j0]
  dsimp only
  rw [ed, chk_of (in64_of (by omega))]
  have j1 : ev_top_TopBookStrike_j1 2200 hour1 missed2 = some true := by
    rw [ev_top_TopBookStrike_j1, ← hhe, ← hke, chk_of (in64_of (by omega)), chk_of (in64_of (by omega))]
    have key : ∀ (d m i : Nat), i + d = k → d < m → ev_top_TopBookStrike_l2 2200 missed2 hour1 m (i : Int) [((h - k) * 3600, 3, 0)] (List.replicate i (0, true)) = some true := by
      intro d
      induction d with
      | zero =>
        intro m i hi hm2
        obtain ⟨m, rfl⟩ : ∃ m', m = m' + 1 := ⟨m - 1, by omega⟩
        have hik : i = k := by omega
        subst hik
        have hp : Int.tmod (h - i) 12 = (h - i) % 12 := Int.tmod_eq_emod_of_nonneg (by omega)
        have hpl : plN false = 12 := rfl
        have hP := ev_Play (n := 2200) (by decide) (h := false) (rack := false) (q := []) (by decide) check_s (slot := h - i) (p := (h - i) % 12) (by omega) (by rw [hpl]; omega) (fun e => by cases e) (plan := List.replicate i (0, true)) (by rw [List.length_replicate]; omega)
        rw [zero_play _ _ _ _ (fun s hs => by rw [List.eq_of_mem_replicate hs]) (by rw [hpl]; omega), hpl, List.length_replicate] at hP
        have hh2 : heldP false (List.replicate i ((0 : Int), true)) = i := holds_rep i
        rw [hh2] at hP
        have e5 : ((h - i) % 12 + ((i : Int) - i)) % 12 = (h - i) % 12 := by omega
        rw [e5] at hP
        rw [ev_top_TopBookStrike_l2, ← hhe, ← hke, cond_if, if_neg (by simp), chk_of (in64_of (by omega)), bind_of H1, chk_of (in64_of (by omega)), chk_of (in64_of (by omega)), hp, bind_of hP]
        dsimp only
        rw [cond_if, if_pos (by decide), cond_if, if_pos (by decide), cond_if, if_pos (by decide), cond_if, if_pos (by decide), chk_of (in64_of (by omega)), cond_if, if_pos (by simp), bind_of pubStrike_s, cond_if, if_pos rfl, bind_of pubBook_s]
      | succ d ih =>
        intro m i hi hm2
        obtain ⟨m, rfl⟩ : ∃ m', m = m' + 1 := ⟨m - 1, by omega⟩
        rw [ev_top_TopBookStrike_l2, ← hke, cond_if, if_pos (decide_eq_true (by omega)), chk_of (room_iff.2 (by simp; omega)), chk_of (in64_of (by omega)), ← List.replicate_succ']
        exact ih m (i + 1) (by omega) (by omega)
    exact key k 2200 0 (by omega) (by omega)
  rw [cond_if]
  by_cases h12 : h % 12 = 0
  · rw [if_pos (by rw [hat, if_pos h12, h12]; decide), cond_if, if_pos (by rw [h12]; rfl), cond_if, if_neg (by rw [hat, if_pos h12]; decide)]
    exact j1
  · rw [if_neg (by rw [hat, if_neg h12]; simp)]
    exact j1
end Go.Proofs.Ytmgcinejodpopaa.Sy
