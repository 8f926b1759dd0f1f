/- In time: what the law computes is true. -/
import Derived.Test.YtglgkcfgjaoabaaGStrikeTimes
import Derived.Test.YtglgkcfgjaoabaaEvWheel
set_option linter.unusedSimpArgs false
set_option linter.unusedVariables false
namespace Go.Proofs.Ytglgkcfgjaoabaa.Sy
open Go.RowKit
set_option maxRecDepth 100000

theorem strikeTimes_evx {w1 : Bool} {w2 : Int} {w3 : Int} {at_4 : Int} {at_5 : Int} {at_6 : Int} {at_7 : Int} (h0 : True ∧ (Lit.int .u8 w2).wf = true ∧ (Lit.int .u8 w3).wf = true) (h1 : (Lit.int .u8 at_4).wf = true ∧ (Lit.int .u8 at_5).wf = true ∧ (Lit.int .u8 at_6).wf = true ∧ (Lit.int .u8 at_7).wf = true) :
    ∃ n, ev_law05_StrikeTimes n w1 w2 w3 at_4 at_5 at_6 at_7 = some true := by
  have ha := wf8.1 h0.2.1
  have hb := wf8.1 h0.2.2
  simp only [wf8] at h1
  obtain ⟨r4, r5, r6, r7⟩ := h1
  have hN := plNs w1
  have hl := quietP_len w1 w2 w3
  have hc := quietP_chk w1 (a := w2) (b := w3)
  have e5 : Int.tmod at_5 (plN w1) = at_5 % plN w1 := Int.tmod_eq_emod_of_nonneg r5.1
  have e4 : Int.tmod at_4 (plN w1) = at_4 % plN w1 := Int.tmod_eq_emod_of_nonneg r4.1
  have e6 : Int.tmod at_6 21 = at_6 % 21 := Int.tmod_eq_emod_of_nonneg r6.1
  have e7 : Int.tmod at_7 20 = at_7 % 20 := Int.tmod_eq_emod_of_nonneg r7.1
  obtain ⟨j, hj⟩ : ∃ j : Nat, (j : Int) = at_6 % 21 := ⟨(at_6 % 21).toNat, by omega⟩
  obtain ⟨d, hd⟩ : ∃ d : Nat, (d : Int) = at_7 % 20 := ⟨(at_7 % 20).toNat, by omega⟩
  have hj2 : j ≤ 20 := by omega
  have hd2 : d ≤ 19 := by omega
  obtain ⟨q, hq⟩ : ∃ q, q = quietP w1 w2 w3 := ⟨_, rfl⟩
  have hr := ev_rules (n := 3100) (h := w1) ha hb
  rw [← hq] at hr hl hc
  have hck : ev_strike_Check 3100 w1 false q = some 0 := by rw [ev_CheckP (by decide) (by omega), hc]
  obtain ⟨p, hp⟩ : ∃ p, p = at_5 % plN w1 := ⟨_, rfl⟩
  have rp := emod_place w1 at_5
  rw [← hp] at rp
  have rs := emod_place w1 at_4
  have hB := fun (p : Int) (hp : 0 ≤ p ∧ p < plN w1) (k : Nat) (hk : k ≤ 96) => ev_Bring (n := 3100) (by decide) (h := w1) (rack := false) (q := q) (by omega) hck (slot := at_4) (p := p) (by omega) hp (fun h => by cases h) (k := k) hk
  have eA : at_4 + at_6 % 21 = at_4 + (j : Int) := by omega
  have eB : at_4 + (j : Int) + at_7 % 20 = at_4 + ((j + d : Nat) : Int) := by omega
  have eD : at_4 + ((j + d : Nat) : Int) - at_4 = ((j + d : Nat) : Int) := by omega
  have eu : at_4 + (j : Int) + (d : Int) = at_4 + ((j + d : Nat) : Int) := by omega
  -- what is left alone
  obtain ⟨cz, z1, z2, z3⟩ := best_right (h := w1) (rack := false) (q := q) (u := at_4 + ((j + d : Nat) : Int)) (p := at_4 % plN w1) (k := j + d) (by congr 1; omega)
  have hC := hB (at_4 % plN w1) rs (j + d) (by omega)
  rw [z1] at hC
  simp only [z2, z3] at hC
  have l1 : ev_law05_StrikeTimes_j0 3100 (List.replicate (j + d) (0, false), 0, 0) = some true := by
    have key : ∀ (k m i : Nat), i + k = j + d → k < m → ev_law05_StrikeTimes_l1 3100 (List.replicate (j + d) (0, false), 0, 0) m (i : Int) = some true := by
      intro k
      induction k with
      | zero =>
        intro m i hi hm
        cases m with
        | zero => omega
        | succ m => rw [ev_law05_StrikeTimes_l1, cond_if, if_neg (by simp only [List.length_replicate, decide_eq_true_eq]; omega), bind_of known_ev]
      | succ k ih =>
        intro m i hi hm
        cases m with
        | zero => omega
        | succ m =>
          rw [ev_law05_StrikeTimes_l1, cond_if, if_pos (by simp only [List.length_replicate, decide_eq_true_eq]; omega), idx_nat (x := ((0 : Int), false)) (by rw [List.getElem?_replicate, if_pos (by omega)]), cond_if, if_neg (by simp), chk_of (in64_of (by omega))]
          exact ih m (i + 1) (by omega) (by omega)
    rw [ev_law05_StrikeTimes_j0]
    exact key (j + d) 3100 0 (by omega) (by omega)
  -- the later end
  have tail : ∀ (r12 : (List (Int × Bool)) × Int × Int), (r12.2.2 = 0 ∨ r12.2.2 = 7 ∧ ((j + d : Nat) : Int) < plN w1) → (r12.2.2 = 0 → (r12.1.length : Int) = ((j + d : Nat) : Int)) → (plN w1 ≤ ((j + d : Nat) : Int) → r12.2.1 = 0) →
      (cond (decide (plN w1 ≤ ((j + d : Nat) : Int))) (cond (r12.2.2 != 0) (some false) (cond (r12.2.1 != 0) (some false) (cond ((0 : Int) != 0) (some false) (cond ((0 : Int) != 0) (some false) (chk (in64 ((j + d : Nat) : Int)) <| cond (((List.replicate (j + d) ((0 : Int), false)).length : Int) != ((j + d : Nat) : Int)) (some false) (cond (r12.2.2 == 0) (chk (in64 ((j + d : Nat) : Int)) <| cond ((r12.1.length : Int) != ((j + d : Nat) : Int)) (some false) (ev_law05_StrikeTimes_j0 3100 (List.replicate (j + d) (0, false), 0, 0))) (ev_law05_StrikeTimes_j0 3100 (List.replicate (j + d) (0, false), 0, 0))))))))
        (cond ((0 : Int) != 0) (some false) (cond ((0 : Int) != 0) (some false) (chk (in64 ((j + d : Nat) : Int)) <| cond (((List.replicate (j + d) ((0 : Int), false)).length : Int) != ((j + d : Nat) : Int)) (some false) (cond (r12.2.2 == 0) (chk (in64 ((j + d : Nat) : Int)) <| cond ((r12.1.length : Int) != ((j + d : Nat) : Int)) (some false) (ev_law05_StrikeTimes_j0 3100 (List.replicate (j + d) (0, false), 0, 0))) (ev_law05_StrikeTimes_j0 3100 (List.replicate (j + d) (0, false), 0, 0))))))) = some true := by
    intro r12 g1 g2 g3
    have t2 : (cond ((0 : Int) != 0) (some false) (cond ((0 : Int) != 0) (some false) (chk (in64 ((j + d : Nat) : Int)) <| cond (((List.replicate (j + d) ((0 : Int), false)).length : Int) != ((j + d : Nat) : Int)) (some false) (cond (r12.2.2 == 0) (chk (in64 ((j + d : Nat) : Int)) <| cond ((r12.1.length : Int) != ((j + d : Nat) : Int)) (some false) (ev_law05_StrikeTimes_j0 3100 (List.replicate (j + d) (0, false), 0, 0))) (ev_law05_StrikeTimes_j0 3100 (List.replicate (j + d) (0, false), 0, 0)))))) = some true := by
      rw [cond_if, if_neg (by simp), cond_if, if_neg (by simp), chk_of (in64_of (by omega)), cond_if, if_neg (by rw [List.length_replicate]; simp), cond_if]
      split
      · rename_i hz
        rw [chk_of (in64_of (by omega)), cond_if, if_neg (by rw [g2 (by simpa using hz)]; simp)]
        exact l1
      · exact l1
    rw [cond_if]
    split
    · rename_i hge
      have hge := of_decide_eq_true hge
      have hz : r12.2.2 = 0 := by omega
      rw [cond_if, if_neg (by simp [hz]), cond_if, if_neg (by simp [g3 hge])]
      exact t2
    · exact t2
  refine ⟨3100, ?_⟩
  rw [ev_law05_StrikeTimes, bind_of ev_wplaces, chk_of (in64_of (by omega)), chk_of (in64_of (by omega)), chk_of (by simp; omega), chk_of (in64_of (by omega)), e6, eA, chk_of (in64_of (by omega)), chk_of (in64_of (by omega)), chk_of (in64_of (by omega)), chk_of (in64_of (by omega)), e7, eB, chk_of (in64_of (by omega)), bind_of hr]
  simp only
  rw [e5, ← hp, bind_of (hB p rp j (by omega)), bind_of hr]
  simp only
  rw [bind_of (hB p rp (j + d) (by omega)), bind_of hr]
  simp only
  rw [chk_of (by simp; omega), e4, bind_of hC]
  simp only
  rw [eD]
  -- the best plans
  have hfree : plN w1 ≤ ((j + d : Nat) : Int) → ∃ b, bestP w1 false q (at_4 + ((j + d : Nat) : Int)) (j + d) p = some b ∧ b.1.1 = 0 := fun hge => best_free hge rp
  cases hb2 : bestP w1 false q (at_4 + ((j + d : Nat) : Int)) (j + d) p with
  | none =>
    have hlt : ((j + d : Nat) : Int) < plN w1 := by
      rcases Int.lt_or_le ((j + d : Nat) : Int) (plN w1) with h | h
      · exact h
      · obtain ⟨b, hb', _⟩ := hfree h
        rw [hb2] at hb'; cases hb'
    have hb1 : bestP w1 false q (at_4 + (j : Int)) j p = none := by
      cases hb1 : bestP w1 false q (at_4 + (j : Int)) j p with
      | none => rfl
      | some a =>
        obtain ⟨b, hb', _⟩ := best_more (d := d) rp hb1
        rw [eu, hb2] at hb'; cases hb'
    rw [hb1]
    simp only
    have t := tail ([], 0, 7) (.inr ⟨rfl, hlt⟩) (fun h => by simp at h) (fun _ => rfl)
    simp only at t
    rw [cond_if, if_neg (by decide)]
    first
      | (rw [cond_if, if_pos (by decide), cond_if, if_neg (by decide), chk_of (in64_of (by omega))]; exact t)
      | (rw [chk_of (in64_of (by omega))]; exact t)
  | some b =>
    obtain ⟨_, _, pl3⟩ := plan_plays (j + d) p b hb2
    simp only
    have t := tail (planP w1 false q (at_4 + ((j + d : Nat) : Int)) (j + d) p, b.1.1, 0) (.inl rfl) (fun _ => by simp only [pl3]) (fun hge => by
      obtain ⟨b', hb', hz⟩ := hfree hge
      rw [hb2] at hb'; cases hb'; exact hz)
    simp only at t
    cases hb1 : bestP w1 false q (at_4 + (j : Int)) j p with
    | none =>
      simp only
      rw [cond_if, if_neg (by decide)]
      first
        | (rw [cond_if, if_neg (by decide), chk_of (in64_of (by omega))]; exact t)
        | (rw [chk_of (in64_of (by omega))]; exact t)
    | some a =>
      obtain ⟨b', hb', hle⟩ := best_more (d := d) rp hb1
      rw [eu, hb2] at hb'
      cases hb'
      simp only
      rw [cond_if, if_pos (by decide), cond_if, if_neg (by decide), cond_if, if_neg (by simp only [decide_eq_true_eq]; omega)]
      first
        | (rw [cond_if, if_neg (by decide), chk_of (in64_of (by omega))]; exact t)
        | (rw [chk_of (in64_of (by omega))]; exact t)
end Go.Proofs.Ytglgkcfgjaoabaa.Sy
