/- Rounds: Stops finds the first day on which a clock goes out, and the first tower of that day. -/
import Derived.Test.YtohjpfkcahlfkaaPdEvRoundF
set_option linter.unusedSimpArgs false
set_option linter.unusedVariables false
namespace Go.Proofs.Ytohjpfkcahlfkaa.Sy
open Go.RowKit
set_option maxRecDepth 100000
def StopSpec (n : Nat) (p u : Int) (F : Int → Nat → Int) (s : Int × Int) : Prop :=
  (s = (-1, 0) ∧ ∀ e, p < e → e ≤ u → ∀ j, j < n → e < F e j) ∨
  (∃ i : Nat, i < n ∧ s.1 = (i : Int) ∧ p < s.2 ∧ s.2 ≤ u ∧ F s.2 i = s.2 ∧ (∀ e, p < e → e < s.2 → ∀ j, j < n → e < F e j) ∧ ∀ j, j < i → s.2 < F s.2 j)
theorem getD_of {c : List Int} {j : Nat} (h : j < c.length) : c.getD j 0 = c[j] := by
  rw [List.getD_eq_getElem?_getD, List.getElem?_eq_getElem h]; rfl
theorem first_spec {c : List Int} (h : c ≠ []) : ∃ i : Nat, i < c.length ∧ firstP c = ((i : Int), minP c) ∧ c.getD i 0 = minP c ∧ (∀ j, j < i → minP c < c.getD j 0) ∧ ∀ j, j < c.length → minP c ≤ c.getD j 0 := by
  have hex : ∃ x ∈ c, (x == minP c) = true := ⟨_, minP_mem h, by simp⟩
  have hfl : c.findIdx (· == minP c) < c.length := List.findIdx_lt_length_of_exists hex
  have hle : ∀ j, j < c.length → minP c ≤ c.getD j 0 := fun j hj => by
    rw [getD_of hj]; exact minP_le _ (List.getElem_mem hj)
  refine ⟨_, hfl, rfl, ?_, fun j hj => ?_, hle⟩
  · have hv : (c[c.findIdx (· == minP c)] == minP c) = true := List.findIdx_getElem (w := hfl)
    rw [getD_of hfl]; simpa using hv
  · have hv : ¬ (c[j] == minP c) = true := by simpa using List.not_of_lt_findIdx (p := (· == minP c)) (xs := c) (i := j) hj
    have h2 := hle j (by omega)
    rw [getD_of (by omega)] at h2 ⊢
    have : c[j] ≠ minP c := by simpa using hv
    omega
theorem fin_spec {c : List Int} (h : c ≠ []) {p u : Int} {F : Int → Nat → Int} (hp : ∀ j, j < c.length → p < c.getD j 0) (hF : ∀ e, p < e → e ≤ u → e ≤ minP c → ∀ j, j < c.length → F e j = c.getD j 0) : StopSpec c.length p u F (finP u c) := by
  obtain ⟨i, hi, he, hm, hlt, hle⟩ := first_spec h
  rw [finP, he]
  split
  · rename_i hu
    have hu : u < minP c := hu
    exact .inl ⟨rfl, fun e h1 h2 j hj => by rw [hF e h1 h2 (by omega) j hj]; have := hle j hj; omega⟩
  · rename_i hu
    have hu : ¬ u < minP c := hu
    have h0 := hp i hi
    refine .inr ⟨i, hi, rfl, by show p < minP c; omega, by show minP c ≤ u; omega, ?_, fun e h1 h2 j hj => ?_, fun j hj => ?_⟩
    · show F (minP c) i = minP c
      rw [hF _ (by omega) (by omega) (by omega) i hi, hm]
    · have h2 : e < minP c := h2
      rw [hF e h1 (by omega) (by omega) j hj]; have := hle j hj; omega
    · show minP c < F (minP c) j
      rw [hF _ (by omega) (by omega) (by omega) j (by omega)]; exact hlt j hj
theorem wind_at {t : List Tw} {d : Int} : ∀ (l c : List Int), (∀ x ∈ l, 0 ≤ x ∧ x < t.length) → c.length = t.length → ∀ j, j < t.length → (windP t d l c).getD j 0 = if (j : Int) ∈ l then d + (goesP t).getD j 0 else c.getD j 0
  | [], c, _, _, j, _ => by rw [windP, if_neg (by simp)]
  | x :: l, c, hl, hc, j, hj => by
    have hx := hl x (by simp)
    rw [windP, wind_at l _ (fun y hy => hl y (by simp [hy])) (by rw [List.length_set]; exact hc) j hj]
    by_cases hjl : (j : Int) ∈ l
    · rw [if_pos hjl, if_pos (by simp [hjl])]
    · rw [if_neg hjl, List.getD_eq_getElem?_getD, List.getElem?_set]
      by_cases e : x.toNat = j
      · rw [if_pos e, if_pos (by omega), if_pos (by rw [List.mem_cons]; left; omega), e]; rfl
      · rw [if_neg e, if_neg (fun hm => (List.mem_cons.1 hm).elim (fun h => by omega) hjl), List.getD_eq_getElem?_getD]
theorem left_len {t : List Tw} {q : Int} : ∀ (ds : List Dy) (c : List Int), (leftP t q ds c).length = c.length
  | [], c => rfl
  | d :: l, c => by
    rw [leftP]
    split
    · rw [left_len l, windP_len]
    · rw [left_len l]
theorem left_none {t : List Tw} {q : Int} : ∀ (ds : List Dy) (c : List Int), (∀ d ∈ ds, q < d.1) → leftP t q ds c = c
  | [], c, _ => rfl
  | d :: l, c, h => by
    have := h d (by simp)
    rw [leftP, if_neg (by omega), left_none l c fun x hx => h x (by simp [hx])]
theorem goes_pos {t : List Tw} {w : List (List Int)} {g : List Wd} {rest wage : Int} (h : OkR t w g rest wage) {j : Nat} (hj : j < t.length) : 1 ≤ (goesP t).getD j 0 := by
  rw [goesP_at hj]; exact (h.tow _ (List.getElem_mem hj)).2.2.2.1
theorem stops_spec {t : List Tw} (ht : 0 < t.length) (hg : ∀ j, j < t.length → 1 ≤ (goesP t).getD j 0) {u : Int} : ∀ (ds : List Dy) (c : List Int) (p : Int), c.length = t.length → (∀ j, j < t.length → p < c.getD j 0) → ds.Pairwise (fun a b => a.1 < b.1) → (∀ d ∈ ds, p < d.1) → (∀ d ∈ ds, ∀ x ∈ d.2, 0 ≤ x ∧ x < t.length) →
    StopSpec t.length p u (fun e j => (leftP t e ds c).getD j 0) (stopsP t u ds c)
  | [], c, p, hc, hp, _, _, _ => by
    rw [stopsP, ← hc]
    exact fin_spec (by intro e; simp [e] at hc; omega) (by rw [hc]; exact hp) fun e _ _ _ j _ => rfl
  | d :: l, c, p, hc, hp, hasc, hd, hx => by
    have hne : c ≠ [] := by intro e; simp [e] at hc; omega
    obtain ⟨i, hi, he, hm, hlt, hle⟩ := first_spec hne
    rw [List.pairwise_cons] at hasc
    have hpd := hd d (by simp)
    have hall : ∀ e, e < d.1 → leftP t e (d :: l) c = c := fun e h1 => left_none _ _ fun x hx => by
      rcases List.mem_cons.1 hx with rfl | hx
      · exact h1
      · have := hasc.1 x hx; omega
    rw [stopsP]
    split
    · rename_i h1
      rw [he] at h1
      have h1 : minP c < d.1 := h1
      rw [← hc]
      exact fin_spec hne (by rw [hc]; exact hp) fun e _ _ h3 j _ => by
        show (leftP t e (d :: l) c).getD j 0 = _
        rw [hall e (by omega)]
    · rename_i h1
      rw [he] at h1
      have h1 : ¬ minP c < d.1 := h1
      split
      · rename_i h2
        rw [← hc]
        exact fin_spec hne (by rw [hc]; exact hp) fun e _ h3 _ j _ => by
          show (leftP t e (d :: l) c).getD j 0 = _
          rw [hall e (by omega)]
      · rename_i h2
        have hwl : (windP t d.1 d.2 c).length = t.length := by rw [windP_len, hc]
        have hwne : windP t d.1 d.2 c ≠ [] := by intro e; simp [e] at hwl; omega
        have hwat := fun j hj => wind_at (t := t) (d := d.1) d.2 c (hx d (by simp)) hc j hj
        have hge : ∀ j, j < t.length → d.1 ≤ (windP t d.1 d.2 c).getD j 0 := fun j hj => by
          rw [hwat j hj]
          have := hle j (by omega)
          have := hg j hj
          split <;> omega
        have hF : ∀ e, d.1 ≤ e → leftP t e (d :: l) c = leftP t e l (windP t d.1 d.2 c) := fun e h3 => by rw [leftP, if_pos h3]
        have hFd : leftP t d.1 l (windP t d.1 d.2 c) = windP t d.1 d.2 c := left_none _ _ hasc.1
        split
        · rename_i h3
          obtain ⟨i2, hi2, he2, hm2, hlt2, hle2⟩ := first_spec hwne
          rw [he2] at h3 ⊢
          have h3 : minP (windP t d.1 d.2 c) ≤ d.1 := h3
          have h4 := hge i2 (by omega)
          have h5 : minP (windP t d.1 d.2 c) = d.1 := by omega
          rw [h5]
          refine .inr ⟨i2, by omega, rfl, hpd, by show d.1 ≤ u; omega, ?_, fun e h6 h7 j hj => ?_, fun j hj => ?_⟩
          · show (leftP t d.1 (d :: l) c).getD i2 0 = d.1
            rw [hF _ (by omega), hFd]; omega
          · show e < (leftP t e (d :: l) c).getD j 0
            have h7 : e < d.1 := h7
            rw [hall e h7]
            have := hle j (by omega)
            omega
          · show d.1 < (leftP t d.1 (d :: l) c).getD j 0
            rw [hF _ (by omega), hFd]
            have := hlt2 j hj
            omega
        · rename_i h3
          obtain ⟨i2, hi2, he2, hm2, hlt2, hle2⟩ := first_spec hwne
          rw [he2] at h3
          have h3 : ¬ minP (windP t d.1 d.2 c) ≤ d.1 := h3
          have ih := stops_spec ht hg l (windP t d.1 d.2 c) d.1 hwl (fun j hj => by have := hle2 j (by omega); omega) hasc.2 hasc.1 (fun d' hd' => hx d' (by simp [hd'])) (u := u)
          have hlow : ∀ e, p < e → e ≤ d.1 → ∀ j, j < t.length → e < (leftP t e (d :: l) c).getD j 0 := fun e h6 h7 j hj => by
            by_cases h8 : e < d.1
            · rw [hall e h8]
              have := hle j (by omega)
              omega
            · have h9 : e = d.1 := by omega
              rw [h9, hF _ (by omega), hFd]
              have := hle2 j (by omega)
              omega
          rcases ih with ⟨e1, e2⟩ | ⟨k, k1, k2, k3, k4, k5, k6, k7⟩
          · refine .inl ⟨e1, fun e h6 h7 j hj => ?_⟩
            by_cases h8 : e ≤ d.1
            · exact hlow e h6 h8 j hj
            · show e < (leftP t e (d :: l) c).getD j 0
              rw [hF _ (by omega)]
              exact e2 e (by omega) h7 j hj
          · refine .inr ⟨k, k1, k2, by omega, k4, ?_, fun e h6 h7 j hj => ?_, fun j hj => ?_⟩
            · show (leftP t _ (d :: l) c).getD k 0 = _
              rw [hF _ (by omega)]; exact k5
            · by_cases h8 : e ≤ d.1
              · exact hlow e h6 h8 j hj
              · show e < (leftP t e (d :: l) c).getD j 0
                rw [hF _ (by omega)]
                exact k6 e (by omega) h7 j hj
            · show _ < (leftP t _ (d :: l) c).getD j 0
              rw [hF _ (by omega)]; exact k7 j hj
end Go.Proofs.Ytohjpfkcahlfkaa.Sy
