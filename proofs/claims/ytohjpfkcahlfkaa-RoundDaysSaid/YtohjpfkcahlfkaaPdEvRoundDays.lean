/- RoundDays: how long each tower goes yet, and which stops first, as the document says. -/
import Derived.Test.YtohjpfkcahlfkaaPdEvRoundJ
import Derived.Test.YtohjpfkcahlfkaaPdEvRoundX
import Derived.Test.YtohjpfkcahlfkaaPdEvRoundK
import Derived.Test.YtohjpfkcahlfkaaPdGRoundDays
set_option linter.unusedSimpArgs false
set_option linter.unusedVariables false
namespace Go.Proofs.Ytohjpfkcahlfkaa.Sy
open Go.RowKit
set_option maxRecDepth 100000
abbrev clkP (t : List Tw) (ds : List Dy) (e : Int) (j : Nat) : Int := (leftP t e ds (goesP t)).getD j 0
theorem stops_of {t : List Tw} {w : List (List Int)} {g : List Wd} {rest wage : Int} (h : OkR t w g rest wage) {ds : List Dy} (hd : OkDs t.length ds) {u : Int} : StopSpec t.length 0 u (clkP t ds) (stopsP t u ds (goesP t)) := by
  have ht := h.tn
  refine stops_spec (by omega) (fun j hj => goes_pos h hj) ds (goesP t) 0 (by rw [goesP, List.length_map]) (fun j hj => by have := goes_pos h hj; omega) hd.asc (fun d hdd => by have := hd.day d hdd; omega) hd.tow
theorem clk_last {t : List Tw} {ds : List Dy} (hd : OkDs t.length ds) {j : Nat} (hj : j < t.length) (e : Int) : clkP t ds e j = lastP e (j : Int) ds 0 + (goesP t).getD j 0 :=
  last_left hj ds (goesP t) 0 hd.asc hd.tow (by rw [goesP, List.length_map]) (by omega)
section
variable {t : List Tw} {w : List (List Int)} {g : List Wd} {rest wage : Int} {ds : List Dy}
theorem refStops_ev (h : OkR t w g rest wage) (hd : OkDs t.length ds) {u : Int} (hu : 0 ≤ u ∧ u ≤ 400) : ev_ref11_Stops 2200 t w g rest wage ds u = some (stopsP t u ds (goesP t)) := by
  have ht := h.tn
  have hsp := stops_of h hd (u := u)
  have one : ∀ (e : Int) (k0 : Int → Option (Int × Int)) (m j : Nat) (hj : j < t.length), 0 ≤ e → e ≤ 400 → ev_ref11_Stops_l1 2200 t ds e k0 (m + 1) (j : Int) = if clkP t ds e j = e then some ((j : Int), e) else ev_ref11_Stops_l1 2200 t ds e k0 m ((j + 1 : Nat) : Int) := fun e k0 m j hj h0 h1 => by
    have hr := last_range (q := e) (j := (j : Int)) ds 0 (by decide) (by decide) hd.day
    have hg := (h.tow _ (List.getElem_mem hj)).2.2.2
    have e1 : lastP e (j : Int) ds 0 + t[j].2.2.2.2 = clkP t ds e j := by rw [clk_last hd hj, goesP_at hj]
    rw [ev_ref11_Stops_l1, cond_if, if_pos (decide_eq_true (by omega)), bind_of (last_ev hd (by decide)), idx_nat (List.getElem?_eq_getElem hj), chk_of (in64_of (by omega)), cond_if, e1]
    by_cases hc : clkP t ds e j = e
    · rw [if_pos (by simpa using hc), if_pos hc]
    · rw [if_neg (by simpa using hc), if_neg hc, chk_of (in64_of (by omega))]; rfl
  have last : ∀ (e : Int) (k0 : Int → Option (Int × Int)) (m : Nat), 0 ≤ e → e ≤ 400 → ev_ref11_Stops_l1 2200 t ds e k0 (m + 1) (t.length : Int) = k0 (e + 1) := fun e k0 m h0 h1 => by
    rw [ev_ref11_Stops_l1, cond_if, if_neg (by simp), chk_of (in64_of (by omega))]
  have none : ∀ (e : Int) (k0 : Int → Option (Int × Int)), 0 ≤ e → e ≤ 400 → (∀ j, j < t.length → e < clkP t ds e j) → ∀ (k m j : Nat), j + k = t.length → k < m → ev_ref11_Stops_l1 2200 t ds e k0 m (j : Int) = k0 (e + 1) := fun e k0 h0 h1 hc k => by
    induction k with
    | zero =>
      intro m j hj hm
      obtain ⟨m, rfl⟩ : ∃ m', m = m' + 1 := ⟨m - 1, by omega⟩
      rw [show j = t.length by omega]; exact last e k0 m h0 h1
    | succ k ih =>
      intro m j hj hm
      obtain ⟨m, rfl⟩ : ∃ m', m = m' + 1 := ⟨m - 1, by omega⟩
      rw [one e k0 m j (by omega) h0 h1, if_neg (by have := hc j (by omega); omega)]
      exact ih m (j + 1) (by omega) (by omega)
  have found : ∀ (e : Int) (k0 : Int → Option (Int × Int)) (i : Nat), i < t.length → 0 ≤ e → e ≤ 400 → clkP t ds e i = e → (∀ j, j < i → e < clkP t ds e j) → ∀ (k m j : Nat), j + k = i → k < m → ev_ref11_Stops_l1 2200 t ds e k0 m (j : Int) = some ((i : Int), e) := fun e k0 i hi h0 h1 hie hlt k => by
    induction k with
    | zero =>
      intro m j hj hm
      obtain ⟨m, rfl⟩ : ∃ m', m = m' + 1 := ⟨m - 1, by omega⟩
      obtain rfl : j = i := by omega
      rw [one e k0 m j hi h0 h1, if_pos hie]
    | succ k ih =>
      intro m j hj hm
      obtain ⟨m, rfl⟩ : ∃ m', m = m' + 1 := ⟨m - 1, by omega⟩
      rw [one e k0 m j (by omega) h0 h1, if_neg (by have := hlt j (by omega); omega)]
      exact ih m (j + 1) (by omega) (by omega)
  have key : ∀ (k m : Nat) (e : Int), e + k = u + 1 → k < m → 1 ≤ e → (∀ e', 0 < e' → e' < e → ∀ j, j < t.length → e' < clkP t ds e' j) → ev_ref11_Stops_l0 2200 u t ds m e = some (stopsP t u ds (goesP t)) := by
    intro k
    induction k with
    | zero =>
      intro m e he hm h1 hpre
      obtain ⟨m, rfl⟩ : ∃ m', m = m' + 1 := ⟨m - 1, by omega⟩
      rw [ev_ref11_Stops_l0, cond_if, if_neg (by simp; omega)]
      rcases hsp with ⟨e1, _⟩ | ⟨i, k1, k2, k3, k4, k5, k6, k7⟩
      · rw [e1]
      · exfalso
        have := hpre _ k3 (by omega) i k1
        omega
    | succ k ih =>
      intro m e he hm h1 hpre
      obtain ⟨m, rfl⟩ : ∃ m', m = m' + 1 := ⟨m - 1, by omega⟩
      have hnone : (∀ j, j < t.length → e < clkP t ds e j) → ev_ref11_Stops_l1 2200 t ds e (fun i9q => ev_ref11_Stops_l0 2200 u t ds m i9q) 2200 0 = some (stopsP t u ds (goesP t)) := fun hc => by
        have := none e (fun i9q => ev_ref11_Stops_l0 2200 u t ds m i9q) (by omega) (by omega) hc t.length 2200 0 (by omega) (by omega)
        rw [show ((0 : Nat) : Int) = 0 from rfl] at this
        rw [this]
        exact ih m (e + 1) (by omega) (by omega) (by omega) fun e' h0 h2 j hj => by
          by_cases e3 : e' = e
          · subst e3; exact hc j hj
          · exact hpre e' h0 (by omega) j hj
      rw [ev_ref11_Stops_l0, cond_if, if_pos (decide_eq_true (by omega))]
      rcases hsp with ⟨e1, e2⟩ | ⟨i, k1, k2, k3, k4, k5, k6, k7⟩
      · exact hnone fun j hj => e2 e (by omega) (by omega) j hj
      · by_cases hlt : e < (stopsP t u ds (goesP t)).2
        · exact hnone fun j hj => k6 e (by omega) hlt j hj
        · have hee : e = (stopsP t u ds (goesP t)).2 := by
            by_cases hgt : (stopsP t u ds (goesP t)).2 < e
            · exfalso
              have := hpre _ k3 hgt i k1
              omega
            · omega
          have := found e (fun i9q => ev_ref11_Stops_l0 2200 u t ds m i9q) i k1 (by omega) (by omega) (by rw [hee]; exact k5) (fun j hj => by rw [hee]; exact k7 j hj) i 2200 0 (by omega) (by omega)
          rw [show ((0 : Nat) : Int) = 0 from rfl] at this
          rw [this]
          congr 1
          exact Prod.ext k2.symm hee
  rw [ev_ref11_Stops]
  exact key u.toNat 2200 1 (by omega) (by omega) (by decide) fun e' h0 h2 => by omega
def errP (t : List Tw) (w : List (List Int)) (g : List Wd) (rest wage : Int) (ds : List Dy) (q : Int) : Int :=
  if checkP t w g rest wage ≠ 0 then checkP t w g rest wage else if daysP t.length ds ≠ 0 then daysP t.length ds else if q < 0 ∨ 36524 < q then 3 else 0
theorem open_bad (ht : t.length ≤ 12) (hg : g.length ≤ 8) (hw : w.length ≤ 15) (hr : ∀ r ∈ w, r.length ≤ 15) (hs : ∀ d ∈ ds, d.2.length ≤ 100) (hl : ds.length ≤ 1000) (h64 : ∀ d ∈ ds, -9223372036854775808 ≤ d.1 ∧ d.1 ≤ 9223372036854775807) {q : Int} (he : errP t w g rest wage ds q ≠ 0) :
    ev_round_open 2200 t w g rest wage ds q = some ([], errP t w g rest wage ds q) := by
  have hc := check_any (n := 2200) (by decide) (t := t) (w := w) (g := g) (rest := rest) (wage := wage) (by omega) (by omega) (by omega) fun r h => by have := hr r h; omega
  unfold errP at he ⊢
  rw [ev_round_open, bind_of hc, cond_if]
  by_cases h1 : checkP t w g rest wage ≠ 0
  · rw [if_neg (by simpa using h1), if_pos h1, ev_round_open_j0, cond_if, if_neg (by simpa using h1), ev_round_open_j4, ev_round_open_j2, cond_if, if_pos (by simpa using h1)]
  · rw [if_neg h1] at he ⊢
    have h1' : checkP t w g rest wage = 0 := by omega
    have hok := checkP_ok h1'
    have ht8 := hok.tn
    rw [if_pos (by simp [h1']), bind_of (days_any (by decide) (by omega) hs hl h64)]
    by_cases h2 : daysP t.length ds ≠ 0
    · rw [if_pos h2, ev_round_open_j0, cond_if, if_neg (by simpa using h2), ev_round_open_j4, ev_round_open_j2, cond_if, if_pos (by simpa using h2)]
    · rw [if_neg h2] at he ⊢
      have h2' : daysP t.length ds = 0 := by omega
      have h3 : q < 0 ∨ 36524 < q := by
        by_cases h3 : q < 0 ∨ 36524 < q
        · exact h3
        · rw [if_neg h3] at he; exact absurd rfl he
      have hday : ev_round_isDay 2200 q = some false := by
        rw [ev_round_isDay, bind_of (wi1_round (by decide))]; simp; omega
      rw [if_pos h3, ev_round_open_j0, cond_if, if_pos (by simp [h2']), bind_of hday, cond_if, if_pos (by simp)]
      rfl
theorem errP_ok (hs : ∀ d ∈ ds, d.2.length ≤ 100) {q : Int} (he : errP t w g rest wage ds q = 0) : OkR t w g rest wage ∧ OkDs t.length ds ∧ 0 ≤ q ∧ q ≤ 36524 := by
  unfold errP at he
  split at he
  · contradiction
  · split at he
    · contradiction
    · split at he
      · cases he
      · rename_i h1 h2 h3
        exact ⟨checkP_ok (by omega), daysP_ok hs (by omega), by omega, by omega⟩
theorem dys12 (hs : ∀ d ∈ ds, d.2.length ≤ 12) (hl : ds.length ≤ 410) : ev_law11_days 2200 ds = some ds := days_ev (by omega) (by omega) fun d hdd => by have := hs d hdd; omega
theorem loop8 (h : OkR t w g rest wage) (hd : OkDs t.length ds) {q : Int} (hq : 0 ≤ q ∧ q ≤ 400) : ∀ (k m i : Nat), i + k = t.length → k < m →
    ev_law11_RoundDays_l8 2200 q ((leftP t q ds (goesP t)).map (fun x => x - q), 0) ((stopsP t q ds (goesP t)).1, (stopsP t q ds (goesP t)).2, 0) m (i : Int) ds rest wage ((leftP t q ds (goesP t)).map (fun x => x - q)) (((leftP t q ds (goesP t)).map (fun x => x - q)).take i) t w g = some true := by
  have ht := h.tn
  have hlen : (leftP t q ds (goesP t)).length = t.length := by rw [left_len, goesP, List.length_map]
  intro k
  induction k with
  | zero =>
    intro m i hi hm
    obtain ⟨m, rfl⟩ : ∃ m', m = m' + 1 := ⟨m - 1, by omega⟩
    rw [ev_law11_RoundDays_l8, cond_if, if_neg (by simp; omega), bind_of (refStops_ev h hd hq), cond_if, if_pos (by simp), cond_if, if_pos (by simp), List.take_of_length_le (by rw [List.length_map]; omega), bind_of (same_refl (by rw [List.length_map]; omega) (by rw [List.length_map]; omega)), cond_if, if_pos (by simp), cond_if, if_pos (by simp), cond_if, if_pos (by simp), bind_of known11]
  | succ k ih =>
    intro m i hi hm
    obtain ⟨m, rfl⟩ : ∃ m', m = m' + 1 := ⟨m - 1, by omega⟩
    have hlt : i < t.length := by omega
    have hr := last_range (q := q) (j := (i : Int)) ds 0 (by decide) (by decide) hd.day
    have hg := (h.tow _ (List.getElem_mem hlt)).2.2.2
    have hil : i < ((leftP t q ds (goesP t)).map (fun x => x - q)).length := by rw [List.length_map]; omega
    have e1 : lastP q (i : Int) ds 0 + t[i].2.2.2.2 - q = ((leftP t q ds (goesP t)).map (fun x => x - q))[i] := by
      have := clk_last hd hlt q
      rw [goesP_at hlt, clkP, getD_of (by omega)] at this
      rw [List.getElem_map, this]
    have hnext := ih m (i + 1) (by omega) (by omega)
    rw [List.take_succ_eq_append_getElem hil] at hnext
    rw [ev_law11_RoundDays_l8, cond_if, if_pos (decide_eq_true (by omega)), bind_of (last_ev hd (by decide)), idx_nat (List.getElem?_eq_getElem hlt), chk_of (in64_of (by omega)), chk_of (in64_of (by omega)), e1, chk_of (room_iff.2 (by rw [List.length_take]; simp; omega)), chk_of (in64_of (by omega))]
    exact hnext
theorem main_days (ht : t.length ≤ 12) (hg : g.length ≤ 8) (hw : w.length ≤ 15) (hr : ∀ r ∈ w, r.length ≤ 15) (hs : ∀ d ∈ ds, d.2.length ≤ 12) (hl : ds.length ≤ 410) (h64 : ∀ d ∈ ds, -9223372036854775808 ≤ d.1 ∧ d.1 ≤ 9223372036854775807) {q : Int} (hq : q ≤ 400 ∨ 36524 < q) :
    ev_law11_RoundDays_j0 2200 ds t w g rest wage q = some true := by
  have hs100 : ∀ d ∈ ds, d.2.length ≤ 100 := fun d hd => by have := hs d hd; omega
  have hcop : ev_law11_copied 2200 t w g rest wage = some (t, w, g, rest, wage) := copied_ev (by omega) (by omega) (fun d hd => by have := hr d hd; omega) (by omega) (by omega)
  -- what Left and Stops answer
  have hLS : ∃ L S, ev_round_Left 2200 t w g rest wage ds q = some L ∧ ev_round_Stops 2200 t w g rest wage ds q = some S ∧ ev_law11_RoundDays_j3 2200 q L S ds rest wage t w g (if checkP t w g rest wage = 0 then daysP t.length ds else checkP t w g rest wage) = some true := by
    by_cases he : errP t w g rest wage ds q = 0
    · obtain ⟨h1, h2, h3, h4⟩ := errP_ok hs100 he
      refine ⟨_, _, left_ev (by decide) h1 h2 ⟨h3, h4⟩, stops_ev (by decide) h1 h2 ⟨h3, h4⟩, ?_⟩
      have hzero : (if checkP t w g rest wage = 0 then daysP t.length ds else checkP t w g rest wage) = 0 := by
        unfold errP at he
        split at he
        · contradiction
        · split at he
          · contradiction
          · rw [if_pos (by omega)]; omega
      have ht1 := h1.tn
      have := loop8 h1 h2 (q := q) ⟨h3, by omega⟩ t.length 2200 0 (by omega) (by omega)
      rw [List.take_zero, show ((0 : Nat) : Int) = 0 from rfl] at this
      rw [hzero, ev_law11_RoundDays_j3, cond_if, if_pos (by simp), cond_if, if_neg (by simp; omega), cond_if, if_neg (by simp; omega), ev_law11_RoundDays_j6, ev_law11_RoundDays_j7, cond_if, if_neg (by simp)]
      exact this
    · have ho := open_bad ht hg hw hr hs100 (by omega) h64 he
      refine ⟨([], errP t w g rest wage ds q), (0, 0, errP t w g rest wage ds q), by rw [ev_round_Left, bind_of ho, cond_if, if_pos (by simpa using he)], by rw [ev_round_Stops, bind_of ho, cond_if, if_pos (by simpa using he)], ?_⟩
      have hj7 : ∀ e : Int, e ≠ 0 → e = errP t w g rest wage ds q → ev_law11_RoundDays_j7 2200 ([], errP t w g rest wage ds q) (0, 0, errP t w g rest wage ds q) q ds rest wage t w g e = some true := fun e h0 he2 => by
        subst he2
        rw [ev_law11_RoundDays_j7, cond_if, if_pos (by simpa using h0), cond_if, if_pos (by simp), cond_if, if_pos (by simp), cond_if, if_pos (by simp), cond_if, if_pos (by simp), cond_if, if_pos (by simp), bind_of known11]
      rw [ev_law11_RoundDays_j3]
      by_cases h1 : checkP t w g rest wage = 0
      · rw [if_pos h1]
        by_cases h2 : daysP t.length ds = 0
        · have h3 : q < 0 ∨ 36524 < q := by
            by_cases h3 : q < 0 ∨ 36524 < q
            · exact h3
            · unfold errP at he
              rw [if_neg (by omega), if_neg (by omega), if_neg h3] at he
              exact absurd rfl he
          have he3 : errP t w g rest wage ds q = 3 := by
            unfold errP
            rw [if_neg (by omega), if_neg (by omega), if_pos h3]
          have hj4 : ev_law11_RoundDays_j4 2200 ([], errP t w g rest wage ds q) (0, 0, errP t w g rest wage ds q) q ds rest wage t w g = some true := by
            rw [he3, ev_law11_RoundDays_j4, cond_if, if_pos (by simp), cond_if, if_pos (by simp), cond_if, if_pos (by simp), cond_if, if_pos (by simp), cond_if, if_pos (by simp), cond_if, if_pos (by simp), bind_of known11]
          rw [cond_if, if_pos (by simp [h2]), cond_if]
          by_cases h4 : q < 0
          · rw [if_pos (decide_eq_true h4)]; exact hj4
          · rw [if_neg (by simpa using h4), cond_if, if_pos (decide_eq_true (by omega))]; exact hj4
        · have he2 : daysP t.length ds = errP t w g rest wage ds q := by
            unfold errP
            rw [if_neg (by omega), if_pos h2]
          rw [cond_if, if_neg (by simpa using h2), ev_law11_RoundDays_j6]
          exact hj7 _ h2 he2
      · have he2 : checkP t w g rest wage = errP t w g rest wage ds q := by
          unfold errP
          rw [if_pos h1]
        rw [if_neg h1, cond_if, if_neg (by simpa using h1), ev_law11_RoundDays_j6]
        exact hj7 _ h1 he2
  obtain ⟨L, S, hL, hS, hend⟩ := hLS
  have hcr := refCheck_any (n := 2200) (by decide) (t := t) (w := w) (g := g) (rest := rest) (wage := wage) (by omega) (by omega) (by omega) fun r h => by have := hr r h; omega
  have l2 : ∀ (k m i : Nat), i + k = ds.length → k < m → ev_law11_RoundDays_l2 2200 ds ds t w g rest wage q L S m (i : Int) = some true := by
    intro k
    induction k with
    | zero =>
      intro m i hi hm
      obtain ⟨m, rfl⟩ : ∃ m', m = m' + 1 := ⟨m - 1, by omega⟩
      rw [ev_law11_RoundDays_l2, cond_if, if_neg (by simp; omega), bind_of hcr, cond_if]
      by_cases h1 : checkP t w g rest wage = 0
      · have ht8 := (checkP_ok h1).tn
        rw [if_pos h1] at hend
        rw [if_pos (by simp [h1]), bind_of (refDays_any (by decide) (by omega) hs100 (by omega))]
        exact hend
      · rw [if_neg h1] at hend
        rw [if_neg (by simpa using h1)]
        exact hend
    | succ k ih =>
      intro m i hi hm
      obtain ⟨m, rfl⟩ : ∃ m', m = m' + 1 := ⟨m - 1, by omega⟩
      have hlt : i < ds.length := by omega
      have hsi := hs _ (List.getElem_mem hlt)
      rw [ev_law11_RoundDays_l2, cond_if, if_pos (decide_eq_true (by omega)), idx_nat (List.getElem?_eq_getElem hlt), idx_nat (List.getElem?_eq_getElem hlt), cond_if, if_neg (by simp), bind_of (same_refl (by omega) (by omega)), cond_if, if_neg (by simp), chk_of (in64_of (by omega))]
      exact ih m (i + 1) (by omega) (by omega)
  have l1 : ∀ (k m i : Nat), i + k = ds.length → k < m → ev_law11_RoundDays_l1 2200 ds t w g rest wage q m (i : Int) = some true := by
    intro k
    induction k with
    | zero =>
      intro m i hi hm
      obtain ⟨m, rfl⟩ : ∃ m', m = m' + 1 := ⟨m - 1, by omega⟩
      rw [ev_law11_RoundDays_l1, cond_if, if_neg (by simp; omega), bind_of (dys12 hs hl), bind_of hcop, bind_of hL, bind_of hcop, bind_of hS]
      exact l2 ds.length 2200 0 (by omega) (by omega)
    | succ k ih =>
      intro m i hi hm
      obtain ⟨m, rfl⟩ : ∃ m', m = m' + 1 := ⟨m - 1, by omega⟩
      have hlt : i < ds.length := by omega
      have hsi := hs _ (List.getElem_mem hlt)
      rw [ev_law11_RoundDays_l1, cond_if, if_pos (decide_eq_true (by omega)), idx_nat (List.getElem?_eq_getElem hlt), cond_if, if_neg (by simp; omega), chk_of (in64_of (by omega))]
      exact ih m (i + 1) (by omega) (by omega)
  rw [ev_law11_RoundDays_j0]
  exact l1 ds.length 2200 0 (by omega) (by omega)
theorem many_days (hl : ds.length ≤ 410) : ∀ (k m i : Nat), i + k = ds.length → k < m → (∃ d ∈ ds.drop i, 12 < d.2.length) → ∀ q, ev_law11_RoundDays_l1 2200 ds t w g rest wage q m (i : Int) = some true := by
  intro k
  induction k with
  | zero =>
    intro m i hi hm ⟨d, hd, _⟩ q
    rw [List.drop_eq_nil_of_le (by omega)] at hd
    simp at hd
  | succ k ih =>
    intro m i hi hm ⟨d, hd, hd2⟩ q
    obtain ⟨m, rfl⟩ : ∃ m', m = m' + 1 := ⟨m - 1, by omega⟩
    have hlt : i < ds.length := by omega
    rw [ev_law11_RoundDays_l1, cond_if, if_pos (decide_eq_true (by omega)), idx_nat (List.getElem?_eq_getElem hlt), cond_if]
    by_cases hc : 12 < ds[i].2.length
    · rw [if_pos (decide_eq_true (by omega)), bind_of known11]
    · rw [List.drop_eq_getElem_cons hlt] at hd
      rw [if_neg (by simp; omega), chk_of (in64_of (by omega))]
      refine ih m (i + 1) (by omega) (by omega) ⟨d, ?_, hd2⟩ q
      rcases List.mem_cons.1 hd with rfl | hd
      · exact absurd hd2 hc
      · exact hd
end
theorem roundDays_evx {rr1 : List (Int × Int × Int × Int × Int)} {rr2 : List ((List Int))} {rr3 : List (Int × Int × Int × Int)} {rr4 : Int} {rr5 : Int} {l6 : List (Int × (List Int))} {day7 : Int} (h0 : (rr1.length ≤ maxLen ∧ ∀ el46 ∈ rr1, (Lit.int .i64 el46.1).wf = true ∧ (Lit.int .i64 el46.2.1).wf = true ∧ (Lit.int .u16 el46.2.2.1).wf = true ∧ (Lit.int .i64 el46.2.2.2.1).wf = true ∧ (Lit.int .i64 el46.2.2.2.2).wf = true) ∧ (rr2.length ≤ maxLen ∧ ∀ el30 ∈ rr2, ((el30).length ≤ maxLen ∧ ∀ el3 ∈ el30, (Lit.int .i64 el3).wf = true)) ∧ (rr3.length ≤ maxLen ∧ ∀ el76 ∈ rr3, (Lit.int .u16 el76.1).wf = true ∧ (Lit.int .i64 el76.2.1).wf = true ∧ (Lit.int .i64 el76.2.2.1).wf = true ∧ (Lit.int .i64 el76.2.2.2).wf = true) ∧ (Lit.int .i64 rr4).wf = true ∧ (Lit.int .i64 rr5).wf = true) (h1 : (l6.length ≤ maxLen ∧ ∀ el32 ∈ l6, (Lit.int .i64 el32.1).wf = true ∧ ((el32.2).length ≤ maxLen ∧ ∀ el3 ∈ el32.2, (Lit.int .i64 el3).wf = true))) (h2 : (Lit.int .i64 day7).wf = true) :
    ∃ n, ev_law11_RoundDays n rr1 rr2 rr3 rr4 rr5 l6 day7 = some true := by
  refine ⟨2200, ?_⟩
  have hk : ((ev_law11_known 2200).bind fun r => some r) = some true := by rw [bind_of known11]
  obtain ⟨b, hb, hbf⟩ := large_ev (n := 2200) (by decide) (t := rr1) (w := rr2) (g := rr3) (rest := rr4) (wage := rr5)
  have hj0 : b = false → l6.length ≤ 410 → (day7 ≤ 400 ∨ 36524 < day7) → ev_law11_RoundDays_j0 2200 l6 rr1 rr2 rr3 rr4 rr5 day7 = some true := fun hbb hl hq => by
    obtain ⟨a1, a2, a3, a4⟩ := hbf hbb
    by_cases hs : ∃ d ∈ l6, 12 < d.2.length
    · rw [ev_law11_RoundDays_j0]
      exact many_days hl l6.length 2200 0 (by omega) (by omega) (by simpa using hs) day7
    · refine main_days a1 a2 a3 a4 (fun d hd => ?_) hl (fun d hd => wf64_iff.1 (h1.2 d hd).1) hq
      by_cases hc : d.2.length ≤ 12
      · exact hc
      · exact absurd ⟨d, hd, by omega⟩ hs
  rw [ev_law11_RoundDays, bind_of hb]
  cases b
  · simp only [cond_if, Bool.false_eq_true, if_false, decide_eq_true_eq]
    split
    · split
      · exact hk
      · split
        · exact hk
        · split
          · split
            · exact hk
            · exact hj0 rfl (by omega) (by omega)
          · exact hj0 rfl (by omega) (by omega)
    · split
      · exact hk
      · split
        · split
          · exact hk
          · exact hj0 rfl (by omega) (by omega)
        · exact hj0 rfl (by omega) (by omega)
  · exact hk
end Go.Proofs.Ytohjpfkcahlfkaa.Sy
