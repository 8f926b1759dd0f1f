/- Rounds: Left and Stops. -/
import Derived.Test.YtohjpfkcahlfkaaPdEvRoundE
set_option linter.unusedSimpArgs false
set_option linter.unusedVariables false
namespace Go.Proofs.Ytohjpfkcahlfkaa.Sy
open Go.RowKit
set_option maxRecDepth 100000
def OkC (t : List Tw) (c : List Int) : Prop := c.length = t.length ∧ ∀ x ∈ c, 0 ≤ x ∧ x ≤ 36554
theorem goes_ok {t : List Tw} {w : List (List Int)} {g : List Wd} {rest wage : Int} (h : OkR t w g rest wage) : OkC t (goesP t) := by
  refine ⟨by rw [goesP, List.length_map], fun x hx => ?_⟩
  obtain ⟨y, hy, rfl⟩ := List.mem_map.1 hx
  have := (h.tow y hy).2.2.2
  omega
theorem wind_ok {t : List Tw} {w : List (List Int)} {g : List Wd} {rest wage : Int} (h : OkR t w g rest wage) {d : Int} (hd : 0 ≤ d ∧ d ≤ 36524) : ∀ (l : List Int) (c : List Int), (∀ x ∈ l, 0 ≤ x ∧ x < t.length) → OkC t c → OkC t (windP t d l c)
  | [], c, _, hc => hc
  | x :: l, c, hl, hc => by
    have hx := hl x (by simp)
    have hxl : x.toNat < t.length := by omega
    rw [windP]
    refine wind_ok h hd l _ (fun y hy => hl y (by simp [hy])) ⟨by rw [List.length_set]; exact hc.1, fun y hy => ?_⟩
    rcases List.mem_or_eq_of_mem_set hy with hy | rfl
    · exact hc.2 y hy
    · rw [goesP_at hxl]
      have := (h.tow _ (List.getElem_mem hxl)).2.2.2
      omega
def leftP (t : List Tw) (q : Int) : List Dy → List Int → List Int
  | [], c => c
  | d :: l, c => if d.1 ≤ q then leftP t q l (windP t d.1 d.2 c) else leftP t q l c
theorem left_ev {n : Nat} (hn : 2000 < n) {t : List Tw} {w : List (List Int)} {g : List Wd} {rest wage : Int} (h : OkR t w g rest wage) {ds : List Dy} (hd : OkDs t.length ds) {q : Int} (hq : 0 ≤ q ∧ q ≤ 36524) :
    ev_round_Left n t w g rest wage ds q = some ((leftP t q ds (goesP t)).map (fun x => x - q), 0) := by
  have hl := hd.len
  have ht := h.tn
  have l1 : ∀ c : List Int, OkC t c → ev_round_Left_l1 n c q n 0 c = some (c.map (fun x => x - q), 0) := by
    intro c hc
    have hcl := hc.1
    have key : ∀ (k m i : Nat), i + k = c.length → k < m → ev_round_Left_l1 n c q m (i : Int) ((c.take i).map (fun x => x - q) ++ c.drop i) = some (c.map (fun x => x - q), 0) := by
      intro k
      induction k with
      | zero =>
        intro m i hi hm
        obtain ⟨m, rfl⟩ : ∃ m', m = m' + 1 := ⟨m - 1, by omega⟩
        rw [ev_round_Left_l1, cond_if, if_neg (by simp; omega), List.take_of_length_le (by omega), List.drop_eq_nil_of_le (by omega), List.append_nil]
      | succ k ih =>
        intro m i hi hm
        obtain ⟨m, rfl⟩ : ∃ m', m = m' + 1 := ⟨m - 1, by omega⟩
        have hlt : i < c.length := by omega
        have hx := hc.2 _ (List.getElem_mem hlt)
        have hlen : ((c.take i).map (fun x => x - q)).length = i := by rw [List.length_map, List.length_take]; omega
        have hg : ((c.take i).map (fun x => x - q) ++ c.drop i)[i]? = some c[i] := by
          rw [List.getElem?_append_right (by omega), hlen, Nat.sub_self, List.drop_eq_getElem_cons hlt]; rfl
        rw [ev_round_Left_l1, cond_if, if_pos (decide_eq_true (by omega)), idx_nat hg, chk_of (in64_of (by omega)), chk_of (in64_of (by omega))]
        have := ih m (i + 1) (by omega) (by omega)
        rw [← this]
        congr 1
        rw [show ((i : Int)).toNat = i by omega, List.set_append_right _ _ (by omega), hlen, Nat.sub_self, List.drop_eq_getElem_cons hlt, List.set_cons_zero, List.take_succ_eq_append_getElem hlt, List.map_append, List.append_assoc]
        rfl
    have := key c.length n 0 (by omega) (by omega)
    simpa using this
  have key : ∀ (k m i : Nat) (c : List Int), i + k = ds.length → k < m → OkC t c → ev_round_Left_l0 n ds q m (i : Int) rest wage c ds t w g = some ((leftP t q (ds.drop i) c).map (fun x => x - q), 0) := by
    intro k
    induction k with
    | zero =>
      intro m i c hi hm hc
      obtain ⟨m, rfl⟩ : ∃ m', m = m' + 1 := ⟨m - 1, by omega⟩
      rw [ev_round_Left_l0, cond_if, if_neg (by simp; omega), List.drop_eq_nil_of_le (by omega), leftP]
      exact l1 c hc
    | succ k ih =>
      intro m i c hi hm hc
      obtain ⟨m, rfl⟩ : ∃ m', m = m' + 1 := ⟨m - 1, by omega⟩
      have hlt : i < ds.length := by omega
      have hm2 := List.getElem_mem hlt
      have hday := hd.day _ hm2
      have hs := hd.short _ hm2
      rw [ev_round_Left_l0, cond_if, if_pos (decide_eq_true (by omega)), idx_nat (List.getElem?_eq_getElem hlt), List.drop_eq_getElem_cons hlt, leftP, cond_if]
      by_cases hcq : ds[i].1 ≤ q
      · rw [if_pos (decide_eq_true hcq), if_pos hcq, bind_of (wind_ev h (by omega) (hd.tow _ hm2) (by omega) (by omega) hc.1), chk_of (in64_of (by omega))]
        exact ih m (i + 1) _ (by omega) (by omega) (wind_ok h (by omega) _ _ (hd.tow _ hm2) hc)
      · rw [if_neg (by simpa using hcq), if_neg hcq, chk_of (in64_of (by omega))]
        exact ih m (i + 1) _ (by omega) (by omega) hc
  rw [ev_round_Left, bind_of (open_ev hn h hd hq), cond_if, if_neg (by simp)]
  exact key ds.length n 0 _ (by omega) (by omega) (goes_ok h)
def finP (u : Int) (c : List Int) : Int × Int := if u < (firstP c).2 then (-1, 0) else firstP c
def stopsP (t : List Tw) (u : Int) : List Dy → List Int → Int × Int
  | [], c => finP u c
  | d :: l, c => if (firstP c).2 < d.1 then finP u c else if u < d.1 then finP u c else if (firstP (windP t d.1 d.2 c)).2 ≤ d.1 then firstP (windP t d.1 d.2 c) else stopsP t u l (windP t d.1 d.2 c)
theorem stops_ev {n : Nat} (hn : 2000 < n) {t : List Tw} {w : List (List Int)} {g : List Wd} {rest wage : Int} (h : OkR t w g rest wage) {ds : List Dy} (hd : OkDs t.length ds) {u : Int} (hu : 0 ≤ u ∧ u ≤ 36524) :
    ev_round_Stops n t w g rest wage ds u = some ((stopsP t u ds (goesP t)).1, (stopsP t u ds (goesP t)).2, 0) := by
  have hl := hd.len
  have ht := h.tn
  have hf : ∀ c : List Int, OkC t c → ev_round_clocks_first n c = some (firstP c) := fun c hc => first_ev (by
    intro e
    have := hc.1
    rw [e] at this
    simp at this
    omega) (by rw [hc.1]; omega) (by rw [hc.1]; omega)
  have j1 : ∀ c : List Int, OkC t c → ev_round_Stops_j1 n u c = some ((finP u c).1, (finP u c).2, 0) := fun c hc => by
    rw [ev_round_Stops_j1, bind_of (hf c hc), cond_if, finP]
    by_cases hc2 : u < (firstP c).2
    · rw [if_pos (decide_eq_true hc2), if_pos hc2]
    · rw [if_neg (by simpa using hc2), if_neg hc2]
  have key : ∀ (k m i : Nat) (c : List Int), i + k = ds.length → k < m → OkC t c → ev_round_Stops_l0 n ds u m (i : Int) rest wage c ds t w g = some ((stopsP t u (ds.drop i) c).1, (stopsP t u (ds.drop i) c).2, 0) := by
    intro k
    induction k with
    | zero =>
      intro m i c hi hm hc
      obtain ⟨m, rfl⟩ : ∃ m', m = m' + 1 := ⟨m - 1, by omega⟩
      rw [ev_round_Stops_l0, cond_if, if_neg (by simp; omega), List.drop_eq_nil_of_le (by omega), stopsP]
      exact j1 c hc
    | succ k ih =>
      intro m i c hi hm hc
      obtain ⟨m, rfl⟩ : ∃ m', m = m' + 1 := ⟨m - 1, by omega⟩
      have hlt : i < ds.length := by omega
      have hm2 := List.getElem_mem hlt
      have hday := hd.day _ hm2
      have hs := hd.short _ hm2
      have hok := wind_ok h (d := ds[i].1) (by omega) _ c (hd.tow _ hm2) hc
      rw [ev_round_Stops_l0, cond_if, if_pos (decide_eq_true (by omega)), idx_nat (List.getElem?_eq_getElem hlt), bind_of (hf c hc), List.drop_eq_getElem_cons hlt, stopsP, cond_if]
      by_cases h1 : (firstP c).2 < ds[i].1
      · rw [if_pos (decide_eq_true h1), if_pos h1]; exact j1 c hc
      · rw [if_neg (by simpa using h1), if_neg h1, cond_if]
        by_cases h2 : u < ds[i].1
        · rw [if_pos (decide_eq_true h2), if_pos h2]; exact j1 c hc
        · rw [if_neg (by simpa using h2), if_neg h2, bind_of (wind_ev h (by omega) (hd.tow _ hm2) (by omega) (by omega) hc.1), bind_of (hf _ hok), cond_if]
          by_cases h3 : (firstP (windP t ds[i].1 ds[i].2 c)).2 ≤ ds[i].1
          · rw [if_pos (decide_eq_true h3), if_pos h3]
          · rw [if_neg (by simpa using h3), if_neg h3, chk_of (in64_of (by omega))]
            exact ih m (i + 1) _ (by omega) (by omega) hok
  rw [ev_round_Stops, bind_of (open_ev hn h hd hu), cond_if, if_neg (by simp)]
  exact key ds.length n 0 _ (by omega) (by omega) (goes_ok h)
end Go.Proofs.Ytohjpfkcahlfkaa.Sy
