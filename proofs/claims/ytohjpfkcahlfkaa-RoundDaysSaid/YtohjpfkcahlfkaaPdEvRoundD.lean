/- Rounds: the clocks of the towers, day by day. -/
import Derived.Test.YtohjpfkcahlfkaaPdEvRoundC
import Derived.Test.YtohjpfkcahlfkaaPdGRound
set_option linter.unusedSimpArgs false
set_option linter.unusedVariables false
namespace Go.Proofs.Ytohjpfkcahlfkaa.Sy
open Go.RowKit
set_option maxRecDepth 100000
def goesP (t : List Tw) : List Int := t.map fun x => x.2.2.2.2
def windP (t : List Tw) (d : Int) : List Int → List Int → List Int
  | [], c => c
  | x :: l, c => windP t d l (c.set x.toNat (d + (goesP t).getD x.toNat 0))
theorem goesP_at {t : List Tw} {i : Nat} (h : i < t.length) : (goesP t).getD i 0 = t[i].2.2.2.2 := by
  rw [goesP, List.getD_eq_getElem?_getD, List.getElem?_map, List.getElem?_eq_getElem h]; rfl
theorem windP_len (t : List Tw) (d : Int) : ∀ (l c : List Int), (windP t d l c).length = c.length
  | [], c => rfl
  | x :: l, c => by rw [windP, windP_len t d l, List.length_set]
theorem wind_ev {n : Nat} {t : List Tw} {w : List (List Int)} {g : List Wd} {rest wage d : Int} (h : OkR t w g rest wage) (hd : 0 ≤ d ∧ d ≤ 40000) {l : List Int} (hl : ∀ x ∈ l, 0 ≤ x ∧ x < t.length) (hn : l.length < n) (hl2 : l.length ≤ 1000000) {c : List Int} (hc : c.length = t.length) :
    ev_round_clocks_wind n c t w g rest wage d l = some (windP t d l c) := by
  have key : ∀ (k m i : Nat) (c : List Int), i + k = l.length → k < m → c.length = t.length → ev_round_clocks_wind_l0 n l m (i : Int) c rest wage d l t w g = some (windP t d (l.drop i) c) := by
    intro k
    induction k with
    | zero =>
      intro m i c hi hm hc
      obtain ⟨m, rfl⟩ : ∃ m', m = m' + 1 := ⟨m - 1, by omega⟩
      rw [ev_round_clocks_wind_l0, cond_if, if_neg (by simp; omega), List.drop_eq_nil_of_le (by omega), windP]
    | succ k ih =>
      intro m i c hi hm hc
      obtain ⟨m, rfl⟩ : ∃ m', m = m' + 1 := ⟨m - 1, by omega⟩
      have hlt : i < l.length := by omega
      have hx := hl _ (List.getElem_mem hlt)
      have hxl : l[i].toNat < t.length := by omega
      have hg := (h.tow _ (List.getElem_mem hxl)).2.2.2
      rw [ev_round_clocks_wind_l0, cond_if, if_pos (decide_eq_true (by omega)), idx_nat (List.getElem?_eq_getElem hlt), idx_of hx.1 (List.getElem?_eq_getElem hxl), chk_of (in64_of (by omega)), idx_of (x := c[l[i].toNat]'(by omega)) hx.1 (List.getElem?_eq_getElem (by omega)), chk_of (in64_of (by omega)), List.drop_eq_getElem_cons hlt, windP, goesP_at hxl]
      exact ih m (i + 1) _ (by omega) (by omega) (by rw [List.length_set]; exact hc)
  rw [ev_round_clocks_wind]
  exact key l.length n 0 c (by omega) hn hc
def minP (c : List Int) : Int := match c with
  | [] => 0
  | x :: l => l.foldl min x
def firstP (c : List Int) : Int × Int := ((c.findIdx (· == minP c) : Nat), minP c)
theorem foldl_min_mem : ∀ (l : List Int) (x : Int), l.foldl min x = x ∨ l.foldl min x ∈ l
  | [], x => .inl rfl
  | y :: l, x => by
    rw [List.foldl_cons]
    rcases foldl_min_mem l (min x y) with h | h
    · rw [h]
      rcases Int.le_total x y with h2 | h2
      · exact .inl (Int.min_eq_left h2)
      · rw [Int.min_eq_right h2]; exact .inr (by simp)
    · exact .inr (by simp [h])
theorem minP_mem {c : List Int} (h : c ≠ []) : minP c ∈ c := by
  cases c with
  | nil => exact absurd rfl h
  | cons x l =>
    rcases foldl_min_mem l x with e | e
    · rw [minP, e]; simp
    · rw [minP]; simp [e]
theorem foldl_min_le : ∀ (l : List Int) (x : Int), l.foldl min x ≤ x ∧ ∀ y ∈ l, l.foldl min x ≤ y
  | [], x => ⟨Int.le_refl _, by simp⟩
  | y :: l, x => by
    rw [List.foldl_cons]
    obtain ⟨h1, h2⟩ := foldl_min_le l (min x y)
    refine ⟨by omega, fun z hz => ?_⟩
    rcases List.mem_cons.1 hz with rfl | hz
    · omega
    · exact h2 z hz
theorem minP_le {c : List Int} : ∀ y ∈ c, minP c ≤ y := by
  cases c with
  | nil => simp
  | cons x l =>
    obtain ⟨h1, h2⟩ := foldl_min_le l x
    intro y hy
    rcases List.mem_cons.1 hy with rfl | hy
    · exact h1
    · exact h2 y hy
theorem first_ev {n : Nat} {c : List Int} (hc : c ≠ []) (hn : c.length < n) (hl : c.length ≤ 1000000) : ev_round_clocks_first n c = some (firstP c) := by
  have hpos : 0 < c.length := List.length_pos_iff.2 hc
  have kmin : ∀ (k m i : Nat) (a : Int), i + k = c.length → k < m → ev_slices_Min_round_clocks_int_l1 n c m a (i : Int) = some ((c.drop i).foldl min a) := by
    intro k
    induction k with
    | zero =>
      intro m i a hi hm
      obtain ⟨m, rfl⟩ : ∃ m', m = m' + 1 := ⟨m - 1, by omega⟩
      rw [ev_slices_Min_round_clocks_int_l1, cond_if, if_neg (by simp; omega), List.drop_eq_nil_of_le (by omega)]; rfl
    | succ k ih =>
      intro m i a hi hm
      obtain ⟨m, rfl⟩ : ∃ m', m = m' + 1 := ⟨m - 1, by omega⟩
      have hlt : i < c.length := by omega
      rw [ev_slices_Min_round_clocks_int_l1, cond_if, if_pos (decide_eq_true (by omega)), idx_nat (List.getElem?_eq_getElem hlt), chk_of (in64_of (by omega)), List.drop_eq_getElem_cons hlt, List.foldl_cons]
      exact ih m (i + 1) _ (by omega) (by omega)
  have hmin : ev_slices_Min_round_clocks_int n c = some (minP c) := by
    have := kmin (c.length - 1) n 1 c[0] (by omega) (by omega)
    rw [ev_slices_Min_round_clocks_int, cond_if, if_neg (by simp; omega), ev_slices_Min_round_clocks_int_j0, idx_of (x := c[0]) (by decide) (List.getElem?_eq_getElem hpos)]
    rw [show ((1 : Nat) : Int) = 1 from rfl] at this
    rw [this]
    cases c with
    | nil => exact absurd rfl hc
    | cons x l => rfl
  have hex : ∃ x ∈ c, (x == minP c) = true := ⟨_, minP_mem hc, by simp⟩
  have hfl : c.findIdx (· == minP c) < c.length := List.findIdx_lt_length_of_exists hex
  have kidx : ∀ (k m i : Nat), i + k = c.findIdx (· == minP c) → k < m → ev_slices_Index_round_clocks_int_l0 n c (minP c) m (i : Int) = some ((c.findIdx (· == minP c) : Nat) : Int) := by
    intro k
    induction k with
    | zero =>
      intro m i hi hm
      obtain ⟨m, rfl⟩ : ∃ m', m = m' + 1 := ⟨m - 1, by omega⟩
      have hi : i = c.findIdx (· == minP c) := by omega
      have hlt : i < c.length := by omega
      have hv : (c[c.findIdx (· == minP c)] == minP c) = true := List.findIdx_getElem (w := hfl)
      have hv2 : (minP c == c[i]) = true := by
        subst hi
        simp only [beq_iff_eq] at hv ⊢
        exact hv.symm
      rw [ev_slices_Index_round_clocks_int_l0, cond_if, if_pos (decide_eq_true (by omega)), idx_nat (List.getElem?_eq_getElem hlt), cond_if, if_pos hv2, ← hi]
    | succ k ih =>
      intro m i hi hm
      obtain ⟨m, rfl⟩ : ∃ m', m = m' + 1 := ⟨m - 1, by omega⟩
      have hlt : i < c.length := by omega
      have hv : ¬ (c[i] == minP c) = true := by simpa using List.not_of_lt_findIdx (p := (· == minP c)) (xs := c) (i := i) (by omega)
      have hv2 : ¬ (minP c == c[i]) = true := by
        simp only [beq_iff_eq] at hv ⊢
        exact fun e => hv e.symm
      rw [ev_slices_Index_round_clocks_int_l0, cond_if, if_pos (decide_eq_true (by omega)), idx_nat (List.getElem?_eq_getElem hlt), cond_if, if_neg hv2, chk_of (in64_of (by omega))]
      exact ih m (i + 1) (by omega) (by omega)
  rw [ev_round_clocks_first, bind_of hmin, ev_slices_Index_round_clocks_int]
  have := kidx (c.findIdx (· == minP c)) n 0 (by omega) (by omega)
  rw [show ((0 : Nat) : Int) = 0 from rfl] at this
  rw [bind_of this]
  rfl
end Go.Proofs.Ytohjpfkcahlfkaa.Sy
