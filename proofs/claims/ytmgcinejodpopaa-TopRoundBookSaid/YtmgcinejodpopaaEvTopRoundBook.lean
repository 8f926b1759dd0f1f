/- A clock that is not wound in time, in its book. -/
import Derived.Test.YtmgcinejodpopaaGTopRoundBook
import Derived.Test.YtmgcinejodpopaaSpRoundA
import Derived.Test.YtmgcinejodpopaaEvBook
set_option linter.unusedSimpArgs false
set_option linter.unusedVariables false
namespace Go.Proofs.Ytmgcinejodpopaa.Sy
open Go.RowKit
set_option maxRecDepth 100000

theorem pubRound_b : ev_top_pubRound 2200 = some true := by decide +kernel
theorem pubBook_b : ev_top_pubBook 2200 = some true := by decide +kernel
def twP (g : Int) : List (Int × Int × Int × Int × Int) := [(0, 0, 0, 0, g)]
def wyP : List (List Int) := [[0, 0], [0, 0]]
def wnP : List (Int × Int × Int × Int) := [(0, 0, 1440, 1440)]
def dyP (ds : List Int) : List (Int × List Int) := ds.map fun d => (d, [0])
theorem dyP_len (ds : List Int) : (dyP ds).length = ds.length := by rw [dyP, List.length_map]
theorem dyP_at {ds : List Int} {i : Nat} (h : i < ds.length) : (dyP ds)[i]? = some (ds[i], [0]) := by
  rw [dyP, List.getElem?_map, List.getElem?_eq_getElem h]; rfl
theorem going0 (g : Int) : ev_top_pubGoing 2200 [g] = some (twP g, wyP, wnP, 1, 0) := by
  have h : ∀ m, ev_top_pubGoing_l0 2200 (m + 1 + 1 + 1) 0 [g] ([] : List (Int × Int × Int × Int × Int)) ([] : List ((List Int))) ([] : List (Int × Int × Int × Int)) 0 0 ([] : List (Int × Int × Int × Int × Int)) ([] : List ((List Int))) 1 0 ([(0, 0, 1440, 1440)] : List (Int × Int × Int × Int)) = some (twP g, wyP, wnP, 1, 0) := fun m => by
    rw [ev_top_pubGoing_l0, cond_if, if_pos (by simp), chk_of (in64_of (by simp)), chk_of (by simp), chk_of (room_iff.2 (by simp)), chk_of (room_iff.2 (by simp)), cond_if, if_pos (by simp), idx_of (x := g) (by decide) rfl, chk_of (room_iff.2 (by simp)), chk_of (in64_of (by omega))]
    rw [ev_top_pubGoing_l0, cond_if, if_pos (by simp), chk_of (in64_of (by simp)), chk_of (by simp), chk_of (room_iff.2 (by simp)), chk_of (room_iff.2 (by simp)), cond_if, if_neg (by simp), chk_of (in64_of (by omega))]
    rw [ev_top_pubGoing_l0, cond_if, if_neg (by simp)]
    rfl
  rw [ev_top_pubGoing]
  exact h 2197
theorem going_all : ((List.range 30).all fun g => decide (ev_round_Check 2200 (twP (1 + g)) wyP wnP 1 0 = some 0)) = true := by decide +kernel
theorem going {g : Int} (hg : 1 ≤ g ∧ g ≤ 30) : ev_top_pubGoing 2200 [g] = some (twP g, wyP, wnP, 1, 0) ∧ ev_round_Check 2200 (twP g) wyP wnP 1 0 = some 0 := by
  obtain ⟨k, hk, rfl⟩ : ∃ k : Nat, k < 30 ∧ g = 1 + (k : Int) := ⟨(g - 1).toNat, by omega, by omega⟩
  have h := List.all_eq_true.1 going_all k (List.mem_range.2 hk)
  exact ⟨going0 _, of_decide_eq_true h⟩
structure OkD (ds : List Int) : Prop where
  asc : ds.Pairwise (fun a b => a < b)
  low : ∀ d ∈ ds, 1 ≤ d ∧ d ≤ 80
  len : ds.length ≤ 10
theorem OkD.after {ds : List Int} (h : OkD ds) {i : Nat} (hi : i < ds.length) : ∀ d ∈ ds.drop (i + 1), ds[i] < d := by
  have := h.asc.sublist (List.drop_sublist i ds)
  rw [List.drop_eq_getElem_cons hi, List.pairwise_cons] at this
  exact this.1
theorem wound {l : List Int} (hb : ∀ x ∈ l, 0 ≤ x ∧ x ≤ 255) : ∃ ds, OkD ds ∧ ev_top_pubWound 2200 l 10 80 = some (dyP ds) := by
  have key : ∀ (k m : Nat) (day : Int) (ds : List Int), ds.length + k = 10 → k < m → 0 ≤ day → day ≤ 80 → OkD ds → (∀ d ∈ ds, d ≤ day) →
      ∃ ds', OkD ds' ∧ ev_top_pubWound_l0 2200 10 80 m day (ds.length : Int) l (dyP ds) = some (dyP ds') := by
    intro k
    induction k with
    | zero =>
      intro m day ds hk hm h0 h1 hd hle
      obtain ⟨m, rfl⟩ : ∃ m', m = m' + 1 := ⟨m - 1, by omega⟩
      refine ⟨ds, hd, ?_⟩
      rw [ev_top_pubWound_l0, cond_if, cond_if, dyP_len]
      split
      · rw [if_neg (by simp; omega)]
      · rfl
    | succ k ih =>
      intro m day ds hk hm h0 h1 hd hle
      obtain ⟨m, rfl⟩ : ∃ m', m = m' + 1 := ⟨m - 1, by omega⟩
      rw [ev_top_pubWound_l0, cond_if, cond_if, dyP_len]
      split
      · rename_i hlt
        have hlt : ds.length < l.length := by simpa using hlt
        have hx := hb _ (List.getElem_mem hlt)
        have e : Int.tmod l[ds.length] 9 = l[ds.length] % 9 := Int.tmod_eq_emod_of_nonneg hx.1
        obtain ⟨y, hy⟩ : ∃ y, y = day + (1 + l[ds.length] % 9) := ⟨_, rfl⟩
        rw [if_pos (decide_eq_true (by omega)), ev_top_pubWound_j1, idx_nat (List.getElem?_eq_getElem hlt), chk_of (in64_of (by omega)), e, chk_of (in64_of (by omega)), ← hy, chk_of (in64_of (by omega)), cond_if]
        split
        · exact ⟨ds, hd, rfl⟩
        · rename_i hc
          have hc : ¬ (80 < y) := by simpa using hc
          rw [dyP_len, chk_of (room_iff.2 (by simp; omega)), chk_of (in64_of (by omega))]
          have := ih m y (ds ++ [y]) (by simp; omega) (by omega) (by omega) (by omega) ⟨by
            rw [List.pairwise_append]
            refine ⟨hd.asc, by simp, fun a ha b hb' => ?_⟩
            rw [List.mem_singleton] at hb'; have := hle a ha; omega, fun d hd' => by
            rcases List.mem_append.1 hd' with hd' | hd'
            · exact hd.low d hd'
            · rw [List.mem_singleton] at hd'; omega, by simp; omega⟩ (fun d hd' => by
            rcases List.mem_append.1 hd' with hd' | hd'
            · have := hle d hd'; omega
            · rw [List.mem_singleton] at hd'; omega)
          rw [show dyP (ds ++ [y]) = dyP ds ++ [(y, [0])] by simp [dyP], List.length_append] at this
          exact this
      · exact ⟨ds, hd, rfl⟩
  exact key 10 2200 0 [] (by decide) (by decide) (by decide) (by decide) ⟨by simp, by simp, by simp⟩ (by simp)
theorem vals0 : ev_slices_Values_Lint_int 2200 [0] = some [0] := by decide +kernel
theorem sorted0 : ev_slices_Sorted_int 2200 [0] = some [0] := by decide +kernel
theorem compact0 : ev_slices_Compact_Lint_int 2200 [0] = some [0] := by decide +kernel
theorem check_days {g : Int} {ds : List Int} (h : OkD ds) : ev_round_checkDays 2200 (twP g) wyP wnP 1 0 (dyP ds) = some 0 := by
  have hl := h.len
  have key : ∀ (k m i : Nat) (p : Int), i + k = ds.length → k < m → 0 ≤ p → p ≤ 80 → (∀ d ∈ ds.drop i, p < d) → ev_round_checkDays_l0 2200 (dyP ds) m p (i : Int) 1 0 (dyP ds) (twP g) wyP wnP = some 0 := by
    intro k
    induction k with
    | zero =>
      intro m i p hi hm h0 h1 hp
      obtain ⟨m, rfl⟩ : ∃ m', m = m' + 1 := ⟨m - 1, by omega⟩
      rw [ev_round_checkDays_l0, cond_if, dyP_len, if_neg (by simp; omega)]
    | succ k ih =>
      intro m i p hi hm h0 h1 hp
      obtain ⟨m, rfl⟩ : ∃ m', m = m' + 1 := ⟨m - 1, by omega⟩
      have hlt : i < ds.length := by omega
      have hd := h.low _ (List.getElem_mem hlt)
      have hpd := hp ds[i] (by rw [List.drop_eq_getElem_cons hlt]; exact List.Mem.head _)
      rw [ev_round_checkDays_l0, cond_if, dyP_len, if_pos (decide_eq_true (by omega)), idx_nat (dyP_at hlt), chk_of (in64_of (by omega)), bind_of (wi1_round (by decide)), cond_if, if_neg (by simp; omega), chk_of (in64_of (by simp [twP])), bind_of (wi1_round (by decide)), cond_if, if_neg (by simp [twP]), ev_round_checkDays_j1, bind_of vals0, bind_of sorted0, bind_of compact0, cond_if, if_neg (by simp), chk_of (in64_of (by omega))]
      exact ih m (i + 1) ds[i] (by omega) (by omega) (by omega) (by omega) (h.after hlt)
  rw [ev_round_checkDays, cond_if, dyP_len, if_neg (by simp; omega)]
  exact key ds.length 2200 0 0 (by omega) (by omega) (by decide) (by decide) (fun d hd => by have := h.low d (by simpa using hd); omega)
theorem isDay_ev {q : Int} (hq : 0 ≤ q ∧ q ≤ 80) : ev_round_isDay 2200 q = some true := by
  rw [ev_round_isDay, bind_of (wi1_round (by decide))]; simp; omega
theorem open_ev {g : Int} (hg : 1 ≤ g ∧ g ≤ 30) {ds : List Int} (h : OkD ds) {q : Int} (hq : 0 ≤ q ∧ q ≤ 80) : ev_round_open 2200 (twP g) wyP wnP 1 0 (dyP ds) q = some ([g], 0) := by
  rw [ev_round_open, bind_of (going hg).2, cond_if, if_pos (by rfl), bind_of (check_days h), ev_round_open_j0, cond_if, if_pos (by rfl), bind_of (isDay_ev hq), cond_if, if_neg (by simp), ev_round_open_j4, ev_round_open_j2, cond_if, if_neg (by simp)]
  rfl
theorem first_ev (c : Int) : ev_round_clocks_first 2200 [c] = some (0, c) := by
  have h1 : ev_slices_Min_round_clocks_int 2200 [c] = some c := rfl
  have h2 : ∀ m, ev_slices_Index_round_clocks_int_l0 2200 [c] c (m + 1) 0 = some 0 := fun m => by
    rw [ev_slices_Index_round_clocks_int_l0, cond_if, if_pos (by rfl), idx_of (x := c) (by decide) rfl, cond_if, if_pos (by simp)]
  rw [ev_round_clocks_first, bind_of h1, ev_slices_Index_round_clocks_int, bind_of (h2 2199)]
theorem wind_ev {g : Int} (hg : 1 ≤ g ∧ g ≤ 30) (c : Int) {d : Int} (hd : 1 ≤ d ∧ d ≤ 80) : ev_round_clocks_wind 2200 [c] (twP g) wyP wnP 1 0 d [0] = some [d + g] := by
  have h2 : ∀ m, ev_round_clocks_wind_l0 2200 [0] (m + 1 + 1) 0 [c] 1 0 d [0] (twP g) wyP wnP = some [d + g] := fun m => by
    rw [ev_round_clocks_wind_l0, cond_if, if_pos (by rfl), idx_of (x := 0) (by decide) rfl, idx_of (x := (0, 0, 0, 0, g)) (by decide) rfl, chk_of (in64_of (by simp only; omega)), idx_of (x := c) (by decide) rfl, chk_of (in64_of (by omega))]
    rw [ev_round_clocks_wind_l0, cond_if, if_neg (by simp)]
    rfl
  rw [ev_round_clocks_wind]
  exact h2 2198
def stopsP (g : Int) : List Int → Int → Option Int
  | [], c => if 80 < c then none else some c
  | d :: l, c => if c < d then some c else stopsP g l (d + g)
def stopR : Option Int → Int × Int × Int
  | none => (-1, 0, 0)
  | some s => (0, s, 0)
theorem stops_ev {g : Int} (hg : 1 ≤ g ∧ g ≤ 30) {ds : List Int} (h : OkD ds) : ev_round_Stops 2200 (twP g) wyP wnP 1 0 (dyP ds) 80 = some (stopR (stopsP g ds g)) := by
  have hl := h.len
  have j1 : ∀ c : Int, ev_round_Stops_j1 2200 80 [c] = some (stopR (if 80 < c then none else some c)) := fun c => by
    rw [ev_round_Stops_j1, bind_of (first_ev c), cond_if]
    by_cases hc : 80 < c
    · rw [if_pos (decide_eq_true hc), if_pos hc]; rfl
    · rw [if_neg (by simpa using hc), if_neg hc]; rfl
  have key : ∀ (k m i : Nat) (c : Int), i + k = ds.length → k < m → ev_round_Stops_l0 2200 (dyP ds) 80 m (i : Int) 1 0 [c] (dyP ds) (twP g) wyP wnP = some (stopR (stopsP g (ds.drop i) c)) := by
    intro k
    induction k with
    | zero =>
      intro m i c hi hm
      obtain ⟨m, rfl⟩ : ∃ m', m = m' + 1 := ⟨m - 1, by omega⟩
      rw [ev_round_Stops_l0, cond_if, dyP_len, if_neg (by simp; omega), List.drop_eq_nil_of_le (by omega), j1, stopsP]
    | succ k ih =>
      intro m i c hi hm
      obtain ⟨m, rfl⟩ : ∃ m', m = m' + 1 := ⟨m - 1, by omega⟩
      have hlt : i < ds.length := by omega
      have hd := h.low _ (List.getElem_mem hlt)
      rw [ev_round_Stops_l0, cond_if, dyP_len, if_pos (decide_eq_true (by omega)), idx_nat (dyP_at hlt), bind_of (first_ev c), List.drop_eq_getElem_cons hlt, stopsP, cond_if]
      by_cases hc : c < ds[i]
      · rw [if_pos (decide_eq_true hc), if_pos hc, j1, if_neg (by omega)]
      · rw [if_neg (by simpa using hc), if_neg hc, cond_if, if_neg (by simp; omega), bind_of (wind_ev hg c hd), bind_of (first_ev _), cond_if, if_neg (by simp; omega), chk_of (in64_of (by omega))]
        exact ih m (i + 1) _ (by omega) (by omega)
  rw [ev_round_Stops, bind_of (open_ev hg h (by decide)), cond_if, if_neg (by simp)]
  exact key ds.length 2200 0 g (by omega) (by omega)
def leftP (g q : Int) : List Int → Int → Int
  | [], c => c
  | d :: l, c => if d ≤ q then leftP g q l (d + g) else leftP g q l c
theorem left_ev {g : Int} (hg : 1 ≤ g ∧ g ≤ 30) {ds : List Int} (h : OkD ds) {q : Int} (hq : 0 ≤ q ∧ q ≤ 80) : ev_round_Left 2200 (twP g) wyP wnP 1 0 (dyP ds) q = some ([leftP g q ds g - q], 0) := by
  have hl := h.len
  have l1 : ∀ (m : Nat) (c : Int), 0 ≤ c → c ≤ 110 → ev_round_Left_l1 2200 [c] q (m + 1 + 1) 0 [c] = some ([c - q], 0) := fun m c h0 h1 => by
    rw [ev_round_Left_l1, cond_if, if_pos (by rfl), idx_of (x := c) (by decide) rfl, chk_of (in64_of (by omega)), chk_of (in64_of (by omega)), ev_round_Left_l1, cond_if, if_neg (by simp)]
    rfl
  have key : ∀ (k m i : Nat) (c : Int), i + k = ds.length → k < m → 0 ≤ c → c ≤ 110 → ev_round_Left_l0 2200 (dyP ds) q m (i : Int) 1 0 [c] (dyP ds) (twP g) wyP wnP = some ([leftP g q (ds.drop i) c - q], 0) := by
    intro k
    induction k with
    | zero =>
      intro m i c hi hm h0 h1
      obtain ⟨m, rfl⟩ : ∃ m', m = m' + 1 := ⟨m - 1, by omega⟩
      rw [ev_round_Left_l0, cond_if, dyP_len, if_neg (by simp; omega), List.drop_eq_nil_of_le (by omega), leftP]
      exact l1 2198 c h0 h1
    | succ k ih =>
      intro m i c hi hm h0 h1
      obtain ⟨m, rfl⟩ : ∃ m', m = m' + 1 := ⟨m - 1, by omega⟩
      have hlt : i < ds.length := by omega
      have hd := h.low _ (List.getElem_mem hlt)
      rw [ev_round_Left_l0, cond_if, dyP_len, if_pos (decide_eq_true (by omega)), idx_nat (dyP_at hlt), List.drop_eq_getElem_cons hlt, leftP, cond_if]
      by_cases hc : ds[i] ≤ q
      · rw [if_pos (decide_eq_true hc), if_pos hc, bind_of (wind_ev hg c hd), chk_of (in64_of (by omega))]
        exact ih m (i + 1) _ (by omega) (by omega) (by omega) (by omega)
      · rw [if_neg (by simpa using hc), if_neg hc, chk_of (in64_of (by omega))]
        exact ih m (i + 1) _ (by omega) (by omega) h0 h1
  rw [ev_round_Left, bind_of (open_ev hg h hq), cond_if, if_neg (by simp)]
  exact key ds.length 2200 0 g (by omega) (by omega) (by omega) (by omega)
theorem stop_after {g : Int} (hg : 1 ≤ g) {s p : Int} : ∀ (ds : List Int) (c : Int), p < c → (∀ d ∈ ds, p < d) → stopsP g ds c = some s → p < s
  | [], c, hp, _, h => by
    rw [stopsP] at h
    split at h
    · cases h
    · cases h; exact hp
  | d :: l, c, hp, hd, h => by
    rw [stopsP] at h
    split at h
    · cases h; exact hp
    · exact stop_after hg l (d + g) (by have := hd d (by simp); omega) (fun x hx => hd x (by simp [hx])) h
theorem stop_low {g : Int} {s : Int} : ∀ (ds : List Int) (c : Int), (∀ d ∈ ds, d ≤ 80) → stopsP g ds c = some s → s ≤ 80
  | [], c, _, h => by
    rw [stopsP] at h
    split at h
    · cases h
    · cases h; omega
  | d :: l, c, hd, h => by
    rw [stopsP] at h
    split at h
    · cases h; have := hd d (by simp); omega
    · exact stop_low l (d + g) (fun x hx => hd x (by simp [hx])) h
theorem left_none {g q : Int} : ∀ (ds : List Int) (c : Int), (∀ d ∈ ds, q < d) → leftP g q ds c = c
  | [], c, _ => rfl
  | d :: l, c, h => by
    have := h d (by simp)
    rw [leftP, if_neg (by omega), left_none l c fun x hx => h x (by simp [hx])]
theorem stop_left {g : Int} (hg : 1 ≤ g) {s : Int} : ∀ (ds : List Int) (c : Int), ds.Pairwise (fun a b => a < b) → stopsP g ds c = some s → leftP g s ds c = s
  | [], c, _, h => by
    rw [stopsP] at h
    split at h
    · cases h
    · cases h; rfl
  | d :: l, c, hp, h => by
    rw [List.pairwise_cons] at hp
    rw [stopsP] at h
    split at h
    · cases h
      rename_i hlt
      exact left_none _ _ fun x hx => by
        rcases List.mem_cons.1 hx with rfl | hx
        · exact hlt
        · have := hp.1 x hx; omega
    · have h1 := stop_after (p := d) hg l (d + g) (by omega) hp.1 h
      rw [leftP, if_pos (by omega)]
      exact stop_left hg l _ hp.2 h
/-- the first winding behind the stop, or none -/
def againP (s : Int) : List Int → Int
  | [] => 81
  | d :: l => if s < d then d else againP s l
theorem again_range {s : Int} (hs : s ≤ 80) : ∀ (ds : List Int), (∀ d ∈ ds, d ≤ 80) → s < againP s ds ∧ againP s ds ≤ 81
  | [], _ => by rw [againP]; omega
  | d :: l, h => by
    have := h d (by simp)
    rw [againP]
    split
    · omega
    · exact again_range hs l fun x hx => h x (by simp [hx])
/-- noon after noon -/
theorem noons_of {st : Int → CK × List BE} {want : Int → Int} {K : Int} (h : ∀ d, 0 ≤ d → d < K → runP (st d).2 (st d).1 (d * 86400) = st (d + 1) ∧ (st (d + 1)).1.1 / 86400 = want d) :
    ∀ (k : Nat) (d : Int), 0 ≤ d → d + k ≤ K → ∀ j : Nat, j < k → (noonsP k d (st d).2 (st d).1)[j]? = some (want (d + j)) := by
  intro k
  induction k with
  | zero => intro d h0 hk j hj; omega
  | succ k ih =>
    intro d h0 hk j hj
    obtain ⟨h1, h2⟩ := h d h0 (by omega)
    rw [noonsP, h1, h2]
    cases j with
    | zero => simp
    | succ j =>
      rw [List.getElem?_cons_succ, ih (d + 1) (by omega) (by omega) j (by omega)]
      congr 2; omega
theorem toP_zero {w t : Int} (h : (t - w) % 43200 = 0) : toP (0, 0, w, false) t = (0, 0, t, false) := by
  have e : (0 + (t - w) * (86400000 + 0)) % 3732480000000 = 0 := by omega
  simp only [toP, Bool.false_eq_true, if_false, e]
theorem toP_stand (x w t : Int) : toP (x, 0, w, true) t = (x, 0, t, true) := by simp only [toP, if_true]
def pre (d : Int) : CK := (0, 0, (if d = 0 then 0 else d - 1) * 86400, false)
theorem pre_to {d : Int} (h : 0 ≤ d) : toP (pre d) (d * 86400) = pre (d + 1) := by
  rw [pre, toP_zero (by split <;> omega), pre, if_neg (by omega), show d + 1 - 1 = d by omega]
theorem pre_stop {d : Int} (h : 0 ≤ d) : doP (pre d) (d * 86400, 3, 0) = (0, 0, d * 86400, true) := by
  have e := pre_to h
  have e2 : pre (d + 1) = (0, 0, d * 86400, false) := by rw [pre, if_neg (by omega), show d + 1 - 1 = d by omega]
  rw [e2] at e
  simp only [doP, e]
  simp
def stN (d : Int) : CK × List BE := (pre d, [])
theorem noonN : ∀ j : Nat, j < 82 → (noonsP 82 0 [] (0, 0, 0, false))[j]? = some 0 := fun j hj =>
  noons_of (st := stN) (want := fun _ => 0) (K := 82) (fun d h0 h1 => by
    simp only [stN, runP, pre_to h0, true_and]
    rfl) 82 0 (by decide) (by decide) j hj
section
variable {s a v : Int}
def wantP (s a v d : Int) : Int := if s < d ∧ d ≤ a ∧ s + 1 < a then 1000 * v else 0
def stD (s d : Int) : CK × List BE := if d ≤ s then (pre d, [(s * 86400, 3, 0)]) else ((0, 0, (d - 1) * 86400, true), [])
theorem noonD (hs : 1 ≤ s ∧ s ≤ 80) (ha : ¬ s + 1 < a) : ∀ j : Nat, j < 82 → (noonsP 82 0 [(s * 86400, 3, 0)] (0, 0, 0, false))[j]? = some (wantP s a v j) := fun j hj => by
  have h := noons_of (st := stD s) (want := wantP s a v) (K := 82) (fun d h0 h1 => by
    rcases Int.lt_trichotomy d s with h | h | h
    · simp only [stD, if_pos (show d ≤ s by omega), if_pos (show d + 1 ≤ s by omega), runP, if_neg (show ¬ s * 86400 ≤ d * 86400 by omega), pre_to h0, true_and, wantP, if_neg (show ¬ (s < d ∧ d ≤ a ∧ s + 1 < a) by omega)]
      rfl
    · subst h
      simp only [stD, if_pos (show d ≤ d by omega), if_neg (show ¬ d + 1 ≤ d by omega), runP, if_pos (show d * 86400 ≤ d * 86400 by omega), pre_stop h0, toP_stand, wantP, if_neg (show ¬ (d < d ∧ d ≤ a ∧ d + 1 < a) by omega), show d + 1 - 1 = d by omega, true_and]
      rfl
    · simp only [stD, if_neg (show ¬ d ≤ s by omega), if_neg (show ¬ d + 1 ≤ s by omega), runP, toP_stand, wantP, if_neg (show ¬ (s < d ∧ d ≤ a ∧ s + 1 < a) by omega), show d + 1 - 1 = d by omega, true_and]
      rfl) 82 0 (by decide) (by decide) j hj
  rw [stD, if_pos (by omega)] at h
  rw [Int.zero_add] at h
  exact h
def stC (s d : Int) : CK × List BE := if d ≤ s then (pre d, [(s * 86400, 3, 0), ((s + 1) * 86400, 4, 0)]) else if d = s + 1 then ((0, 0, s * 86400, true), [((s + 1) * 86400, 4, 0)]) else ((0, 0, (d - 1) * 86400, false), [])
theorem go_at (x t w : Int) : doP (x, 0, w, true) (t, 4, 0) = (x, 0, t, false) := by
  simp only [doP, toP_stand]; simp
theorem set_at (x t w v : Int) : doP (x, 0, w, true) (t, 1, v) = (v * 86400000, 0, t, true) := by
  simp only [doP, toP_stand]; simp
theorem noonC (hs : 1 ≤ s ∧ s ≤ 80) (ha : ¬ s + 1 < a) : ∀ j : Nat, j < 82 → (noonsP 82 0 [(s * 86400, 3, 0), ((s + 1) * 86400, 4, 0)] (0, 0, 0, false))[j]? = some (wantP s a v j) := fun j hj => by
  have h := noons_of (st := stC s) (want := wantP s a v) (K := 82) (fun d h0 h1 => by
    have hw : ¬ (s < d ∧ d ≤ a ∧ s + 1 < a) := by omega
    rcases Int.lt_trichotomy d s with h | h | h
    · simp only [stC, if_pos (show d ≤ s by omega), if_pos (show d + 1 ≤ s by omega), runP, if_neg (show ¬ s * 86400 ≤ d * 86400 by omega), pre_to h0, true_and, wantP, if_neg hw]
      rfl
    · subst h
      simp only [stC, if_pos (show d ≤ d by omega), if_neg (show ¬ d + 1 ≤ d by omega), runP, if_pos (show d * 86400 ≤ d * 86400 by omega), if_neg (show ¬ (d + 1) * 86400 ≤ d * 86400 by omega), pre_stop h0, toP_stand, wantP, if_neg hw, true_and, if_true]
      rfl
    · by_cases h2 : d = s + 1
      · subst h2
        simp only [stC, if_neg (show ¬ s + 1 ≤ s by omega), if_neg (show ¬ s + 1 + 1 ≤ s by omega), if_neg (show ¬ s + 1 + 1 = s + 1 by omega), if_true, runP, if_pos (show (s + 1) * 86400 ≤ (s + 1) * 86400 by omega), go_at, toP_zero (show ((s + 1) * 86400 - (s + 1) * 86400) % 43200 = 0 by omega), wantP, if_neg hw, show s + 1 + 1 - 1 = s + 1 by omega, true_and]
        rfl
      · simp only [stC, if_neg (show ¬ d ≤ s by omega), if_neg (show ¬ d + 1 ≤ s by omega), if_neg (show ¬ d + 1 = s + 1 by omega), if_neg h2, runP, toP_zero (show (d * 86400 - (d - 1) * 86400) % 43200 = 0 by omega), wantP, if_neg hw, show d + 1 - 1 = d by omega, true_and]
        rfl) 82 0 (by decide) (by decide) j hj
  rw [stC, if_pos (by omega)] at h
  rw [Int.zero_add] at h
  exact h
def stB (s v d : Int) : CK × List BE := if d ≤ s then (pre d, [(s * 86400, 3, 0), ((s + 1) * 86400, 1, v)]) else if d = s + 1 then ((0, 0, s * 86400, true), [((s + 1) * 86400, 1, v)]) else ((v * 86400000, 0, (d - 1) * 86400, true), [])
theorem noonB (hs : 1 ≤ s ∧ s ≤ 80) (ha : s + 1 < a) (ha2 : a = 81) : ∀ j : Nat, j < 82 → (noonsP 82 0 [(s * 86400, 3, 0), ((s + 1) * 86400, 1, v)] (0, 0, 0, false))[j]? = some (wantP s a v j) := fun j hj => by
  have h := noons_of (st := stB s v) (want := wantP s a v) (K := 82) (fun d h0 h1 => by
    rcases Int.lt_trichotomy d s with h | h | h
    · simp only [stB, if_pos (show d ≤ s by omega), if_pos (show d + 1 ≤ s by omega), runP, if_neg (show ¬ s * 86400 ≤ d * 86400 by omega), pre_to h0, true_and, wantP, if_neg (show ¬ (s < d ∧ d ≤ a ∧ s + 1 < a) by omega)]
      rfl
    · subst h
      simp only [stB, if_pos (show d ≤ d by omega), if_neg (show ¬ d + 1 ≤ d by omega), runP, if_pos (show d * 86400 ≤ d * 86400 by omega), if_neg (show ¬ (d + 1) * 86400 ≤ d * 86400 by omega), pre_stop h0, toP_stand, wantP, if_neg (show ¬ (d < d ∧ d ≤ a ∧ d + 1 < a) by omega), true_and, if_true]
      rfl
    · have hw : s < d ∧ d ≤ a ∧ s + 1 < a := by omega
      by_cases h2 : d = s + 1
      · subst h2
        simp only [stB, if_neg (show ¬ s + 1 ≤ s by omega), if_neg (show ¬ s + 1 + 1 ≤ s by omega), if_neg (show ¬ s + 1 + 1 = s + 1 by omega), if_true, runP, if_pos (show (s + 1) * 86400 ≤ (s + 1) * 86400 by omega), set_at, toP_stand, wantP, if_pos hw, show s + 1 + 1 - 1 = s + 1 by omega, true_and]
        omega
      · simp only [stB, if_neg (show ¬ d ≤ s by omega), if_neg (show ¬ d + 1 ≤ s by omega), if_neg (show ¬ d + 1 = s + 1 by omega), if_neg h2, runP, toP_stand, wantP, if_pos hw, show d + 1 - 1 = d by omega, true_and]
        omega) 82 0 (by decide) (by decide) j hj
  rw [stB, if_pos (by omega)] at h
  rw [Int.zero_add] at h
  exact h
def stA (s a v d : Int) : CK × List BE := if d ≤ s then (pre d, [(s * 86400, 3, 0), ((s + 1) * 86400, 1, v), (a * 86400, 4, 0), (a * 86400 + 60, 1, 60)])
  else if d = s + 1 then ((0, 0, s * 86400, true), [((s + 1) * 86400, 1, v), (a * 86400, 4, 0), (a * 86400 + 60, 1, 60)])
  else if d ≤ a then ((v * 86400000, 0, (d - 1) * 86400, true), [(a * 86400, 4, 0), (a * 86400 + 60, 1, 60)])
  else if d = a + 1 then ((v * 86400000, 0, a * 86400, false), [(a * 86400 + 60, 1, 60)])
  else ((0, 0, (d - 1) * 86400, false), [])
theorem noonA (hs : 1 ≤ s ∧ s ≤ 80) (hv : 0 ≤ v ∧ v < 43200) (ha : s + 1 < a) (ha2 : a ≤ 80) : ∀ j : Nat, j < 82 → (noonsP 82 0 [(s * 86400, 3, 0), ((s + 1) * 86400, 1, v), (a * 86400, 4, 0), (a * 86400 + 60, 1, 60)] (0, 0, 0, false))[j]? = some (wantP s a v j) := fun j hj => by
  have h := noons_of (st := stA s a v) (want := wantP s a v) (K := 82) (fun d h0 h1 => by
    rcases Int.lt_trichotomy d s with h | h | h
    · simp only [stA, if_pos (show d ≤ s by omega), if_pos (show d + 1 ≤ s by omega), runP, if_neg (show ¬ s * 86400 ≤ d * 86400 by omega), pre_to h0, true_and, wantP, if_neg (show ¬ (s < d ∧ d ≤ a ∧ s + 1 < a) by omega)]
      rfl
    · subst h
      simp only [stA, if_pos (show d ≤ d by omega), if_neg (show ¬ d + 1 ≤ d by omega), runP, if_pos (show d * 86400 ≤ d * 86400 by omega), if_neg (show ¬ (d + 1) * 86400 ≤ d * 86400 by omega), pre_stop h0, toP_stand, wantP, if_neg (show ¬ (d < d ∧ d ≤ a ∧ d + 1 < a) by omega), true_and, if_true]
      rfl
    · by_cases h2 : d = s + 1
      · subst h2
        have hw : s < s + 1 ∧ s + 1 ≤ a ∧ s + 1 < a := by omega
        simp only [stA, if_neg (show ¬ s + 1 ≤ s by omega), if_neg (show ¬ s + 1 + 1 ≤ s by omega), if_neg (show ¬ s + 1 + 1 = s + 1 by omega), if_pos (show s + 1 + 1 ≤ a by omega), if_true, runP, if_pos (show (s + 1) * 86400 ≤ (s + 1) * 86400 by omega), if_neg (show ¬ a * 86400 ≤ (s + 1) * 86400 by omega), set_at, toP_stand, wantP, if_pos hw, show s + 1 + 1 - 1 = s + 1 by omega, true_and]
        omega
      · rcases Int.lt_trichotomy d a with h3 | h3 | h3
        · have hw : s < d ∧ d ≤ a ∧ s + 1 < a := by omega
          simp only [stA, if_neg (show ¬ d ≤ s by omega), if_neg (show ¬ d + 1 ≤ s by omega), if_neg (show ¬ d + 1 = s + 1 by omega), if_neg h2, if_pos (show d ≤ a by omega), if_pos (show d + 1 ≤ a by omega), runP, if_neg (show ¬ a * 86400 ≤ d * 86400 by omega), toP_stand, wantP, if_pos hw, show d + 1 - 1 = d by omega, true_and]
          omega
        · subst h3
          have hw : s < d ∧ d ≤ d ∧ s + 1 < d := by omega
          have e : toP (v * 86400000, 0, d * 86400, false) (d * 86400) = (v * 86400000, 0, d * 86400, false) := by
            have e : (v * 86400000 + (d * 86400 - d * 86400) * (86400000 + 0)) % 3732480000000 = v * 86400000 := by omega
            simp only [toP, Bool.false_eq_true, if_false, e]
          simp only [stA, if_neg (show ¬ d ≤ s by omega), if_neg (show ¬ d + 1 ≤ s by omega), if_neg (show ¬ d + 1 = s + 1 by omega), if_neg h2, if_pos (show d ≤ d by omega), if_neg (show ¬ d + 1 ≤ d by omega), if_true, runP, if_pos (show d * 86400 ≤ d * 86400 by omega), if_neg (show ¬ d * 86400 + 60 ≤ d * 86400 by omega), go_at, e, wantP, if_pos hw, true_and]
          omega
        · have hw : ¬ (s < d ∧ d ≤ a ∧ s + 1 < a) := by omega
          by_cases h4 : d = a + 1
          · subst h4
            have e : doP (v * 86400000, 0, a * 86400, false) (a * 86400 + 60, 1, 60) = (60 * 86400000, 0, a * 86400 + 60, false) := by
              simp only [doP, toP]; simp
            have e2 : toP (60 * 86400000, 0, a * 86400 + 60, false) ((a + 1) * 86400) = (0, 0, (a + 1) * 86400, false) := by
              have e : (60 * 86400000 + ((a + 1) * 86400 - (a * 86400 + 60)) * (86400000 + 0)) % 3732480000000 = 0 := by omega
              simp only [toP, Bool.false_eq_true, if_false, e]
            simp only [stA, if_neg (show ¬ a + 1 ≤ s by omega), if_neg (show ¬ a + 1 + 1 ≤ s by omega), if_neg (show ¬ a + 1 = s + 1 by omega), if_neg (show ¬ a + 1 + 1 = s + 1 by omega), if_neg (show ¬ a + 1 ≤ a by omega), if_neg (show ¬ a + 1 + 1 ≤ a by omega), if_neg (show ¬ a + 1 + 1 = a + 1 by omega), if_true, runP, if_pos (show a * 86400 + 60 ≤ (a + 1) * 86400 by omega), e, e2, wantP, if_neg hw, show a + 1 + 1 - 1 = a + 1 by omega, true_and]
            rfl
          · simp only [stA, if_neg (show ¬ d ≤ s by omega), if_neg (show ¬ d + 1 ≤ s by omega), if_neg (show ¬ d = s + 1 by omega), if_neg (show ¬ d + 1 = s + 1 by omega), if_neg (show ¬ d ≤ a by omega), if_neg (show ¬ d + 1 ≤ a by omega), if_neg h4, if_neg (show ¬ d + 1 = a + 1 by omega), runP, toP_zero (show (d * 86400 - (d - 1) * 86400) % 43200 = 0 by omega), wantP, if_neg hw, show d + 1 - 1 = d by omega, true_and]
            rfl) 82 0 (by decide) (by decide) j hj
  rw [stA, if_pos (by omega)] at h
  rw [Int.zero_add] at h
  exact h
end
theorem noonsP_len : ∀ (k : Nat) (d : Int) (l : List BE) (c : CK), (noonsP k d l c).length = k := by
  intro k
  induction k with
  | zero => intro d l c; rfl
  | succ k ih => intro d l c; simp [noonsP, ih]
theorem loop_rb {g : Int} (hg : 1 ≤ g ∧ g ≤ 30) {ds : List Int} (h : OkD ds) {a set : Int} {r6 : Int × Int × Int} {noons : List Int}
    (hn : ∀ j : Nat, j < 82 → noons[j]? = some (if r6.1 = 0 then wantP r6.2.1 a (set % 43200) j else 0)) (hset : 0 ≤ set ∧ set ≤ 65535) (hr : r6.1 = 0 → (1 ≤ r6.2.1 ∧ r6.2.1 ≤ 80) ∧ leftP g r6.2.1 ds g = r6.2.1) :
    ∀ (k m d : Nat), d + k = 82 → k < m → ev_top_TopRoundBook_l6 2200 r6 a set m (d : Int) 1 0 (dyP ds) noons (twP g) wyP wnP = some true := by
  have hl := h.len
  intro k
  induction k with
  | zero =>
    intro m d hd hm
    obtain ⟨m, rfl⟩ : ∃ m', m = m' + 1 := ⟨m - 1, by omega⟩
    rw [ev_top_TopRoundBook_l6, cond_if, if_neg (by simp; omega), bind_of pubRound_b, cond_if, if_pos rfl, bind_of pubBook_b]
  | succ k ih =>
    intro m d hd hm
    obtain ⟨m, rfl⟩ : ∃ m', m = m' + 1 := ⟨m - 1, by omega⟩
    have hnext := ih m (d + 1) (by omega) (by omega)
    have hj8 : ∀ w, noons[d]? = some w → ev_top_TopRoundBook_j8 2200 (dyP ds) (twP g) wyP wnP 1 0 (d : Int) noons r6 (fun i27q i28q i29q l30q l31q l32q l33q l34q => ev_top_TopRoundBook_l6 2200 r6 a set m i27q i28q i29q l30q l31q l32q l33q l34q) w = some true := by
      intro w hw
      rw [ev_top_TopRoundBook_j8, chk_of (room_iff.2 (by rw [dyP_len]; simp; omega)), show ([] : List (Int × List Int)) ++ dyP ds = dyP ds from rfl, bind_of (left_ev hg h (q := min (d : Int) 80) (by omega)), idx_nat hw, cond_if, if_neg (by simp), cond_if, if_neg (by simp), cond_if, if_neg (by simp), cond_if]
      by_cases h0 : r6.1 = 0
      · rw [if_pos (by simpa using h0), cond_if]
        by_cases hd : (d : Int) = r6.2.1
        · have e : min (d : Int) 80 = r6.2.1 := by have := (hr h0).1; omega
          rw [if_pos (by simpa using hd), e, (hr h0).2, idx_of (x := r6.2.1 - r6.2.1) (by decide) rfl, cond_if, if_neg (by simp), chk_of (in64_of (by omega))]
          exact hnext
        · rw [if_neg (by simpa using hd), chk_of (in64_of (by omega))]
          exact hnext
      · rw [if_neg (by simpa using h0), chk_of (in64_of (by omega))]
        exact hnext
    have hx := hn d (by omega)
    have e : Int.tmod set 43200 = set % 43200 := Int.tmod_eq_emod_of_nonneg hset.1
    rw [ev_top_TopRoundBook_l6, cond_if, if_pos (decide_eq_true (by omega)), cond_if]
    by_cases h0 : r6.1 = 0
    · have hr1 := (hr h0).1
      rw [if_pos h0, wantP] at hx
      rw [if_pos (by simpa using h0), cond_if]
      by_cases c1 : r6.2.1 < (d : Int)
      · rw [if_pos (decide_eq_true c1), cond_if]
        by_cases c2 : (d : Int) ≤ a
        · rw [if_pos (decide_eq_true c2), chk_of (in64_of (by omega)), cond_if]
          by_cases c3 : r6.2.1 + 1 < a
          · rw [if_pos ⟨c1, c2, c3⟩] at hx
            rw [if_pos (decide_eq_true c3), ev_top_TopRoundBook_j7, chk_of (in64_of (by omega)), e, chk_of (in64_of (by omega))]
            exact hj8 _ hx
          · rw [if_neg (by omega)] at hx
            rw [if_neg (by simpa using c3), ev_top_TopRoundBook_j9]
            exact hj8 _ hx
        · rw [if_neg (by omega)] at hx
          rw [if_neg (by simpa using c2), ev_top_TopRoundBook_j9]
          exact hj8 _ hx
      · rw [if_neg (by omega)] at hx
        rw [if_neg (by simpa using c1), ev_top_TopRoundBook_j9]
        exact hj8 _ hx
    · rw [if_neg h0] at hx
      rw [if_neg (by simpa using h0), ev_top_TopRoundBook_j9]
      exact hj8 _ hx
theorem end_rb {g : Int} (hg : 1 ≤ g ∧ g ≤ 30) {ds : List Int} (h : OkD ds) {a set : Int} {r6 : Int × Int × Int} {l : List BE} (hok : OkEs l)
    (hn : ∀ j : Nat, j < 82 → (noonsP 82 0 l (0, 0, 0, false))[j]? = some (if r6.1 = 0 then wantP r6.2.1 a (set % 43200) j else 0)) (hset : 0 ≤ set ∧ set ≤ 65535) (hr : r6.1 = 0 → (1 ≤ r6.2.1 ∧ r6.2.1 ≤ 80) ∧ leftP g r6.2.1 ds g = r6.2.1) :
    ev_top_TopRoundBook_j4 2200 r6 set a 1 0 (dyP ds) l (twP g) wyP wnP = some true := by
  rw [ev_top_TopRoundBook_j4, bind_of (ev_Noons hok (by decide) (by decide) (by decide) (by decide) (by decide)), cond_if, if_neg (by simp), cond_if, if_neg (by simp [noonsP_len]), ev_top_TopRoundBook_j5]
  exact loop_rb hg h hn hset hr 82 2200 0 (by decide) (by decide)
theorem again_ev {ds : List Int} (hD : OkD ds) {s set : Int} {r6 : Int × Int × Int} (h6 : r6.2.1 = s) {r4 : (List (Int × Int × Int × Int × Int)) × (List ((List Int))) × (List (Int × Int × Int × Int)) × Int × Int} : ∀ (k m : Nat), k ≤ ds.length → k < m →
    ev_top_TopRoundBook_l1 2200 (dyP ds) r6 set r4 m (againP s (ds.drop k)) ((k : Int) - 1) = ev_top_TopRoundBook_l1 2200 (dyP ds) r6 set r4 (0 + 1) (againP s ds) (-1) := by
  have hl := hD.len
  intro k
  induction k with
  | zero =>
    intro m hk hm
    obtain ⟨m, rfl⟩ : ∃ m', m = m' + 1 := ⟨m - 1, by omega⟩
    rfl
  | succ k ih =>
    intro m hk hm
    obtain ⟨m, rfl⟩ : ∃ m', m = m' + 1 := ⟨m - 1, by omega⟩
    have hlt : k < ds.length := by omega
    have e : ((k + 1 : Nat) : Int) - 1 = (k : Int) := by omega
    have hnext := ih m (by omega) (by omega)
    rw [List.drop_eq_getElem_cons hlt, againP] at hnext
    rw [ev_top_TopRoundBook_l1, e, cond_if, if_pos (decide_eq_true (by omega)), idx_nat (dyP_at hlt), cond_if, h6]
    by_cases hc : s < ds[k]
    · rw [if_pos hc] at hnext
      rw [if_pos (decide_eq_true hc), chk_of (in64_of (by omega))]
      exact hnext
    · rw [if_neg hc] at hnext
      rw [if_neg (by simpa using hc), chk_of (in64_of (by omega))]
      exact hnext
theorem topRoundBook_evx {goes1 : Int} {by_2 : List Int} {set_3 : Int} (h0 : (Lit.int .u8 goes1).wf = true) (h1 : (by_2.length ≤ maxLen ∧ ∀ el5 ∈ by_2, (Lit.int .u8 el5).wf = true)) (h2 : (Lit.int .u16 set_3).wf = true) :
    ∃ n, ev_top_TopRoundBook n goes1 by_2 set_3 = some true := by
  refine ⟨2200, ?_⟩
  have w0 := wf8.1 h0
  have w2 : 0 ≤ set_3 ∧ set_3 ≤ 65535 := by
    simpa only [Lit.wf, Bool.and_eq_true, decide_eq_true_eq, show IntKind.u16.min = 0 from rfl, show IntKind.u16.max = 65535 from rfl] using h2
  have e1 : Int.tmod goes1 30 = goes1 % 30 := Int.tmod_eq_emod_of_nonneg w0.1
  have e2 : Int.tmod set_3 43200 = set_3 % 43200 := Int.tmod_eq_emod_of_nonneg w2.1
  obtain ⟨g, hgd⟩ : ∃ g, g = 1 + goes1 % 30 := ⟨_, rfl⟩
  have hg : 1 ≤ g ∧ g ≤ 30 := by omega
  obtain ⟨ds, hD, hw⟩ := wound (l := by_2) fun x hx => wf8.1 (h1.2 x hx)
  have hl := hD.len
  rw [ev_top_TopRoundBook, chk_of (in64_of (by omega)), e1, ← hgd, chk_of (in64_of (by omega)), bind_of (going hg).1, bind_of hw, chk_of (room_iff.2 (by rw [dyP_len]; simp; omega)), show ([] : List (Int × List Int)) ++ dyP ds = dyP ds from rfl, bind_of (stops_ev hg hD)]
  cases hs : stopsP g ds g with
  | none =>
    rw [show stopR none = (-1, 0, 0) from rfl, cond_if, if_neg (by simp), cond_if, if_neg (by simp), cond_if, if_neg (by simp), ev_top_TopRoundBook_j0, cond_if, if_neg (by simp)]
    exact end_rb hg hD (l := []) ⟨by simp, by simp, by simp⟩ (fun j hj => by rw [noonN j hj]; simp) w2 (fun h => by simp at h)
  | some s =>
    have s0 := stop_after hg.1 ds g (p := 0) (by omega) (fun d hd => by have := hD.low d hd; omega) hs
    have s1 := stop_low ds g (fun d hd => (hD.low d hd).2) hs
    have hs2 := stop_left hg.1 ds g hD.asc hs
    have ha := again_range s1 ds fun d hd => (hD.low d hd).2
    have hag := again_ev hD (s := s) (set := set_3) (r6 := (0, s, 0)) rfl (r4 := (twP g, wyP, wnP, 1, 0)) ds.length 2200 (by omega) (by omega)
    rw [List.drop_length, againP] at hag
    obtain ⟨a, haa⟩ : ∃ a, a = againP s ds := ⟨_, rfl⟩
    rw [← haa] at ha hag
    have hr : ((0, s, 0) : Int × Int × Int).1 = 0 → (1 ≤ ((0, s, 0) : Int × Int × Int).2.1 ∧ ((0, s, 0) : Int × Int × Int).2.1 ≤ 80) ∧ leftP g ((0, s, 0) : Int × Int × Int).2.1 ds g = ((0, s, 0) : Int × Int × Int).2.1 := fun _ => ⟨⟨by show 1 ≤ s; omega, s1⟩, hs2⟩
    have hv : 0 ≤ set_3 % 43200 ∧ set_3 % 43200 < 43200 := by omega
    rw [show stopR (some s) = (0, s, 0) from rfl, cond_if, if_neg (by simp), cond_if, if_neg (by simp), cond_if, if_pos (by simp), cond_if, if_neg (by simp; omega), cond_if, if_neg (by simp; omega), ev_top_TopRoundBook_j0, cond_if, if_pos (by simp), chk_of (in64_of (by dsimp only; omega)), chk_of (room_iff.2 (by simp)), dyP_len, chk_of (in64_of (by omega)), hag, ev_top_TopRoundBook_l1, cond_if, if_neg (by decide)]
    dsimp only
    rw [chk_of (in64_of (by omega)), cond_if]
    by_cases hc : s + 1 < a
    · rw [if_pos (decide_eq_true hc), chk_of (in64_of (by omega)), chk_of (in64_of (by omega)), chk_of (in64_of (by omega)), chk_of (room_iff.2 (by simp)), ev_top_TopRoundBook_j2, cond_if, e2]
      by_cases h8 : a ≤ 80
      · rw [if_pos (decide_eq_true h8)]
        dsimp only
        rw [chk_of (in64_of (by omega)), cond_if, if_pos (decide_eq_true hc), ev_top_TopRoundBook_j3, chk_of (in64_of (by omega)), chk_of (in64_of (by omega)), chk_of (in64_of (by omega)), chk_of (room_iff.2 (by simp))]
        exact end_rb hg hD (l := [(s * 86400, 3, 0), ((s + 1) * 86400, 1, set_3 % 43200), (a * 86400, 4, 0), (a * 86400 + 60, 1, 60)]) ⟨by simp [okE]; omega, by simp [List.pairwise_cons]; omega, by simp⟩ (fun j hj => by rw [if_pos rfl]; exact noonA ⟨by omega, s1⟩ hv hc h8 j hj) w2 hr
      · rw [if_neg (by simpa using h8), ev_top_TopRoundBook_j10, cond_if, if_neg (by simpa using h8)]
        exact end_rb hg hD (l := [(s * 86400, 3, 0), ((s + 1) * 86400, 1, set_3 % 43200)]) ⟨by simp [okE]; omega, by simp [List.pairwise_cons]; omega, by simp⟩ (fun j hj => by rw [if_pos rfl]; exact noonB ⟨by omega, s1⟩ hc (by omega) j hj) w2 hr
    · rw [if_neg (by simpa using hc), ev_top_TopRoundBook_j2, cond_if]
      by_cases h8 : a ≤ 80
      · rw [if_pos (decide_eq_true h8)]
        dsimp only
        have e3 : a = s + 1 := by omega
        rw [chk_of (in64_of (by omega)), cond_if, if_neg (by simpa using hc), ev_top_TopRoundBook_j10, cond_if, if_pos (decide_eq_true h8), chk_of (in64_of (by omega)), chk_of (room_iff.2 (by simp))]
        exact end_rb hg hD (l := [(s * 86400, 3, 0), (a * 86400, 4, 0)]) ⟨by simp [okE]; omega, by simp [List.pairwise_cons]; omega, by simp⟩ (fun j hj => by rw [if_pos rfl, e3]; exact noonC ⟨by omega, s1⟩ (by omega) j hj) w2 hr
      · rw [if_neg (by simpa using h8), ev_top_TopRoundBook_j10, cond_if, if_neg (by simpa using h8)]
        exact end_rb hg hD (l := [(s * 86400, 3, 0)]) ⟨by simp [okE]; omega, by simp, by simp⟩ (fun j hj => by rw [if_pos rfl]; exact noonD ⟨by omega, s1⟩ hc j hj) w2 hr
end Go.Proofs.Ytmgcinejodpopaa.Sy
