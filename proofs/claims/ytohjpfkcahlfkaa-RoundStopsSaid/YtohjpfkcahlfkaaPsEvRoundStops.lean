/- RoundStops: the tower that Stops finds has just gone out; one winding more never stops a tower earlier. -/
import Derived.Test.YtohjpfkcahlfkaaPsEvRoundH
import Derived.Test.YtohjpfkcahlfkaaPsEvRoundI
import Derived.Test.YtohjpfkcahlfkaaPsGRoundStops
set_option linter.unusedSimpArgs false
set_option linter.unusedVariables false
namespace Go.Proofs.Ytohjpfkcahlfkaa.Sy
open Go.RowKit
set_option maxRecDepth 100000
abbrev clkP (t : List Tw) (ds : List Dy) (e : Int) (j : Nat) : Int := (leftP t e ds (goesP t)).getD j 0
theorem stops_of {t : List Tw} {w : List (List Int)} {g : List Wd} {rest wage : Int} (h : OkR t w g rest wage) {ds : List Dy} (hd : OkDs t.length ds) {u : Int} : StopSpec t.length 0 u (clkP t ds) (stopsP t u ds (goesP t)) := by
  have ht := h.tn
  refine stops_spec (by omega) (fun j hj => goes_pos h hj) ds (goesP t) 0 (by rw [goesP, List.length_map]) (fun j hj => by have := goes_pos h hj; omega) hd.asc (fun d hdd => by have := hd.day d hdd; omega) hd.tow
theorem loop6 {n d : Nat} {at1 tower : Int} {e : Int} {v : List Int} (hv : v.length ≤ 8) (hn : 10 < n) {k3 : Int → Option Bool} (hd : d < 1000)
    (hc : ∀ j, j < v.length → (v.getD j 0 ≤ 0 → (d : Int) = at1 ∧ ¬ (j : Int) < tower) ∧ ((d : Int) = at1 → (j : Int) = tower → v.getD j 0 = 0)) : ∀ (k m j : Nat), j + k = v.length → k < m →
    ev_law11_RoundStops_l6 n (v, 0) (d : Int) (tower, at1, e) k3 m (j : Int) = k3 ((d + 1 : Nat) : Int) := by
  intro k
  induction k with
  | zero =>
    intro m j hj hm
    obtain ⟨m, rfl⟩ : ∃ m', m = m' + 1 := ⟨m - 1, by omega⟩
    rw [ev_law11_RoundStops_l6, cond_if, if_neg (by simp; omega), chk_of (in64_of (by omega))]; rfl
  | succ k ih =>
    intro m j hj hm
    obtain ⟨m, rfl⟩ : ∃ m', m = m' + 1 := ⟨m - 1, by omega⟩
    have hlt : j < v.length := by omega
    obtain ⟨c1, c2⟩ := hc j hlt
    rw [getD_of hlt] at c1 c2
    have hnext := ih m (j + 1) (by omega) (by omega)
    have hi : in64 ((j : Int) + 1) = true := in64_of (by omega)
    have hlast : (cond ((d : Int) == at1) (cond ((j : Int) == tower) (cond (v[j] != 0) (some false) (chk (in64 ((j : Int) + 1)) <| ev_law11_RoundStops_l6 n (v, 0) (d : Int) (tower, at1, e) k3 m ((j : Int) + 1))) (chk (in64 ((j : Int) + 1)) <| ev_law11_RoundStops_l6 n (v, 0) (d : Int) (tower, at1, e) k3 m ((j : Int) + 1))) (chk (in64 ((j : Int) + 1)) <| ev_law11_RoundStops_l6 n (v, 0) (d : Int) (tower, at1, e) k3 m ((j : Int) + 1))) = k3 ((d + 1 : Nat) : Int) := by
      rw [chk_of hi, cond_if, cond_if, cond_if]
      split
      · rename_i h1
        split
        · rename_i h2
          rw [if_neg (by rw [c2 (by simpa using h1) (by simpa using h2)]; simp)]
          exact hnext
        · exact hnext
      · exact hnext
    rw [ev_law11_RoundStops_l6, cond_if, if_pos (decide_eq_true (show (j : Int) < (v.length : Int) by omega)), idx_nat (List.getElem?_eq_getElem hlt), cond_if]
    split
    · rename_i h0
      obtain ⟨d1, d2⟩ := c1 (by simpa using h0)
      rw [cond_if, if_neg (by simpa using d1), cond_if, if_neg (by simpa using d2)]
      exact hlast
    · exact hlast
section
variable {t : List Tw} {w : List (List Int)} {g : List Wd} {rest wage : Int} (h : OkQ (t, w, g, rest, wage))
include h in
theorem cop_ev : ev_law11_copied 2200 t w g rest wage = some (t, w, g, rest, wage) := by
  have hok := h.ok
  have h1 := hok.tn
  have h2 := hok.wn
  have h3 := hok.gn
  simp only at h1 h2 h3
  exact copied_ev (by omega) (by omega) (fun d hd => by have := hok.row d hd; simp only at this; omega) (by omega) (by omega)
theorem dys_ev {ds : List Dy} {k : Nat} (hd : OkDs k ds) : ev_law11_days 2200 ds = some ds := by
  have hl := hd.len
  exact days_ev (by omega) (by omega) fun d hdd => by have := hd.short d hdd; omega
include h in
theorem end_j12 {ds ds' : List Dy} (hd : OkDs t.length ds) (hd' : OkDs t.length ds') (hle : ∀ e j, j < t.length → clkP t ds e j ≤ clkP t ds' e j) {s : Int × Int × Int} (hs : s = ((stopsP t 30 ds (goesP t)).1, (stopsP t 30 ds (goesP t)).2, 0)) :
    ev_law11_RoundStops_j12 2200 s rest wage ds' t w g = some true := by
  have hl := later_spec (stops_of h.ok hd (u := 30)) (stops_of h.ok hd' (u := 30)) hle
  rw [ev_law11_RoundStops_j12, bind_of (cop_ev h), bind_of (stops_ev (by decide) h.ok hd' (u := 30) (by decide)), cond_if, if_pos (by rfl), cond_if, hs, bind_of known11]
  dsimp only
  rcases hl with hl | ⟨l1, l2⟩
  · rw [if_pos (by simpa using hl)]
  · split
    · rfl
    · rw [cond_if, if_pos (decide_eq_true l1), cond_if, if_pos (decide_eq_true l2)]
include h in
theorem end_j10 {ds : List Dy} (hd : OkDs t.length ds) {i : Nat} (hi : i ≤ ds.length) (hl30 : ds.length ≤ 30) {i23 i24 : Int} (h23 : B8 i23) (h24 : B8 i24) (hlt : ∀ d ∈ ds.take i, d.1 < 1 + i23 % 30) (hgt : ∀ d ∈ ds.drop i, 1 + i23 % 30 < d.1) {s : Int × Int × Int} (hs : s = ((stopsP t 30 ds (goesP t)).1, (stopsP t 30 ds (goesP t)).2, 0)) :
    ev_law11_RoundStops_j10 2200 (i : Int) ds i24 t i23 w g rest wage s = some true := by
  have ht := h.ok.tn
  simp only at ht
  have e24 := tmod_of (b := (t.length : Int)) h24.1
  have hm1 := Int.emod_nonneg i24 (show (t.length : Int) ≠ 0 by omega)
  have hm2 := Int.emod_lt_of_pos i24 (show (0 : Int) < t.length by omega)
  have hx : ∀ x ∈ ([i24 % (t.length : Int)] : List Int), 0 ≤ x ∧ x < t.length := fun x hx => by rw [List.mem_singleton] at hx; omega
  have htk : ∀ d ∈ ds.take i, d ∈ ds := fun d hd => List.mem_of_mem_take hd
  have hdr : ∀ d ∈ ds.drop i, d ∈ ds := fun d hd => List.mem_of_mem_drop hd
  have hasc : (ds.take i ++ ds.drop i).Pairwise (fun a b => a.1 < b.1) := by rw [List.take_append_drop]; exact hd.asc
  rw [List.pairwise_append] at hasc
  have hmem : ∀ d, d ∈ ds.take i ++ (1 + i23 % 30, [i24 % (t.length : Int)]) :: ds.drop i → d ∈ ds ∨ d = (1 + i23 % 30, [i24 % (t.length : Int)]) := fun d hdd => by
    rcases List.mem_append.1 hdd with hdd | hdd
    · exact .inl (htk d hdd)
    · rcases List.mem_cons.1 hdd with hdd | hdd
      · exact .inr hdd
      · exact .inl (hdr d hdd)
  have hok : OkDs t.length (ds.take i ++ (1 + i23 % 30, [i24 % (t.length : Int)]) :: ds.drop i) := by
    refine ⟨?_, fun d hdd => ?_, fun d hdd => ?_, fun d hdd => ?_, fun d hdd => ?_, ?_⟩
    · rw [List.pairwise_append, List.pairwise_cons]
      refine ⟨hasc.1, ⟨fun a ha => hgt a ha, hasc.2.1⟩, fun a ha b hb => ?_⟩
      rcases List.mem_cons.1 hb with rfl | hb
      · exact hlt a ha
      · exact hasc.2.2 a ha b hb
    · rcases hmem d hdd with h1 | rfl
      · exact hd.day d h1
      · show 1 ≤ 1 + i23 % 30 ∧ 1 + i23 % 30 ≤ 36524
        omega
    · rcases hmem d hdd with h1 | rfl
      · exact hd.tow d h1
      · exact hx
    · rcases hmem d hdd with h1 | rfl
      · exact hd.nd d h1
      · simp
    · rcases hmem d hdd with h1 | rfl
      · exact hd.short d h1
      · simp
    · rw [List.length_append, List.length_cons, List.length_take, List.length_drop]; omega
  have hle : ∀ e j, j < t.length → clkP t ds e j ≤ clkP t (ds.take i ++ (1 + i23 % 30, [i24 % (t.length : Int)]) :: ds.drop i) e j := fun e j hj => by
    have := left_ins (t := t) (q := e) (a := ds.take i) (b := ds.drop i) (d := (1 + i23 % 30, [i24 % (t.length : Int)])) (c := goesP t) (fun d hdd => hd.tow d (htk d hdd)) (fun d hdd => hd.tow d (hdr d hdd)) hx (by rw [goesP, List.length_map]) (fun x hx => by have := hlt x hx; show x.1 ≤ 1 + i23 % 30; omega) (fun j hj => by show _ ≤ 1 + i23 % 30 + _; omega) j hj
    rw [List.take_append_drop] at this
    exact this
  have hend := end_j12 h hd hok hle hs
  rw [ev_law11_RoundStops_j12] at hend
  have e1 : (([] : List (Int × (List Int))) ++ (List.drop (0 : Int).toNat (List.take (i : Int).toNat ds))) = ds.take i := by simp
  have e2 : (List.drop (i : Int).toNat (List.take ((ds.length : Int) : Int).toNat ds)) = ds.drop i := by simp
  have e3 : (List.drop (0 : Int).toNat (List.take (i : Int).toNat ds)) = ds.take i := by simp
  rw [ev_law11_RoundStops_j10, e1, e2, e3, e24, tmod_of h23.1, List.append_assoc, List.singleton_append, chk_of (by simp; omega), chk_of (room_iff.2 (by simp; omega)), chk_of (in64_of (by omega)), chk_of (by simp; intro e; simp [e] at ht), chk_of (room_iff.2 (by simp; omega)), chk_of (by simp; omega), chk_of (room_iff.2 (by simp; omega))]
  exact hend
include h in
theorem end_j7 {ds : List Dy} (hd : OkDs t.length ds) (hl30 : ds.length ≤ 30) {i23 i24 : Int} (h23 : B8 i23) (h24 : B8 i24) {s : Int × Int × Int} (hs : s = ((stopsP t 30 ds (goesP t)).1, (stopsP t 30 ds (goesP t)).2, 0)) :
    ev_law11_RoundStops_j7 2200 ds i23 i24 t w g rest wage s = some true := by
  have e23 := tmod_of (b := 30) h23.1
  have key : ∀ (k m i : Nat), i + k = ds.length → k < m → (∀ d ∈ ds.take i, d.1 < 1 + i23 % 30) → ev_law11_RoundStops_l8 2200 ds i23 i24 t w g rest wage s m (i : Int) = some true := by
    intro k
    induction k with
    | zero =>
      intro m i hi hm hlt
      obtain ⟨m, rfl⟩ : ∃ m', m = m' + 1 := ⟨m - 1, by omega⟩
      rw [ev_law11_RoundStops_l8, cond_if, if_neg (by simp; omega), ev_law11_RoundStops_j9, cond_if, if_pos (by simp; omega)]
      exact end_j10 h hd (by omega) hl30 h23 h24 hlt (by rw [List.drop_eq_nil_of_le (by omega)]; simp) hs
    | succ k ih =>
      intro m i hi hm hlt
      obtain ⟨m, rfl⟩ : ∃ m', m = m' + 1 := ⟨m - 1, by omega⟩
      have hli : i < ds.length := by omega
      rw [ev_law11_RoundStops_l8, cond_if, if_pos (decide_eq_true (by omega)), idx_nat (List.getElem?_eq_getElem hli), cond_if, e23]
      by_cases hc : ds[i].1 < 1 + i23 % 30
      · rw [if_pos (decide_eq_true hc), chk_of (in64_of (by omega))]
        refine ih m (i + 1) (by omega) (by omega) fun d hdd => ?_
        rw [List.take_succ_eq_append_getElem hli] at hdd
        rcases List.mem_append.1 hdd with hdd | hdd
        · exact hlt d hdd
        · rw [List.mem_singleton] at hdd; rw [hdd]; exact hc
      · rw [if_neg (by simpa using hc), ev_law11_RoundStops_j9, cond_if, if_neg (by simp; omega), idx_nat (List.getElem?_eq_getElem hli), cond_if, e23]
        by_cases hc2 : ds[i].1 = 1 + i23 % 30
        · rw [if_neg (by simp [hc2]), ev_law11_RoundStops_j11]
          exact end_j12 h hd hd (fun e j _ => Int.le_refl _) hs
        · rw [if_pos (by simpa using hc2)]
          refine end_j10 h hd (by omega) hl30 h23 h24 hlt (fun d hdd => ?_) hs
          rw [List.drop_eq_getElem_cons hli] at hdd
          rcases List.mem_cons.1 hdd with rfl | hdd
          · omega
          · have := hd.after hli d hdd; omega
  rw [ev_law11_RoundStops_j7, bind_of (dys_ev hd), chk_of (in64_of (by have := h23.2; have := h23.1; omega)), e23, chk_of (in64_of (by omega))]
  exact key ds.length 2200 0 (by omega) (by omega) (by simp)
include h in
theorem end_j1 {ds : List Dy} (hd : OkDs t.length ds) (hl30 : ds.length ≤ 30) {i23 i24 : Int} (h23 : B8 i23) (h24 : B8 i24) :
    ev_law11_RoundStops_j1 2200 i23 i24 rest wage ds t w g = some true := by
  have ht := h.ok.tn
  simp only at ht
  have hsp := stops_of h.ok hd (u := 30)
  obtain ⟨s, hs⟩ : ∃ s, s = ((stopsP t 30 ds (goesP t)).1, (stopsP t 30 ds (goesP t)).2, (0 : Int)) := ⟨_, rfl⟩
  have hsp' : StopSpec t.length 0 30 (clkP t ds) (s.1, s.2.1) := by rw [hs]; exact hsp
  have hj7 := end_j7 h hd hl30 h23 h24 hs
  have hs2 : s = (s.1, s.2.1, 0) := by rw [hs]
  have l3 : ∀ (k m d : Nat), d + k = 31 → k < m → 1 ≤ d → ev_law11_RoundStops_l3 2200 s t w g rest wage ds i23 i24 m (d : Int) = some true := by
    intro k
    induction k with
    | zero =>
      intro m d hi hm hd1
      obtain ⟨m, rfl⟩ : ∃ m', m = m' + 1 := ⟨m - 1, by omega⟩
      rw [ev_law11_RoundStops_l3, cond_if, if_neg (by simp; omega)]
      exact hj7
    | succ k ih =>
      intro m d hi hm hd1
      obtain ⟨m, rfl⟩ : ∃ m', m = m' + 1 := ⟨m - 1, by omega⟩
      have hnext := ih m (d + 1) (by omega) (by omega) (by omega)
      have hj4 : (s.2.1 = 0 ∨ (d : Int) ≤ s.2.1) → ev_law11_RoundStops_j4 2200 t w g rest wage ds (d : Int) s (fun i34q => ev_law11_RoundStops_l3 2200 s t w g rest wage ds i23 i24 m i34q) = some true := fun hor => by
        have hlen : ((leftP t (d : Int) ds (goesP t)).map (fun x => x - (d : Int))).length = t.length := by rw [List.length_map, left_len, goesP, List.length_map]
        rw [ev_law11_RoundStops_j4, bind_of (cop_ev h), bind_of (dys_ev hd), bind_of (left_ev (by decide) h.ok hd (q := (d : Int)) (by omega)), cond_if, if_neg (by simp), cond_if, if_neg (by rw [hlen]; simp), ev_law11_RoundStops_j5]
        have := loop6 (n := 2200) (d := d) (at1 := s.2.1) (tower := s.1) (e := 0) (v := (leftP t (d : Int) ds (goesP t)).map (fun x => x - (d : Int))) (by omega) (by decide) (k3 := fun i34q => ev_law11_RoundStops_l3 2200 s t w g rest wage ds i23 i24 m i34q) (by omega) (fun j hj => ?_) t.length 2200 0 (by omega) (by omega)
        · rw [← hs2] at this
          rw [show ((0 : Nat) : Int) = 0 from rfl] at this
          rw [this]; exact hnext
        · rw [hlen] at hj
          have ev : ((leftP t (d : Int) ds (goesP t)).map (fun x => x - (d : Int))).getD j 0 = clkP t ds (d : Int) j - d := by
            have hjl : j < (leftP t (d : Int) ds (goesP t)).length := by rw [left_len, goesP, List.length_map]; exact hj
            rw [getD_of (by rw [List.length_map]; exact hjl), List.getElem_map, clkP, getD_of hjl]
          rw [ev]
          rcases hsp' with ⟨e1, e2⟩ | ⟨i, k1, k2, k3, k4, k5, k6, k7⟩
          · have e3 : s.2.1 = 0 := (Prod.mk.inj e1).2
            have := e2 (d : Int) (by omega) (by omega) j hj
            exact ⟨fun hc => by omega, fun hc => by omega⟩
          · simp only at k2 k3 k4 k5 k6 k7
            have hle : (d : Int) ≤ s.2.1 := by omega
            by_cases hdl : (d : Int) < s.2.1
            · have := k6 (d : Int) (by omega) hdl j hj
              exact ⟨fun hc => by omega, fun hc => by omega⟩
            · have e3 : (d : Int) = s.2.1 := by omega
              refine ⟨fun hc => ⟨e3, fun hlt => ?_⟩, fun _ hj2 => ?_⟩
              · have := k7 j (by omega)
                rw [← e3] at this
                omega
              · have e4 : j = i := by omega
                rw [e4, e3, k5]; omega
      rw [ev_law11_RoundStops_l3, cond_if, if_pos (decide_eq_true (by omega)), cond_if]
      split
      · rename_i h0; exact hj4 (.inl (by simpa using h0))
      · rw [cond_if]
        split
        · rename_i h0; exact hj4 (.inr (by simpa using h0))
        · exact hj7
  have hend := l3 30 2200 1 (by decide) (by decide) (by decide)
  rw [ev_law11_RoundStops_j1, bind_of (cop_ev h), bind_of (dys_ev hd), bind_of (stops_ev (by decide) h.ok hd (u := 30) (by decide)), ← hs, cond_if, if_neg (by rw [hs]; simp)]
  rcases hsp' with ⟨e1, e2⟩ | ⟨i, k1, k2, k3, k4, k5, k6, k7⟩
  · have e3 : s.2.1 = 0 := (Prod.mk.inj e1).2
    have e4 : s.1 = -1 := (Prod.mk.inj e1).1
    rw [cond_if, if_neg (by rw [e3, e4]; simp), cond_if, if_neg (by rw [e4]; simp), cond_if, if_neg (by rw [e4]; simp; omega), cond_if, if_neg (by rw [e3]; simp), cond_if, if_neg (by rw [e3]; simp), ev_law11_RoundStops_j2]
    exact hend
  · simp only at k2 k3 k4
    have b1 : (s.1 == -1) = false := by simp; omega
    have b2 : (s.2.1 == 0) = false := by simp; omega
    rw [cond_if, if_neg (by rw [b1, b2]; simp), cond_if, if_neg (by simp; omega), cond_if, if_neg (by simp; omega), cond_if, if_neg (by simp; omega), cond_if, if_neg (by simp; omega), ev_law11_RoundStops_j2]
    exact hend
include h in
theorem loop_stops {l12 : List (Int × Int)} (h12 : ∀ x ∈ l12, B8 x.1 ∧ B8 x.2) {i23 i24 : Int} (h23 : B8 i23) (h24 : B8 i24) : ∀ (k m i : Nat) (p : Int) (ds : List Dy), p + k = 31 → k < m → (i : Int) ≤ p → OkDs t.length ds → (ds.length : Int) ≤ p → p ≤ 30 → (∀ d ∈ ds, d.1 ≤ p) →
    ev_law11_RoundStops_l0 2200 m p (i : Int) l12 i23 i24 rest wage ds t w g = some true := by
  intro k
  induction k using Nat.strongRecOn with
  | ind k ih =>
    intro m i p ds hk hm h0 hd hl hp hle
    obtain ⟨m, rfl⟩ : ∃ m', m = m' + 1 := ⟨m - 1, by omega⟩
    have hj := end_j1 h hd (by omega) h23 h24
    rw [ev_law11_RoundStops_l0, cond_if]
    by_cases hlt : i < l12.length
    · obtain ⟨b1, b2⟩ := h12 _ (List.getElem_mem hlt)
      have e := tmod_of (b := 6) b1.1
      rw [if_pos (decide_eq_true (by omega)), idx_nat (List.getElem?_eq_getElem hlt), chk_of (in64_of (by omega)), e, chk_of (in64_of (by omega)), chk_of (in64_of (by omega)), cond_if]
      by_cases hc : 30 < p + (1 + l12[i].1 % 6)
      · rw [if_pos (decide_eq_true hc)]; exact hj
      · have hs2 : (shK .u8 2 : Int) = 4 := by decide
        have hs5 : (shK .u8 5 : Int) = 32 := by decide
        obtain ⟨s, hs, s1, s2, s3⟩ := some_ev (t := t) (w := w) (g := g) (rest := rest) (wage := wage) (most := 3) h.ok.tn (l := [l12[i].2, l12[i].2 / (shK .u8 2 : Int), l12[i].2 / (shK .u8 5 : Int)]) (fun x hx => by
          simp only [List.mem_cons, List.not_mem_nil, or_false] at hx
          rw [hs2, hs5] at hx
          rcases hx with rfl | rfl | rfl <;> omega) (by simp) (by decide)
        rw [if_neg (by simpa using hc), bind_of hs, chk_of (room_iff.2 (by simp; omega)), chk_of (in64_of (by omega))]
        refine ih (k - (1 + (l12[i].1 % 6).toNat)) (by omega) m (i + 1) (p + (1 + l12[i].1 % 6)) _ (by omega) (by omega) (by omega) ?_ (by simp; omega) (by omega) (fun d hdd => ?_)
        · refine ⟨?_, fun d hdd => ?_, fun d hdd => ?_, fun d hdd => ?_, fun d hdd => ?_, by simp; omega⟩
          · rw [List.pairwise_append]
            refine ⟨hd.asc, by simp, fun a ha b hb => ?_⟩
            rw [List.mem_singleton] at hb
            have := hle a ha
            rw [hb]; show a.1 < p + _; omega
          · rcases List.mem_append.1 hdd with hdd | hdd
            · exact hd.day d hdd
            · rw [List.mem_singleton] at hdd; rw [hdd]; show 1 ≤ p + _ ∧ p + _ ≤ 36524; omega
          · rcases List.mem_append.1 hdd with hdd | hdd
            · exact hd.tow d hdd
            · rw [List.mem_singleton] at hdd; rw [hdd]; exact s2
          · rcases List.mem_append.1 hdd with hdd | hdd
            · exact hd.nd d hdd
            · rw [List.mem_singleton] at hdd; rw [hdd]; exact s1
          · rcases List.mem_append.1 hdd with hdd | hdd
            · exact hd.short d hdd
            · rw [List.mem_singleton] at hdd; rw [hdd]; show s.length ≤ 100; omega
        · rcases List.mem_append.1 hdd with hdd | hdd
          · have := hle d hdd; omega
          · rw [List.mem_singleton] at hdd; rw [hdd]; show p + _ ≤ p + _; omega
    · rw [if_neg (by simp; omega)]
      exact hj
theorem roundStops_evx {x1 : List (Int × Int × Int × Int × Int)} {x2 : List Int} {x3 : List (Int × Int × Int × Int)} {x4 : Int} {x5 : Int} {by_6 : List (Int × Int)} {more7 : Int} {more8 : Int} (h0 : (x1.length ≤ maxLen ∧ ∀ el89 ∈ x1, (Lit.int .u8 el89.1).wf = true ∧ (Lit.int .u8 el89.2.1).wf = true ∧ (Lit.int .u8 el89.2.2.1).wf = true ∧ (Lit.int .u8 el89.2.2.2.1).wf = true ∧ (Lit.int .u8 el89.2.2.2.2).wf = true) ∧ (x2.length ≤ maxLen ∧ ∀ el5 ∈ x2, (Lit.int .u8 el5).wf = true) ∧ (x3.length ≤ maxLen ∧ ∀ el90 ∈ x3, (Lit.int .u8 el90.1).wf = true ∧ (Lit.int .u8 el90.2.1).wf = true ∧ (Lit.int .u8 el90.2.2.1).wf = true ∧ (Lit.int .u8 el90.2.2.2).wf = true) ∧ (Lit.int .u8 x4).wf = true ∧ (Lit.int .u8 x5).wf = true) (h1 : (by_6.length ≤ maxLen ∧ ∀ el79 ∈ by_6, (Lit.int .u8 el79.1).wf = true ∧ (Lit.int .u8 el79.2).wf = true)) (h2 : (Lit.int .u8 more7).wf = true ∧ (Lit.int .u8 more8).wf = true) :
    ∃ n, ev_law11_RoundStops n x1 x2 x3 x4 x5 by_6 more7 more8 = some true := by
  obtain ⟨⟨_, a1⟩, ⟨_, a2⟩, ⟨_, a3⟩, a4, a5⟩ := h0
  obtain ⟨x, hx, hq⟩ := rules_ev (x1 := x1) (x2 := x2) (x3 := x3) (fun y hy => by
    obtain ⟨b1, b2, b3, b4, b5⟩ := a1 y hy
    exact ⟨wf8.1 b1, wf8.1 b2, wf8.1 b3, wf8.1 b4, wf8.1 b5⟩) (fun y hy => wf8.1 (a2 y hy)) (fun y hy => by
    obtain ⟨b1, b2, b3, b4⟩ := a3 y hy
    exact ⟨wf8.1 b1, wf8.1 b2, wf8.1 b3, wf8.1 b4⟩) (wf8.1 a4) (wf8.1 a5)
  obtain ⟨t, w, g, rest, wage⟩ := x
  refine ⟨2200, ?_⟩
  rw [ev_law11_RoundStops, bind_of hx]
  exact loop_stops hq (fun y hy => ⟨wf8.1 (h1.2 y hy).1, wf8.1 (h1.2 y hy).2⟩) (wf8.1 h2.1) (wf8.1 h2.2) 31 2200 0 0 [] (by decide) (by decide) (by decide) ⟨by simp, by simp, by simp, by simp, by simp, by simp⟩ (by decide) (by decide) (by simp)
end
end Go.Proofs.Ytohjpfkcahlfkaa.Sy
