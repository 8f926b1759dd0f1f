/- The chime: works of one tune and one hammer, their runs, and how many blows a run has. -/
import Derived.Test.YtgkoldcmbcbbpaaCdGChime
import Derived.Test.YtgkoldcmbcbbpaaCdSpChimeA
import Derived.Test.YtgkoldcmbcbbpaaCdEvMap
set_option linter.unusedSimpArgs false
set_option linter.unusedVariables false
namespace Go.Proofs.Ytgkoldcmbcbbpaa.Sy
open Go.RowKit
set_option maxRecDepth 100000
structure OkW (S : Int) (runs : List Int) (bell : Int) (pins : List (Int × Int)) : Prop where
  hS : S = 1 ∨ S = 2 ∨ S = 3 ∨ S = 4 ∨ S = 6 ∨ S = 8
  len : runs.length = 4
  run : ∀ x ∈ runs, 1 ≤ x ∧ x ≤ S
  bell : 0 ≤ bell ∧ bell ≤ 15
  pin : ∀ p ∈ pins, p.1 = 0 ∧ 0 ≤ p.2 ∧ p.2 < 4 * S
  nd : pins.Nodup
  few : pins.length ≤ 20
theorem mput_fresh {κ ν : Type} [BEq κ] [LawfulBEq κ] {xs : List (κ × ν)} {k : κ} {v : ν} (h : k ∉ xs.map (·.1)) : mput xs k v = xs ++ [(k, v)] := by
  have e : mfind xs k = none := by
    unfold mfind;rw [List.findIdx?_eq_none_iff];intro x hx;exact beq_eq_false_iff_ne.2 fun e => h (e ▸ hx)
  unfold mput;rw [e]
theorem distinct_w {n : Nat} (hn : 30 < n) {l : List (Int × Int)} (nd : l.Nodup) (hl : l.length ≤ 20) : ev_chime_distinct_api_ChimePin n l = some true := by
  have key : ∀ (k m i : Nat), i + k = l.length → k < m → ev_chime_distinct_api_ChimePin_l0 n l m (i : Int) l ((l.take i).map fun x => (x, true)) = some true := by
    intro k
    induction k with
    | zero =>
      intro m i hi hm;obtain ⟨m, rfl⟩ : ∃ m', m = m' + 1 := ⟨m - 1, by omega⟩;rw [ev_chime_distinct_api_ChimePin_l0, cond_if, if_neg (by simp; omega), List.take_of_length_le (by omega)];simp
    | succ k ih =>
      intro m i hi hm;obtain ⟨m, rfl⟩ : ∃ m', m = m' + 1 := ⟨m - 1, by omega⟩;have hlt : i < l.length := by omega
      rw [ev_chime_distinct_api_ChimePin_l0, cond_if, if_pos (decide_eq_true (by omega)), idx_nat (List.getElem?_eq_getElem hlt), chk_of (in64_of (by omega)), mput_fresh]
      · have e : ((l.take i).map fun x => (x, true)) ++ [((l[i].1, l[i].2), true)] = (l.take (i + 1)).map fun x => (x, true) := by
          rw [List.take_add_one, List.getElem?_eq_getElem hlt, List.map_append]; rfl
        rw [e];exact ih m (i + 1) (by omega) (by omega)
      · simp only [List.map_map, Function.comp_def, List.map_id'];intro hm2;have hnd := (List.nodup_append.1 (show (l.take i ++ l.drop i).Nodup by rw [List.take_append_drop]; exact nd)).2.2;exact hnd _ hm2 l[i] (List.mem_iff_getElem?.2 ⟨0, by rw [List.getElem?_drop, Nat.add_zero, List.getElem?_eq_getElem hlt]⟩) rfl
  rw [ev_chime_distinct_api_ChimePin];exact key l.length n 0 (by omega) (by omega)
theorem rest_w {a b : Int} (hb : 1 ≤ b) : 0 ≤ Int.tmod a b + b ∧ Int.tmod a b + b ≤ 2 * b ∧ Int.tmod (Int.tmod a b + b) b = a % b := by
  have h1 := Int.tmod_lt_of_pos a (show 0 < b by omega);have h2 : -b < Int.tmod a b := by
    have := Int.tmod_lt_of_pos (-a) (show 0 < b by omega);rw [Int.neg_tmod] at this; omega
  have h3 : a % b = (Int.tmod a b + b) % b := by
    rw [Int.add_emod_right, show Int.tmod a b = a - b * Int.tdiv a b by have := Int.mul_tdiv_add_tmod a b; omega, Int.sub_mul_emod_self_left]
  exact ⟨by omega, by omega, by rw [Int.tmod_eq_emod_of_nonneg (by omega), ← h3]⟩
theorem modulo_w {n : Nat} {a b : Int} (hb : 1 ≤ b ∧ b ≤ 1000000) : ev_chime_modulo n a b = some (a % b) := by
  obtain ⟨r1, r2, r3⟩ := rest_w (a := a) hb.1;rw [ev_chime_modulo, chk_of (by simp; omega), chk_of (in64_of (by omega)), chk_of (by simp; omega), r3]
section
variable {S : Int} {runs : List Int} {bell : Int} {pins : List (Int × Int)} (W : OkW S runs bell pins) {n : Nat} (hn : 100 < n)
include W in
theorem W_S : 1 ≤ S ∧ S ≤ 8 := by have := W.hS; omega
include W hn in
theorem check_w : ev_chime_Check n (4 * S) S runs 1 [(bell, 0)] pins = some 0 := by
  have hS := W_S W;have hl := W.len;have hf := W.few;have hb := W.bell;have e0 : Int.tmod (4 * S) S = 0 := by rw [Int.tmod_eq_emod_of_nonneg (by omega), Int.mul_emod_left]
  have hp : ev_chime_barrel_areParts n (4 * S) S runs 1 [(bell, 0)] pins = some true := by
    rw [ev_chime_barrel_areParts, bind_of (wi1_chime (by omega)), cond_if, if_pos (by simp; omega), bind_of (wi1_chime (by omega)), cond_if, if_pos (by simp; omega), chk_of (by simp; omega), cond_if, if_pos (by simp [e0]), bind_of (wi1_chime (by omega)), cond_if, if_pos (by simp; omega), bind_of (wi_chime (by omega) (by omega)), cond_if,
      if_pos (by rw [List.all_eq_true]; intro x hx; have := W.run x hx; simp; omega), bind_of (wi1_chime (by omega))]
    rfl
  have hh : ev_slices_ContainsFunc_Lapi_ChimeHammer_api_ChimeHammer n [(bell, 0)] (fun a => ev_chime_Check_1 n a.1 a.2) = some false := by
    rw [cf_Lapi_ChimeHammer_api_ChimeHammer (g := fun _ => false) (fun x hx => by
      rw [List.mem_singleton] at hx; subst hx;show ev_chime_Check_1 n bell 0 = some false;have h1 : ev_chime_isBell n bell = some true := by
        rw [ev_chime_isBell, bind_of (wi1_chime (by omega))];simp; omega
      rw [ev_chime_Check_1, ev_chime_isHammer, bind_of h1, cond_if, if_pos rfl, bind_of (wi1_chime (by omega))]
      rfl) (by simp) (by simp; omega)]
    rfl
  have hpi : ev_slices_ContainsFunc_Lapi_ChimePin_api_ChimePin n pins (fun a => ev_chime_Check_2 n a.1 a.2 (4 * S) S runs 1 [(bell, 0)] pins) = some false := by
    rw [cf_Lapi_ChimePin_api_ChimePin (g := fun _ => false) (fun x hx => by
      obtain ⟨q1, q2, q3⟩ := W.pin x hx;rw [ev_chime_Check_2, ev_chime_barrel_isPin, chk_of (in64_of (by simp)), chk_of (in64_of (by simp)), bind_of (wi1_chime (by omega)), cond_if, if_pos (by simp [q1]), chk_of (in64_of (by omega)), bind_of (wi1_chime (by omega))];simp; omega) (by omega) (by omega)]
    simp
  rw [ev_chime_Check, bind_of hp, cond_if, if_neg (by simp), bind_of (wi1_chime (by omega)), cond_if, if_neg (by simp), bind_of hh, ev_chime_Check_j0, cond_if, if_neg (by simp), cond_if, if_neg (by simp; omega), bind_of hpi, cond_if, if_neg (by simp), bind_of (distinct_w (by omega) W.nd W.few), cond_if, if_neg (by simp)]
include W hn in
theorem newRun_w {k : Nat} (hk : k < 4) {s : Int} (hs : 0 ≤ s ∧ s < S) : ev_chime_newRun n (4 * S) S runs 1 [(bell, 0)] pins 0 (k : Int) s = some (4 * S, S, runs, 1, [(bell, 0)], pins, 0, s, runs.getD k 0, 0) := by
  have hS := W_S W;have hl := W.len;have hg : runs[k]? = some (runs.getD k 0) := by rw [List.getD_eq_getElem?_getD, List.getElem?_eq_getElem (by omega)]; rfl
  rw [ev_chime_newRun, bind_of (check_w W hn), cond_if, if_neg (by simp), chk_of (by decide), bind_of (wi1_chime (by omega)), cond_if, if_neg (by simp), chk_of (in64_of (by omega)), bind_of (wi1_chime (by omega)), cond_if, if_neg (by simp; omega), chk_of (in64_of (by omega)), bind_of (wi1_chime (by omega)), cond_if, if_neg (by simp; omega), idx_nat hg]
def hitW (S s r : Int) (p : Int × Int) : Bool := decide ((p.2 - s * 4) % (4 * S) < r * 4)
include W in
theorem all_w {s r : Int} (hs : 0 ≤ s ∧ s < S) (hr : 1 ≤ r ∧ r ≤ S) : ∀ (k m i : Nat) (ys : List (Int × Int × Int)), i + k = pins.length → k < m → ys.length ≤ i →
    ∃ zs, ev_chime_run_all_l0 (loopStep (ev_slices_AppendSeq_Lchime_strike_chime_strike_r0 n)) n pins (4 * S) S m (i : Int) (4 * S) S 1 0 s r pins runs [(bell, 0)] (ys, 0) = some (zs, 0) ∧ zs.length = ys.length + (pins.drop i).countP (hitW S s r) := by
  have hS := W_S W;have hf := W.few;have e4 : Int.tdiv (4 * S) S = 4 := by rw [Int.tdiv_eq_ediv_of_nonneg (by omega), Int.mul_ediv_cancel _ (by omega)]
  intro k
  induction k with
  | zero =>
    intro m i ys hi hm hy;obtain ⟨m, rfl⟩ : ∃ m', m = m' + 1 := ⟨m - 1, by omega⟩;refine ⟨ys, ?_, by rw [List.drop_eq_nil_of_le (by omega)]; rfl⟩;rw [ev_chime_run_all_l0, cond_if, if_neg (by simp; omega)]
  | succ k ih =>
    intro m i ys hi hm hy;obtain ⟨m, rfl⟩ : ∃ m', m = m' + 1 := ⟨m - 1, by omega⟩;have hlt : i < pins.length := by omega
    obtain ⟨q1, q2, q3⟩ := W.pin _ (List.getElem_mem hlt);have hmod := modulo_w (n := n) (a := pins[i].2 - s * 4) (b := 4 * S) (by omega);have hm0 := Int.emod_nonneg (pins[i].2 - s * 4) (show 4 * S ≠ 0 by omega);have hm1 := Int.emod_lt_of_pos (pins[i].2 - s * 4) (show 0 < 4 * S by omega);rw [List.drop_eq_getElem_cons hlt, List.countP_cons];have ei : (i : Int) + 1 = ((i + 1 : Nat) : Int) := by omega
    by_cases hc : (pins[i].2 - s * 4) % (4 * S) < r * 4
    · obtain ⟨zs, h1, h2⟩ := ih m (i + 1) (ys ++ [((pins[i].2 - s * 4) % (4 * S), bell, pins[i].1)]) (by omega) (by omega) (by simp; omega);refine ⟨zs, ?_, ?_⟩
      · have hst : loopStep (ev_slices_AppendSeq_Lchime_strike_chime_strike_r0 n) ((pins[i].2 - s * 4) % (4 * S), bell, pins[i].1) (ys, 0) = some (true, (ys ++ [((pins[i].2 - s * 4) % (4 * S), bell, pins[i].1)], 0)) := by
          rw [loopStep_of (r := (0, ys ++ [((pins[i].2 - s * 4) % (4 * S), bell, pins[i].1)])) (by
            rw [ev_slices_AppendSeq_Lchime_strike_chime_strike_r0, chk_of (room_iff.2 (by simp; omega))])]
          rfl
        have hham : ev_chime_barrel_hammer n (4 * S) S runs 1 [(bell, 0)] pins pins[i].1 pins[i].2 = some (bell, 0) := by
          rw [ev_chime_barrel_hammer, chk_of (by decide), q1, chk_of (by decide), idx_of (x := (bell, 0)) (by decide) (by rfl)]
        rw [ev_chime_run_all_l0, cond_if, if_pos (decide_eq_true (by omega)), idx_nat (List.getElem?_eq_getElem hlt), e4, chk_of (in64_of (by omega)), chk_of (in64_of (by omega)), bind_of hmod, chk_of (by decide), cond_if, if_neg (by rw [q1]; decide), chk_of (in64_of (by omega)), cond_if, if_neg (by simpa using hc), ev_chime_run_all_j1, bind_of hham, bind_of hst, cond_if, if_neg (by simp), chk_of (in64_of (by omega)), ei];exact h1
      · have e : hitW S s r pins[i] = true := decide_eq_true hc;rw [h2, e]; simp; omega
    · obtain ⟨zs, h1, h2⟩ := ih m (i + 1) ys (by omega) (by omega) (by omega);refine ⟨zs, ?_, ?_⟩
      · rw [ev_chime_run_all_l0, cond_if, if_pos (decide_eq_true (by omega)), idx_nat (List.getElem?_eq_getElem hlt), e4, chk_of (in64_of (by omega)), chk_of (in64_of (by omega)), bind_of hmod, chk_of (by decide), cond_if, if_neg (by rw [q1]; decide), chk_of (in64_of (by omega)), cond_if, if_pos (by simpa using hc), chk_of (in64_of (by omega)), ei];exact h1
      · have e : hitW S s r pins[i] = false := decide_eq_false hc;rw [h2, e]; simp
include W hn in
theorem plays_w {k : Nat} (hk : k < 4) {s : Int} (hs : 0 ≤ s ∧ s < S) : ∃ l, ev_chime_Plays n (4 * S) S runs 1 [(bell, 0)] pins 0 (k : Int) s = some (l, 0) ∧ l.length = pins.countP (hitW S s (runs.getD k 0)) := by
  have hS := W_S W;have hl := W.len;have hf := W.few;have hr : 1 ≤ runs.getD k 0 ∧ runs.getD k 0 ≤ S := by
    have hg : runs.getD k 0 = runs[k] := by rw [List.getD_eq_getElem?_getD, List.getElem?_eq_getElem (by omega)]; rfl
    rw [hg];exact W.run _ (List.getElem_mem _)
  have e4 : Int.tdiv (4 * S) S = 4 := by rw [Int.tdiv_eq_ediv_of_nonneg (by omega), Int.mul_ediv_cancel _ (by omega)]
  obtain ⟨zs, h1, h2⟩ := all_w W (n := n) hs hr pins.length n 0 [] (by omega) (by omega) (by simp);rw [List.drop_zero] at h2;simp only [List.length_nil, Nat.zero_add] at h2;have hz : zs.length ≤ 20 := by rw [h2]; exact Nat.le_trans (List.countP_le_length) hf
  have hall : ev_chime_run_all (loopStep (ev_slices_AppendSeq_Lchime_strike_chime_strike_r0 n)) n (4 * S) S runs 1 [(bell, 0)] pins 0 s (runs.getD k 0) ([], 0) = some (zs, 0) := by
    rw [ev_chime_run_all, chk_of (by simp; omega), e4, chk_of (by decide)];exact h1
  have hsort : ev_slices_SortedFunc_chime_strike n (4 * S) S runs 1 [(bell, 0)] pins 0 s (runs.getD k 0) = some (pdqL cfCh zs) := by
    have hcol : ev_slices_Collect_chime_strike n (4 * S) S runs 1 [(bell, 0)] pins 0 s (runs.getD k 0) = some zs := by
      have happ : ev_slices_AppendSeq_Lchime_strike_chime_strike n [] (4 * S) S runs 1 [(bell, 0)] pins 0 s (runs.getD k 0) = some zs := by
        rw [ev_slices_AppendSeq_Lchime_strike_chime_strike, bind_of hall, cond_if, if_pos (by rfl)]
      rw [ev_slices_Collect_chime_strike, bind_of happ]
    have hsf : ev_slices_SortFunc_Lchime_strike_chime_strike_k n zs = some (pdqL cfCh zs) := by
      rw [ev_slices_SortFunc_Lchime_strike_chime_strike_k, chk_of (decide_eq_true (by omega))]
    rw [ev_slices_SortedFunc_chime_strike, bind_of hcol, bind_of hsf]
  have hlen : (pdqL cfCh zs).length = zs.length := (pdqL_perm swo_ch zs).length_eq;have hbl : ∀ (j m i : Nat) (acc : List (Int × Int)), i + j = (pdqL cfCh zs).length → j < m → acc.length = i → ∃ l, ev_chime_run_blows_l0 n (pdqL cfCh zs) m acc (i : Int) (pdqL cfCh zs) = some l ∧ l.length = (pdqL cfCh zs).length := by
    intro j
    induction j with
    | zero =>
      intro m i acc hi hm ha;obtain ⟨m, rfl⟩ : ∃ m', m = m' + 1 := ⟨m - 1, by omega⟩;exact ⟨acc, by rw [ev_chime_run_blows_l0, cond_if, if_neg (by simp; omega)], by omega⟩
    | succ j ih =>
      intro m i acc hi hm ha;obtain ⟨m, rfl⟩ : ∃ m', m = m' + 1 := ⟨m - 1, by omega⟩;have hlt : i < (pdqL cfCh zs).length := by omega
      obtain ⟨l, q1, q2⟩ := ih m (i + 1) (acc ++ [((pdqL cfCh zs)[i].1, (pdqL cfCh zs)[i].2.1)]) (by omega) (by omega) (by simp; omega);refine ⟨l, ?_, q2⟩;rw [ev_chime_run_blows_l0, cond_if, if_pos (decide_eq_true (by omega)), idx_nat (List.getElem?_eq_getElem hlt), chk_of (room_iff.2 (by simp; omega)), chk_of (in64_of (by omega)), show (i : Int) + 1 = ((i + 1 : Nat) : Int) by omega];exact q1
  obtain ⟨l, q1, q2⟩ := hbl (pdqL cfCh zs).length n 0 [] (by omega) (by omega) rfl;refine ⟨l, ?_, by rw [q2, hlen, h2]⟩;have hb : ev_chime_run_blows n (4 * S) S runs 1 [(bell, 0)] pins 0 s (runs.getD k 0) = some l := by
    rw [ev_chime_run_blows, bind_of hsort];exact q1
  rw [ev_chime_Plays, bind_of (newRun_w W hn hk hs), cond_if, if_neg (by simp), bind_of hb]
def gW (S : Int) (pins : List (Int × Int)) (x : Int) : Int := (pins.map fun p => (x + S - 1 - p.2 / 4) / S).sum
theorem hit_one {S c r a : Int} (hS : S = 1 ∨ S = 2 ∨ S = 3 ∨ S = 4 ∨ S = 6 ∨ S = 8) (hr : 1 ≤ r ∧ r ≤ S) (hc : 0 ≤ c) (ha : 0 ≤ a ∧ a < 4 * S) : (if (a - c % S * 4) % (4 * S) < r * 4 then (1 : Int) else 0) = (c + r + S - 1 - a / 4) / S - (c + S - 1 - a / 4) / S := by
  rcases hS with rfl | rfl | rfl | rfl | rfl | rfl <;> split <;> omega
theorem gW_count {S c r : Int} (hS : S = 1 ∨ S = 2 ∨ S = 3 ∨ S = 4 ∨ S = 6 ∨ S = 8) (hr : 1 ≤ r ∧ r ≤ S) (hc : 0 ≤ c) : ∀ {pins : List (Int × Int)}, (∀ p ∈ pins, 0 ≤ p.2 ∧ p.2 < 4 * S) → ((pins.countP (hitW S (c % S) r) : Nat) : Int) = gW S pins (c + r) - gW S pins c
  | [], _ => by simp [gW]
  | p :: l, h => by
    have ih := gW_count hS hr hc (pins := l) fun q hq => h q (by simp [hq])
    have h1 := hit_one hS hr hc (h p (by simp));rw [List.countP_cons];unfold gW at ih ⊢;simp only [List.map_cons, List.sum_cons];have e : (((if hitW S (c % S) r p = true then 1 else 0 : Nat)) : Int) = if (p.2 - c % S * 4) % (4 * S) < r * 4 then 1 else 0 := by
      unfold hitW
      by_cases hh : (p.2 - c % S * 4) % (4 * S) < r * 4 <;> simp [hh]
    rw [Int.natCast_add, e, ih, h1]
    omega
theorem gW_all {S R : Int} (hS : S = 1 ∨ S = 2 ∨ S = 3 ∨ S = 4 ∨ S = 6 ∨ S = 8) : ∀ {pins : List (Int × Int)}, (∀ p ∈ pins, 0 ≤ p.2 ∧ p.2 < 4 * S) → gW S pins (24 * R) = pins.length * (24 * R / S) ∧ gW S pins 0 = 0
  | [], _ => by simp [gW]
  | p :: l, h => by
    obtain ⟨i1, i2⟩ := gW_all (R := R) hS (pins := l) fun q hq => h q (by simp [hq])
    have hp := h p (by simp);have h1 : (24 * R + S - 1 - p.2 / 4) / S = 24 * R / S ∧ (0 + S - 1 - p.2 / 4) / S = 0 := by
      rcases hS with rfl | rfl | rfl | rfl | rfl | rfl <;> omega
    unfold gW at i1 i2 ⊢;simp only [List.map_cons, List.sum_cons, List.length_cons];rw [i1, i2, h1.1, h1.2, Int.natCast_add, Int.add_mul]
    omega
end
end Go.Proofs.Ytgkoldcmbcbbpaa.Sy
