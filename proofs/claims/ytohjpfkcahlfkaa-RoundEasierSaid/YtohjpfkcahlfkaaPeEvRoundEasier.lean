/- RoundEasier: with easier rules no best round takes longer, and no more winders are needed. -/
import Derived.Test.YtohjpfkcahlfkaaPeEvRoundEa
import Derived.Test.YtohjpfkcahlfkaaPeEvRoundI
import Derived.Test.YtohjpfkcahlfkaaPeGRoundEasier
set_option linter.unusedSimpArgs false
set_option linter.unusedVariables false
namespace Go.Proofs.Ytohjpfkcahlfkaa.Sy
open Go.RowKit
set_option maxRecDepth 100000
theorem part_le {a b : Int} (ha : 0 ≤ a) (hb : B8 b) : (0 ≤ a * b ∧ a * b ≤ a * 255) ∧ 0 ≤ Int.tdiv (a * b) 255 ∧ Int.tdiv (a * b) 255 ≤ a := by
  have h0 : 0 ≤ a * b := Int.mul_nonneg ha hb.1;have h1 : a * b ≤ a * 255 := Int.mul_le_mul_of_nonneg_left hb.2 ha;rw [Int.tdiv_eq_ediv_of_nonneg h0];refine ⟨⟨h0, h1⟩, ?_, ?_⟩ <;> omega
def WaOk (w w' : List (List Int)) : Prop := w'.length = w.length ∧ ∀ (j : Nat) (r : List Int), w[j]? = some r → ∃ r', w'[j]? = some r' ∧ r'.length = r.length ∧ ∀ (k : Nat) (v : Int), r[k]? = some v → ∃ v', r'[k]? = some v' ∧ 0 ≤ v' ∧ v' ≤ v
theorem WaOk.set {w w' : List (List Int)} (h : WaOk w w') {i k : Nat} {r' : List Int} {v' x : Int} (hr : w'[i]? = some r') (hv : r'[k]? = some v') (hx : 0 ≤ x ∧ x ≤ v') : WaOk w (w'.set i (r'.set k x)) := by
  refine ⟨by rw [List.length_set]; exact h.1, fun j r hj => ?_⟩;obtain ⟨r2, a1, a2, a3⟩ := h.2 j r hj
  by_cases e : i = j
  · subst e;obtain rfl := Option.some.inj (hr.symm.trans a1);have hlt := (List.getElem?_eq_some_iff.1 hr).1;refine ⟨r'.set k x, by rw [List.getElem?_set, if_pos rfl, if_pos hlt], by rw [List.length_set]; exact a2, fun q v hq => ?_⟩;obtain ⟨v2, b1, b2, b3⟩ := a3 q v hq
    by_cases e2 : k = q
    · subst e2;obtain rfl := Option.some.inj (hv.symm.trans b1);have hlt2 := (List.getElem?_eq_some_iff.1 hv).1;exact ⟨x, by rw [List.getElem?_set, if_pos rfl, if_pos hlt2], hx.1, by omega⟩
    · exact ⟨v2, by rw [List.getElem?_set, if_neg e2]; exact b1, b2, b3⟩
  · exact ⟨r2, by rw [List.getElem?_set, if_neg e]; exact a1, a2, a3⟩
def GaOk (g g' : List Wd) : Prop := g'.length = g.length ∧ ∀ (j : Nat) (wd : Wd), g[j]? = some wd → ∃ wd' : Wd, g'[j]? = some wd' ∧ EaW wd wd' ∧ (0 ≤ wd'.2.1 ∧ wd'.2.1 ≤ 8000) ∧ (1 ≤ wd'.2.2.1 ∧ wd'.2.2.1 ≤ 1440) ∧ (1 ≤ wd'.2.2.2 ∧ wd'.2.2.2 ≤ 1440)
theorem GaOk.set {g g' : List Wd} (h : GaOk g g') {i : Nat} {wd wd' : Wd} (hi : g[i]? = some wd) (he : EaW wd wd') (hb : (0 ≤ wd'.2.1 ∧ wd'.2.1 ≤ 8000) ∧ (1 ≤ wd'.2.2.1 ∧ wd'.2.2.1 ≤ 1440) ∧ (1 ≤ wd'.2.2.2 ∧ wd'.2.2.2 ≤ 1440)) : GaOk g (g'.set i wd') := by
  refine ⟨by rw [List.length_set]; exact h.1, fun j x hj => ?_⟩
  by_cases e : i = j
  · subst e;obtain rfl := Option.some.inj (hi.symm.trans hj);have hlt : i < g'.length := by rw [h.1]; exact (List.getElem?_eq_some_iff.1 hi).1
    exact ⟨wd', by rw [List.getElem?_set, if_pos rfl, if_pos hlt], he, hb⟩
  · obtain ⟨y, a1, a2⟩ := h.2 j x hj;exact ⟨y, by rw [List.getElem?_set, if_neg e]; exact a1, a2⟩
section
variable {N : Nat} {t : List Tw} {w : List (List Int)} {g : List Wd} {rest wage : Int}
theorem cop_ok (h : OkR t w g rest wage) : ev_law11_copied (N + 2200) t w g rest wage = some (t, w, g, rest, wage) := by
  have h1 := h.tn;have h2 := h.wn;have h3 := h.gn;exact copied_ev (by omega) (by omega) (fun d hd => by have := h.row d hd; omega) (by omega) (by omega)
theorem wa_rfl (h : OkR t w g rest wage) : WaOk w w := ⟨rfl, fun j r hj => ⟨r, hj, rfl, fun k v hk => ⟨v, hk, (h.way r (List.mem_of_getElem? hj) v (List.mem_of_getElem? hk)).1, Int.le_refl _⟩⟩⟩
theorem ga_rfl (h : OkR t w g rest wage) : GaOk g g := ⟨rfl, fun j wd hj => ⟨wd, hj, EaW.rfl wd, h.win wd (List.mem_of_getElem? hj)⟩⟩
variable (h : OkR t w g rest wage) {w' : List (List Int)} {g' : List Wd} {rest' : Int} (hw : WaOk w w') (hg : GaOk g g') (hr : 1 ≤ rest' ∧ rest' ≤ rest)
include h hw hg hr in
theorem ea_ok : OkR t w' g' rest' wage := by
  have h1 := h.gn;have h2 := h.wn;have h3 := h.rest;have hrow : ∀ r' ∈ w', ∃ (j : Nat) (r : List Int), w[j]? = some r ∧ w'[j]? = some r' ∧ r'.length = r.length ∧ ∀ (k : Nat) (v : Int), r[k]? = some v → ∃ v', r'[k]? = some v' ∧ 0 ≤ v' ∧ v' ≤ v := fun r' hr' => by
    obtain ⟨j, hj⟩ := List.getElem?_of_mem hr';have hlt := (List.getElem?_eq_some_iff.1 hj).1;have hlt2 : j < w.length := by rw [← hw.1]; exact hlt
    obtain ⟨r2, a1, a2, a3⟩ := hw.2 j w[j] (List.getElem?_eq_getElem hlt2);obtain rfl := Option.some.inj (hj.symm.trans a1);exact ⟨j, w[j], List.getElem?_eq_getElem hlt2, hj, a2, a3⟩
  refine ⟨h.tn, by rw [hg.1]; exact h1, by rw [hw.1]; exact h2, fun r' hr' => ?_, fun r' hr' x hx => ?_, fun i r' hi => ?_, h.tow, fun x hx => ?_, by omega, h.wage⟩
  · obtain ⟨j, r, a1, a2, a3, _⟩ := hrow r' hr';rw [a3]; exact h.row r (List.mem_of_getElem? a1)
  · obtain ⟨j, r, a1, a2, a3, a4⟩ := hrow r' hr';obtain ⟨k, hk⟩ := List.getElem?_of_mem hx;have hlt := (List.getElem?_eq_some_iff.1 hk).1;have hlt2 : k < r.length := by omega
    obtain ⟨v', b1, b2, b3⟩ := a4 k r[k] (List.getElem?_eq_getElem hlt2);obtain rfl := Option.some.inj (hk.symm.trans b1);have := (h.way r (List.mem_of_getElem? a1) _ (List.getElem_mem hlt2)).2
    omega
  · have hlt := (List.getElem?_eq_some_iff.1 hi).1;have hlt2 : i < w.length := by rw [← hw.1]; exact hlt
    obtain ⟨r2, a1, a2, a3⟩ := hw.2 i w[i] (List.getElem?_eq_getElem hlt2);obtain rfl := Option.some.inj (hi.symm.trans a1);obtain ⟨v', b1, b2, b3⟩ := a3 i 0 (h.diag i w[i] (List.getElem?_eq_getElem hlt2));rw [b1, show v' = 0 by omega]
  · obtain ⟨j, hj⟩ := List.getElem?_of_mem hx;have hlt := (List.getElem?_eq_some_iff.1 hj).1;have hlt2 : j < g.length := by rw [← hg.1]; exact hlt
    obtain ⟨y, a1, a2, a3⟩ := hg.2 j g[j] (List.getElem?_eq_getElem hlt2);obtain rfl := Option.some.inj (hj.symm.trans a1);exact a3
include h hw hg hr in
theorem ea_ea : Ea t w g rest w' g' rest' := by
  have h' := ea_ok h hw hg hr;refine ⟨fun a b ha hb => ?_, hr.2, hg.1, fun i wd hi => ?_⟩
  · obtain ⟨r, a1, a2, _⟩ := way_at h ha hb;obtain ⟨r', b1, b2, _⟩ := way_at h' ha hb;obtain ⟨r2, c1, c2, c3⟩ := hw.2 _ _ a1;obtain rfl := Option.some.inj (b1.symm.trans c1);obtain ⟨v', d1, d2, d3⟩ := c3 _ _ a2;have := Option.some.inj (b2.symm.trans d1)
    omega
  · obtain ⟨wd', a1, a2, _⟩ := hg.2 i wd hi;exact ⟨wd', a1, a2⟩
include h hw hg hr in
theorem easier_j5 {tw : List Int} (htw : towersP t.length tw = 0) : ev_law11_RoundEasier_j5 (N + 2200) rest wage tw rest' wage t w g t w' g' = some true := by
  have h' := ea_ok h hw hg hr;have he := ea_ea h hw hg hr;have hgn := h.gn;have htn := h.tn;obtain ⟨l5, lr, ln⟩ := towers_iff.1 htw;obtain ⟨wd, hwd⟩ : ∃ wd, g[(0 : Int).toNat]? = some wd := ⟨_, List.getElem?_eq_getElem (show 0 < g.length by omega)⟩;obtain ⟨wd', hwd', hew⟩ := he.win _ _ hwd;obtain ⟨res, e1, hb⟩ := best_ev (n := N + 2200) (by omega) h (x := 0) (by omega) hwd htw;obtain ⟨res', e2, hb'⟩ := best_ev (n := N + 2200) (by omega) h' (x := 0) (by rw [hg.1]; omega) hwd' htw;obtain ⟨s, e3, hs, _⟩ := fewest_ev h kLe_ok (n := N + 2200) (by omega) htw;obtain ⟨s', e4, hs', _⟩ := fewest_ev h' kLe_ok (n := N + 2200) (by omega) htw;have hi : ev_law11_ints (N + 2200) tw = some tw := ints_ev (by omega);have hbest : ∀ x, res = some x → ∃ y, res' = some y ∧ y.2 ≤ x.2 := fun x hx => by
    rw [hx] at hb;obtain ⟨l', m', q1, q2⟩ := best_dom h he (List.mem_of_getElem? hwd) hew hb hb';exact ⟨_, q1, q2⟩
  have hfew : ∀ x, s = some x → ∃ y, s' = some y ∧ y.1.length ≤ x.1.length := fun x hx => by
    rcases hs.1 with q | ⟨c, hc, q⟩
    · rw [hx] at q; cases q
    · obtain rfl := Option.some.inj (hx.symm.trans q);obtain ⟨ts, m, rfl, hc⟩ := hc;obtain ⟨ts', m', q1, q2⟩ := shc_dom h h' he (by decide) hc;obtain ⟨y, q3, q4⟩ := hs'.2.1 ([] ++ ts', 0 + m') ⟨ts', m', rfl, q2⟩;refine ⟨y, q3, ?_⟩;unfold kLe at q4;simp only [List.nil_append] at q4 ⊢
      omega
  rw [ev_law11_RoundEasier_j5, bind_of (cop_ok h), bind_of hi];dsimp only;rw [bind_of e1, bind_of (cop_ok h'), bind_of hi];dsimp only;rw [bind_of e2, bind_of (cop_ok h), bind_of hi];dsimp only;rw [bind_of e3, bind_of (cop_ok h'), bind_of hi];dsimp only;rw [bind_of e4]
  cases res with
  | none =>
    cases s with
    | none => simp [ev_law11_RoundEasier_j6, bestR, fewR, known11n]
    | some y =>
      obtain ⟨y', rfl, q⟩ := hfew _ rfl;simp [ev_law11_RoundEasier_j6, bestR, fewR, known11n, q]
  | some x =>
    obtain ⟨x', rfl, p⟩ := hbest _ rfl
    cases s with
    | none => simp [ev_law11_RoundEasier_j6, bestR, fewR, known11n, p]
    | some y =>
      obtain ⟨y', rfl, q⟩ := hfew _ rfl;simp [ev_law11_RoundEasier_j6, bestR, fewR, known11n, p, q]
end
section
variable {N : Nat} {t : List Tw} {w : List (List Int)} {g : List Wd} {rest wage : Int} (h : OkR t w g rest wage) {g' : List Wd} {rest' : Int} (hg : GaOk g g') (hr : 1 ≤ rest' ∧ rest' ≤ rest) {tw : List Int} (htw : towersP t.length tw = 0) {how7 how8 how9 : Int} (h8 : B8 how8) (h9 : B8 how9)
include h hg hr h8 h9 in
theorem easier_l4 {i : Nat} (hi : i < t.length + 1) {kk : Int → Int → Int → Int → Int → Int → (List Int) → Int → Int → (List (Int × Int × Int × Int × Int)) → (List ((List Int))) → (List (Int × Int × Int × Int)) → (List (Int × Int × Int × Int × Int)) → (List ((List Int))) → (List (Int × Int × Int × Int)) → Option Bool}
    (hk : ∀ w', WaOk w w' → kk ((i + 1 : Nat) : Int) how7 how8 how9 rest wage tw rest' wage t w g t w' g' = some true) :
    ∀ (k m c : Nat) (w' : List (List Int)), c + k = t.length + 1 → k < m → WaOk w w' → ev_law11_RoundEasier_l4 (N + 2200) (i : Int) kk m (c : Int) how7 how8 how9 rest wage tw rest' wage t w g t w' g' = some true := by
  have htn := h.tn;have hwn := h.wn;intro k
  induction k with
  | zero =>
    intro m c w' hc hm hw;obtain ⟨m, rfl⟩ : ∃ m', m = m' + 1 := ⟨m - 1, by omega⟩;have h' := ea_ok h hw hg hr;have hlt : i < w'.length := by rw [h'.wn]; exact hi
    have hrl := h'.row _ (List.getElem_mem hlt);rw [ev_law11_RoundEasier_l4, idx_nat (List.getElem?_eq_getElem hlt), cond_if, if_neg (by simp; omega), chk_of (in64_of (by omega))];exact hk w' hw
  | succ k ih =>
    intro m c w' hc hm hw;obtain ⟨m, rfl⟩ : ∃ m', m = m' + 1 := ⟨m - 1, by omega⟩;have h' := ea_ok h hw hg hr;have hlt : i < w'.length := by rw [h'.wn]; exact hi
    have hrl := h'.row _ (List.getElem_mem hlt);have hlt2 : c < w'[i].length := by omega
    have hv := h'.way _ (List.getElem_mem hlt) _ (List.getElem_mem hlt2);obtain ⟨b, e, hb⟩ := byteOf_ev (n := N + 2200) (l := [how8, how9, 255]) (fun x hx => by
      simp only [List.mem_cons, List.not_mem_nil, or_false] at hx;rcases hx with rfl | rfl | rfl
      · exact h8
      · exact h9
      · decide) (i := (i : Int) + 2 * (c : Int)) (by omega)
    obtain ⟨p1, p2⟩ := part_le hv.1 hb;rw [ev_law11_RoundEasier_l4, idx_nat (List.getElem?_eq_getElem hlt), cond_if, if_pos (decide_eq_true (by omega)), idx_nat (List.getElem?_eq_getElem hlt2), chk_of (in64_of (by omega)), chk_of (in64_of (by omega)), bind_of e, chk_of (in64_of (by omega)), chk_of (in64_of (by omega)), chk_of (in64_of (by omega)), Int.toNat_natCast, Int.toNat_natCast];exact ih m (c + 1) _ (by omega) (by omega) (hw.set (List.getElem?_eq_getElem hlt) (List.getElem?_eq_getElem hlt2) p2)
include h hg hr htw h8 h9 in
theorem easier_l2 : ∀ (k m i : Nat) (w' : List (List Int)), i + k = t.length + 1 → k < m → WaOk w w' → ev_law11_RoundEasier_l2 (N + 2200) m (i : Int) how7 how8 how9 rest wage tw rest' wage t w g t w' g' = some true := by
  have htn := h.tn;have hwn := h.wn;intro k
  induction k with
  | zero =>
    intro m i w' hi hm hw;obtain ⟨m, rfl⟩ : ∃ m', m = m' + 1 := ⟨m - 1, by omega⟩;have h1 := hw.1;rw [ev_law11_RoundEasier_l2, cond_if, if_neg (by simp; omega)];exact easier_j5 h hw hg hr htw
  | succ k ih =>
    intro m i w' hi hm hw;obtain ⟨m, rfl⟩ : ∃ m', m = m' + 1 := ⟨m - 1, by omega⟩;have h1 := hw.1;rw [ev_law11_RoundEasier_l2, cond_if, if_pos (decide_eq_true (by omega)), cond_if]
    split
    · rw [ev_law11_RoundEasier_j3];exact easier_l4 h hg hr h8 h9 (i := i) (by omega) (fun w' hw => ih m (i + 1) w' (by omega) (by omega) hw) (t.length + 1) (N + 2200) 0 w' (by omega) (by omega) hw
    · exact easier_j5 h hw hg hr htw
end
section
variable {N : Nat} {t : List Tw} {w : List (List Int)} {g : List Wd} {rest wage : Int} (h : OkQ (t, w, g, rest, wage)) {tw : List Int} (htw : towersP t.length tw = 0) {how7 how8 how9 : Int} (h8 : B8 how8) (h9 : B8 how9)
include h htw h8 h9 in
theorem easier_l0 : ∀ (k m i : Nat) (g' : List Wd), i + k = g.length → k < m → GaOk g g' → (∀ j, i ≤ j → g'[j]? = g[j]?) → ev_law11_RoundEasier_l0 (N + 2200) m (i : Int) how7 how8 how9 rest wage tw rest wage t w g t w g' = some true := by
  have hok := h.ok;simp only at hok;have htn := hok.tn;have hgn := hok.gn;have hrest := hok.rest;intro k
  induction k with
  | zero =>
    intro m i g' hi hm hg _;obtain ⟨m, rfl⟩ : ∃ m', m = m' + 1 := ⟨m - 1, by omega⟩;have h1 := hg.1;obtain ⟨p1, p2⟩ := part_le (a := rest - 1) (by omega) h8;have hgo : ∀ rest', 1 ≤ rest' ∧ rest' ≤ rest → ev_law11_RoundEasier_j1 (N + 2200) how7 how8 how9 rest wage tw rest' wage t w g t w g' = some true := fun rest' hr => by
      rw [ev_law11_RoundEasier_j1];exact easier_l2 hok hg hr htw h8 h9 (t.length + 1) (N + 2200) 0 w (by omega) (by omega) (wa_rfl hok)
    rw [ev_law11_RoundEasier_l0, cond_if, if_neg (by simp; omega), cond_if]
    split
    · rw [chk_of (in64_of (by omega)), chk_of (in64_of (by omega)), chk_of (in64_of (by omega)), chk_of (in64_of (by omega)), chk_of (in64_of (by omega))];exact hgo _ (by omega)
    · exact hgo _ (by omega)
  | succ k ih =>
    intro m i g' hi hm hg hsame;obtain ⟨m, rfl⟩ : ∃ m', m = m' + 1 := ⟨m - 1, by omega⟩;have h1 := hg.1;have hlt : i < g.length := by omega
    have hgi := List.getElem?_eq_getElem hlt;have hwin := h.win g[i] (List.getElem_mem hlt);simp only [WinOk] at hwin
    have hnext : ∀ wd', EaW g[i] wd' → (0 ≤ wd'.2.1 ∧ wd'.2.1 ≤ 8000) ∧ (1 ≤ wd'.2.2.1 ∧ wd'.2.2.1 ≤ 1440) ∧ (1 ≤ wd'.2.2.2 ∧ wd'.2.2.2 ≤ 1440) → ev_law11_RoundEasier_l0 (N + 2200) m ((i : Int) + 1) how7 how8 how9 rest wage tw rest wage t w g t w (g'.set i wd') = some true := fun wd' he hb =>
      ih m (i + 1) _ (by omega) (by omega) (hg.set hgi he hb) fun j hj => by
        rw [List.getElem?_set, if_neg (by omega)]; exact hsame j (by omega)
    rw [ev_law11_RoundEasier_l0, cond_if, if_pos (decide_eq_true (by omega)), idx_nat ((hsame i (Nat.le_refl _)).trans hgi), cond_if, Int.toNat_natCast]
    split
    · rw [chk_of (in64_of (by omega)), chk_of (in64_of (by omega)), chk_of (in64_of (by omega))];exact hnext _ ⟨fun _ h => h, Int.le_refl _, by dsimp only; omega, Int.le_refl _⟩ (by dsimp only; omega)
    · rw [cond_if]
      split
      · rw [chk_of (in64_of (by omega)), chk_of (in64_of (by omega)), chk_of (in64_of (by omega))];exact hnext _ ⟨fun _ h => h, Int.le_refl _, Int.le_refl _, by dsimp only; omega⟩ (by dsimp only; omega)
      · rw [cond_if]
        split
        · rw [chk_of (inK16_of (by omega)), chk_of (in64_of (by omega))];exact hnext _ ⟨fun q hq => keys_or q _ _ hq, Int.le_refl _, Int.le_refl _, Int.le_refl _⟩ (by dsimp only; omega)
        · rw [cond_if]
          split
          · rw [chk_of (in64_of (by omega)), chk_of (in64_of (by omega)), chk_of (in64_of (by omega))];exact hnext _ ⟨fun _ h => h, by dsimp only; omega, Int.le_refl _, Int.le_refl _⟩ (by dsimp only; omega)
          · rw [chk_of (in64_of (by omega))];exact ih m (i + 1) _ (by omega) (by omega) hg fun j hj => hsame j (by omega)
end
theorem roundEasier_evx {x1 : List (Int × Int × Int × Int × Int)} {x2 : List Int} {x3 : List (Int × Int × Int × Int)} {x4 : Int} {x5 : Int} {by_6 : List Int} {how7 : Int} {how8 : Int} {how9 : Int} (h0 : (x1.length ≤ maxLen ∧ ∀ el89 ∈ x1, (Lit.int .u8 el89.1).wf = true ∧ (Lit.int .u8 el89.2.1).wf = true ∧ (Lit.int .u8 el89.2.2.1).wf = true ∧ (Lit.int .u8 el89.2.2.2.1).wf = true ∧ (Lit.int .u8 el89.2.2.2.2).wf = true) ∧ (x2.length ≤ maxLen ∧ ∀ el5 ∈ x2, (Lit.int .u8 el5).wf = true) ∧ (x3.length ≤ maxLen ∧ ∀ el90 ∈ x3, (Lit.int .u8 el90.1).wf = true ∧ (Lit.int .u8 el90.2.1).wf = true ∧ (Lit.int .u8 el90.2.2.1).wf = true ∧ (Lit.int .u8 el90.2.2.2).wf = true) ∧ (Lit.int .u8 x4).wf = true ∧ (Lit.int .u8 x5).wf = true) (h1 : (by_6.length ≤ maxLen ∧ ∀ el5 ∈ by_6, (Lit.int .u8 el5).wf = true)) (h2 : (Lit.int .u8 how7).wf = true ∧ (Lit.int .u8 how8).wf = true ∧ (Lit.int .u8 how9).wf = true) :
    ∃ n, ev_law11_RoundEasier n x1 x2 x3 x4 x5 by_6 how7 how8 how9 = some true := by
  obtain ⟨⟨_, a1⟩, ⟨_, a2⟩, ⟨_, a3⟩, a4, a5⟩ := h0;obtain ⟨b1, b2⟩ := h1;rw [show maxLen = 9223372036854775807 from rfl] at b1;obtain ⟨r, hr, hq⟩ := rules_ev (n := by_6.length + 2200) (by omega) (x1 := x1) (x2 := x2) (x3 := x3) (fun y hy => by
    obtain ⟨b1, b2, b3, b4, b5⟩ := a1 y hy;exact ⟨wf8.1 b1, wf8.1 b2, wf8.1 b3, wf8.1 b4, wf8.1 b5⟩) (fun y hy => wf8.1 (a2 y hy)) (fun y hy => by
    obtain ⟨b1, b2, b3, b4⟩ := a3 y hy;exact ⟨wf8.1 b1, wf8.1 b2, wf8.1 b3, wf8.1 b4⟩) (wf8.1 a4) (wf8.1 a5)
  obtain ⟨t, w, g, rest, wage⟩ := r;have hok := hq.ok;simp only at hok;have ht := hok.tn;have hgn := hok.gn;obtain ⟨tw, hs, s1, s2, s3⟩ := some_ev (n := by_6.length + 2200) (t := t) (w := w) (g := g) (rest := rest) (wage := wage) (most := 4) ht (l := by_6) (fun x hx => wf8.1 (b2 x hx)) (by omega) b1 (by decide);have htw : towersP t.length tw = 0 := towers_iff.2 ⟨by omega, s2, s1⟩;refine ⟨by_6.length + 2200, ?_⟩;rw [ev_law11_RoundEasier, bind_of hr, bind_of hs, bind_of (cop_ok hok)];exact easier_l0 hq htw (wf8.1 h2.2.1) (wf8.1 h2.2.2) g.length (by_6.length + 2200) 0 g (by omega) (by omega) (ga_rfl hok) (fun _ _ => rfl)
end Go.Proofs.Ytohjpfkcahlfkaa.Sy
