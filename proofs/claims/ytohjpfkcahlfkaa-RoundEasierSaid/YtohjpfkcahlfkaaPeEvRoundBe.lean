/- Rounds: the towers of a round as a set; what Best answers. -/
import Derived.Test.YtohjpfkcahlfkaaPeEvRoundB
set_option linter.unusedSimpArgs false
set_option linter.unusedVariables false
namespace Go.Proofs.Ytohjpfkcahlfkaa.Sy
open Go.RowKit
set_option maxRecDepth 100000
def setP (s : Int) : List Int → Int
  | [] => s
  | x :: l => setP (withP s x) l
theorem setP_ok : ∀ (l : List Int) (s : Int), (0 ≤ s ∧ s < 256) → (∀ x ∈ l, 0 ≤ x ∧ x < 8) → 0 ≤ setP s l ∧ setP s l < 256
  | [], s, hs, _ => hs
  | x :: l, s, hs, hl => setP_ok l _ (with_ev (n := 0) hs (hl x (by simp))).2 fun y hy => hl y (by simp [hy])
def twiceB (s : Int) : List Int → Bool
  | [] => false
  | x :: l => hasP s x || twiceB (withP s x) l
theorem twice_iff : ∀ (l : List Int) (s : Int), (∀ x ∈ l, 0 ≤ x) → (twiceB s l = false ↔ l.Nodup ∧ ∀ x ∈ l, hasP s x = false)
  | [], s, _ => by simp [twiceB]
  | x :: l, s, hl => by
    have h0 := hl x (by simp);rw [twiceB, Bool.or_eq_false_iff, twice_iff l _ fun y hy => hl y (by simp [hy]), List.nodup_cons]
    constructor
    · rintro ⟨h1, h2, h3⟩
      refine ⟨⟨fun hx => ?_, h2⟩, fun y hy => ?_⟩
      · have := h3 x hx;rw [has_with h0 h0] at this;simp at this
      · rcases List.mem_cons.1 hy with rfl | hy
        · exact h1
        · have := h3 y hy;rw [has_with h0 (hl y (by simp [hy])), Bool.or_eq_false_iff] at this;exact this.2
    · rintro ⟨⟨h1, h2⟩, h3⟩
      refine ⟨h3 x (by simp), h2, fun y hy => ?_⟩;rw [has_with h0 (hl y (by simp [hy])), Bool.or_eq_false_iff];refine ⟨?_, h3 y (by simp [hy])⟩;rw [decide_eq_false_iff_not]
      rintro rfl
      exact h1 hy
def inB (k : Nat) (l : List Int) : Bool := l.all fun z => decide ((0 : Int) ≤ z) && decide (z ≤ (k : Int) - 1)
def towersP (k : Nat) (l : List Int) : Int := if 5 < l.length then 5 else if inB k l = true then (if twiceB 0 l = true then 6 else 0) else 2
theorem inB_iff {k : Nat} {l : List Int} : inB k l = true ↔ ∀ x ∈ l, 0 ≤ x ∧ x < k := by
  rw [inB, List.all_eq_true]
  constructor
  · intro h x hx; have := h x hx; simp at this; omega
  · intro h x hx; have := h x hx; simp; omega
theorem towers_iff {k : Nat} {l : List Int} : towersP k l = 0 ↔ l.length ≤ 5 ∧ (∀ x ∈ l, 0 ≤ x ∧ x < k) ∧ l.Nodup := by
  unfold towersP
  by_cases h1 : 5 < l.length
  · rw [if_pos h1]; constructor
    · intro h; cases h
    · rintro ⟨h, _⟩; omega
  · rw [if_neg h1]
    by_cases h2 : inB k l = true
    · have h2' := inB_iff.1 h2;have h3 := twice_iff l 0 fun x hx => (h2' x hx).1
      rw [if_pos h2]
      by_cases h4 : twiceB 0 l = true
      · rw [if_pos h4]; constructor
        · intro h; cases h
        · rintro ⟨_, _, h⟩
          have := h3.2 ⟨h, fun x _ => hasP_zero x⟩;rw [h4] at this; cases this
      · rw [if_neg h4];exact ⟨fun _ => ⟨by omega, h2', (h3.1 (by simpa using h4)).1⟩, fun _ => rfl⟩
    · rw [if_neg h2]; constructor
      · intro h; cases h
      · rintro ⟨_, h, _⟩; exact absurd (inB_iff.2 h) h2
theorem checkTowers_ev {n : Nat} (hn : 100 < n) {t : List Tw} {w : List (List Int)} {g : List Wd} {rest wage : Int} (ht : t.length ≤ 8) {l : List Int} (hl : l.length ≤ 1000000) :
    ev_round_checkTowers n t w g rest wage l = some (if towersP t.length l = 0 then setP 0 l else 0, towersP t.length l) := by
  have key : (∀ x ∈ l, 0 ≤ x ∧ x < 8) → l.length ≤ 5 → ∀ (k m i : Nat) (s : Int), i + k = l.length → k < m → (0 ≤ s ∧ s < 256) → ev_round_checkTowers_l0 n l m s (i : Int) = some (if twiceB s (l.drop i) = true then (0, 6) else (setP s (l.drop i), 0)) := by
    intro hr h5 k
    induction k with
    | zero =>
      intro m i s hi hm hs;obtain ⟨m, rfl⟩ : ∃ m', m = m' + 1 := ⟨m - 1, by omega⟩;rw [ev_round_checkTowers_l0, cond_if, if_neg (by simp; omega), List.drop_eq_nil_of_le (by omega)]
      rfl
    | succ k ih =>
      intro m i s hi hm hs;obtain ⟨m, rfl⟩ : ∃ m', m = m' + 1 := ⟨m - 1, by omega⟩;have hlt : i < l.length := by omega
      have hx := hr _ (List.getElem_mem hlt);obtain ⟨e, e2⟩ := with_ev (n := n) hs hx;rw [ev_round_checkTowers_l0, cond_if, if_pos (decide_eq_true (by omega)), idx_nat (List.getElem?_eq_getElem hlt), bind_of (has_ev hs hx), cond_if, List.drop_eq_getElem_cons hlt, twiceB, setP]
      by_cases h1 : hasP s l[i] = true
      · rw [if_pos h1, h1]; rfl
      · rw [if_neg h1, bind_of e, chk_of (in64_of (by omega)), show hasP s l[i] = false by simpa using h1, Bool.false_or];exact ih m (i + 1) _ (by omega) (by omega) e2
  rw [ev_round_checkTowers, cond_if, towersP]
  by_cases h1 : 5 < l.length
  · rw [if_pos (decide_eq_true (by omega)), if_pos h1, if_neg (by decide)]
  · rw [if_neg (by simp; omega), if_neg h1, chk_of (in64_of (by omega)), bind_of (wi_round (by omega) (by omega)), cond_if]
    by_cases h2 : inB t.length l = true
    · have h2' := inB_iff.1 h2;have := key (fun x hx => by have := h2' x hx; omega) (by omega) l.length n 0 0 (by omega) (by omega) (by decide);rw [List.drop_zero, show ((0 : Nat) : Int) = 0 from rfl] at this;rw [if_neg (by rw [inB] at h2; rw [h2]; simp), if_pos h2, this]
      by_cases h3 : twiceB 0 l = true
      · rw [if_pos h3, if_pos h3, if_neg (by decide)]
      · rw [if_neg h3, if_neg h3, if_pos rfl]
    · rw [if_pos (by rw [inB] at h2; simpa using h2), if_neg h2, if_neg (by decide)]
theorem free0 : freeP 0 = 8 := by decide
theorem begin_meas (t : List Tw) : measP (beginP t) false = 17 := by
  unfold measP;rw [show (beginP t).wo = 0 from rfl, free0]
  rfl
def bestR : Bo → List Int × Int × Int
  | none => ([], 0, 7)
  | some x => (x.1, x.2, 0)
theorem best_ev {n : Nat} (hn : 2000 < n) {t : List Tw} {w : List (List Int)} {g : List Wd} {rest wage : Int} (h : OkR t w g rest wage) {x : Int} {wd : Wd} (hx : 0 ≤ x ∧ x < g.length) (hwd : g[x.toNat]? = some wd) {l : List Int} (hl : towersP t.length l = 0) :
    ∃ res, ev_round_Best n t w g rest wage x l = some (bestR res) ∧ Bst (fun s m => candP t w rest wd (setP 0 l) false (beginP t) s m) res := by
  have ht := h.tn;have hg := h.gn;obtain ⟨l5, lr, ln⟩ := towers_iff.1 hl;obtain ⟨wd', hwd', hm, hs⟩ := start_ev (t := t) (w := w) (rest := rest) (wage := wage) (n := n) hx;obtain rfl : wd = wd' := Option.some.inj (hwd.symm.trans hwd');have hgoal := setP_ok l 0 (by decide) fun x hx => by have := lr x hx; omega
  have hct := checkTowers_ev (n := n) (by omega) (t := t) (w := w) (g := g) (rest := rest) (wage := wage) (by omega) (l := l) (by omega);rw [if_pos hl, hl] at hct;obtain ⟨res, e, x1⟩ := try_ok h hm hgoal n (beginP t) false [] (by
    have e := begin_meas t
    omega) begin_ok (.inl ⟨rfl, rfl⟩) (by
    have e := begin_meas t;rw [e]; decide) none
  refine ⟨res, ?_, x1.bst.congr fun s m => ⟨?_, fun hc => ⟨s, rfl, hc⟩⟩⟩
  · rw [ev_round_Best, bind_of (check_ev (by omega) h), cond_if, if_neg (by simp), bind_of (isNumber_ev (by omega) (by omega)), cond_if, if_neg (by simp; omega), bind_of hct, cond_if, if_neg (by simp), bind_of hs];refine (bind_of e).trans ?_
    cases res with
    | none => rfl
    | some a => rfl
  · rintro ⟨s', rfl, hc⟩; exact hc
end Go.Proofs.Ytohjpfkcahlfkaa.Sy
