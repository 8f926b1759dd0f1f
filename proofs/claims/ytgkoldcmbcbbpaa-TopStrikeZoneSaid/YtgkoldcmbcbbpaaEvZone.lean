/- What a town's clocks say, in plain terms. -/
import Derived.Test.YtgkoldcmbcbbpaaGZone
import Derived.Test.YtgkoldcmbcbbpaaSpZone
import Derived.Test.YtgkoldcmbcbbpaaEvSort
set_option linter.unusedSimpArgs false
set_option linter.unusedVariables false
namespace Go.Proofs.Ytgkoldcmbcbbpaa.Sy
open Go.RowKit
set_option maxRecDepth 100000

theorem tmod_add_emod {a b : Int} (hb : 1 ≤ b) : 0 ≤ Int.tmod a b + b ∧ Int.tmod a b + b ≤ 2 * b ∧ Int.tmod (Int.tmod a b + b) b = a % b := by
  have h1 := Int.tmod_lt_of_pos a (show 0 < b by omega)
  have h2 : -b < Int.tmod a b := by
    have := Int.tmod_lt_of_pos (-a) (show 0 < b by omega)
    rw [Int.neg_tmod] at this; omega
  have h3 : a % b = (Int.tmod a b + b) % b := by
    rw [Int.add_emod_right, show Int.tmod a b = a - b * Int.tdiv a b by have := Int.mul_tdiv_add_tmod a b; omega, Int.sub_mul_emod_self_left]
  exact ⟨by omega, by omega, by rw [Int.tmod_eq_emod_of_nonneg (by omega), ← h3]⟩
theorem ev_zmodulo {n : Nat} {a b : Int} (hb : 1 ≤ b ∧ b ≤ 100000000) : ev_zone_modulo n a b = some (a % b) := by
  obtain ⟨h1, h2, h3⟩ := tmod_add_emod (a := a) hb.1
  rw [ev_zone_modulo, chk_of (by simp; omega), chk_of (in64_of (by omega)), chk_of (by simp; omega), h3]
structure OkZ (t : Int) (l : List (Int × Int)) : Prop where
  ok : ∀ c ∈ l, t < c.1 ∧ c.1 ≤ 10000000 ∧ -43200 ≤ c.2 ∧ c.2 ≤ 43200
  asc : l.Pairwise fun a b => a.1 < b.1
  len : l.length ≤ 6
/-- the offset that counts at an instant -/
def offP : Int → List (Int × Int) → Int → Int
  | o, [], _ => o
  | o, c :: cs, t => if c.1 ≤ t then offP c.2 cs t else o
theorem offP_range : ∀ (l : List (Int × Int)) (o t : Int), (-43200 ≤ o ∧ o ≤ 43200) → (∀ c ∈ l, -43200 ≤ c.2 ∧ c.2 ≤ 43200) → -43200 ≤ offP o l t ∧ offP o l t ≤ 43200 := by
  intro l
  induction l with
  | nil => intro o t h _; exact h
  | cons c cs ih =>
    intro o t h hl
    simp only [offP]
    split
    · exact ih c.2 t (hl c List.mem_cons_self) fun z hz => hl z (List.mem_cons_of_mem _ hz)
    · exact h
theorem ev_isOffset {n : Nat} (hn : 2 < n) {o : Int} (h : -43200 ≤ o ∧ o ≤ 43200) : ev_zone_isOffset n o = some true := by
  rw [ev_zone_isOffset, bind_of (wi1_zone (by omega))]; congr 1; simp; omega
theorem ev_zCheck {n : Nat} (hn : 20 < n) {o : Int} (ho : -43200 ≤ o ∧ o ≤ 43200) {l : List (Int × Int)} (h : OkZ 0 l) : ev_zone_Check n o l = some 0 := by
  have hlen := h.len
  have key : ∀ (k m i : Nat) (b : Int), i + k = l.length → k < m → 0 ≤ b → b ≤ 10000000 → (∀ c, l[i]? = some c → b < c.1) → ev_zone_Check_l0 n l m b (i : Int) o l = some 0 := by
    intro k
    induction k with
    | zero =>
      intro m i b hi hm h0 h1 hb
      cases m with
      | zero => omega
      | succ m => rw [ev_zone_Check_l0, cond_if, if_neg (by simp; omega), bind_of (ev_isOffset (by omega) ho), cond_if, if_neg (by simp), cond_if, if_neg (by simp; omega)]
    | succ k ih =>
      intro m i b hi hm h0 h1 hb
      cases m with
      | zero => omega
      | succ m =>
        have hlt : i < l.length := by omega
        obtain ⟨c, hc⟩ : ∃ c, c = l[i] := ⟨_, rfl⟩
        have hget : l[i]? = some c := by rw [hc, List.getElem?_eq_getElem hlt]
        obtain ⟨g1, g2, g3, g4⟩ := h.ok c (List.mem_of_getElem? hget)
        have g5 := hb c hget
        rw [ev_zone_Check_l0, cond_if, if_pos (by simp; omega), idx_nat hget, chk_of (in64_of (by omega)), bind_of (wi1_zone (by omega)), cond_if, if_neg (by simp; omega), bind_of (ev_isOffset (by omega) ⟨g3, g4⟩), cond_if, if_neg (by simp), chk_of (in64_of (by omega))]
        exact ih m (i + 1) c.1 (by omega) (by omega) (by omega) (by omega) (fun c' hc' => by
          obtain ⟨hl2, rfl⟩ := List.getElem?_eq_some_iff.1 hc'
          rw [hc]
          exact List.pairwise_iff_getElem.1 h.asc i (i + 1) hlt hl2 (by omega))
  have := key l.length n 0 0 (by omega) (by omega) (by omega) (by omega) (fun c hc => (h.ok c (List.mem_of_getElem? hc)).1)
  rw [ev_zone_Check]; exact this
theorem ev_eras {n : Nat} (hn : 2 < n) {t : Int} (ht : 0 ≤ t ∧ t ≤ 10000000) {l : List (Int × Int)} (hlen : l.length ≤ 6) (hr : ∀ c ∈ l, 0 < c.1 ∧ c.1 ≤ 10000000 ∧ -43200 ≤ c.2 ∧ c.2 ≤ 43200) (hasc : l.Pairwise fun a b => a.1 < b.1) : ∀ (k m i : Nat) (low hi o : Int) (y : Int × Int × Int), i + k = l.length → k < m → 0 ≤ low → (∀ c, l[i]? = some c → low < c.1) →
    ∃ y' : Int × Int × Int, ev_zone_town_eras_l0 (loopStep (ev_zone_town_at_r0 n t)) n l m (i : Int) low hi o l (y, 0) = some (y', 0) ∧ (low ≤ t → y'.2.2 = offP o (l.drop i) t) ∧ (t < low → y' = y) := by
  have hstep : ∀ (a b o : Int) (y : Int × Int × Int), loopStep (ev_zone_town_at_r0 n t) (a, b, o) (y, 0) = some (true, (if a ≤ t ∧ t ≤ b then (a, b, o) else y), 0) := fun a b o y => by
    rw [loopStep_of (r := (0, if a ≤ t ∧ t ≤ b then (a, b, o) else y)) (by
      rw [ev_zone_town_at_r0, bind_of (wi1_zone (by omega)), cond_if]
      by_cases h : a ≤ t ∧ t ≤ b
      · rw [if_pos (by simp; omega), if_pos h]
      · rw [if_neg (by simp; omega), if_neg h])]
    rfl
  intro k
  induction k with
  | zero =>
    intro m i low hi o y hik hm h0 hlo
    cases m with
    | zero => omega
    | succ m =>
      rw [ev_zone_town_eras_l0, cond_if, if_neg (by simp; omega), bind_of (hstep _ _ _ _), List.drop_eq_nil_of_le (by omega)]
      refine ⟨_, rfl, fun h => ?_, fun h => ?_⟩
      · rw [if_pos (by omega)]; rfl
      · rw [if_neg (by omega)]
  | succ k ih =>
    intro m i low hi o y hik hm h0 hlo
    cases m with
    | zero => omega
    | succ m =>
      have hlt : i < l.length := by omega
      obtain ⟨c, hc⟩ : ∃ c, c = l[i] := ⟨_, rfl⟩
      have hget : l[i]? = some c := by rw [hc, List.getElem?_eq_getElem hlt]
      obtain ⟨g1, g2, g3, g4⟩ := hr c (List.mem_of_getElem? hget)
      have g5 := hlo c hget
      obtain ⟨y', h1, h2, h3⟩ := ih m (i + 1) c.1 0 c.2 (if low ≤ t ∧ t ≤ c.1 - 1 then (low, c.1 - 1, o) else y) (by omega) (by omega) (by omega) (fun c' hc' => by
        obtain ⟨hl2, rfl⟩ := List.getElem?_eq_some_iff.1 hc'
        rw [hc]
        exact List.pairwise_iff_getElem.1 hasc i (i + 1) hlt hl2 (by omega))
      refine ⟨y', ?_, fun h => ?_, fun h => ?_⟩
      · rw [ev_zone_town_eras_l0, cond_if, if_pos (by simp; omega), idx_nat hget, chk_of (in64_of (by omega)), bind_of (hstep _ _ _ _), cond_if, if_neg (by simp), chk_of (in64_of (by omega))]
        exact h1
      · rw [List.drop_eq_getElem_cons hlt, ← hc]
        simp only [offP]
        by_cases hct : c.1 ≤ t
        · rw [if_pos hct]; exact h2 hct
        · rw [if_neg hct, h3 (by omega), if_pos (by omega)]
      · rw [h3 (by omega), if_neg (by omega)]
theorem ev_zSaysD {n : Nat} (hn : 20 < n) {o : Int} (ho : -43200 ≤ o ∧ o ≤ 43200) {l : List (Int × Int)} (h : OkZ 0 l) {t : Int} (ht : 0 ≤ t ∧ t ≤ 10000000) : ∃ d, ev_zone_Says n o l t = some (d, (t + offP o l t) % 86400, 0) ∧ d * 86400 + (t + offP o l t) % 86400 = t + offP o l t := by
  obtain ⟨y', h1, h2, _⟩ := ev_eras (n := n) (by omega) ht h.len h.ok h.asc l.length n 0 0 0 o (0, 0, 0) (by omega) (by have := h.len; omega) (by omega) (fun c hc => (h.ok c (List.mem_of_getElem? hc)).1)
  have hy := h2 ht.1
  simp only [List.drop_zero] at hy
  have hr := offP_range l o t ho fun c hc => (h.ok c hc).2.2
  have hat : ev_zone_town_at n o l t = some (y'.1, y'.2.1, y'.2.2) := by
    have h1' : ev_zone_town_eras (loopStep (ev_zone_town_at_r0 n t)) n o l ((0, 0, 0), 0) = some (y', 0) := h1
    rw [ev_zone_town_at, bind_of h1', cond_if, if_pos (by rfl)]
  have hsay : ev_zone_era_says n y'.1 y'.2.1 y'.2.2 t = some (t + offP o l t) := by
    rw [ev_zone_era_says, hy, chk_of (in64_of (by omega))]
  have m0 := Int.emod_nonneg (t + offP o l t) (show (86400 : Int) ≠ 0 by decide)
  have m1 := Int.emod_lt_of_pos (t + offP o l t) (show (0 : Int) < 86400 by decide)
  have hdv : -20000000 ≤ Int.tdiv (t + offP o l t - (t + offP o l t) % 86400) 86400 ∧ Int.tdiv (t + offP o l t - (t + offP o l t) % 86400) 86400 ≤ 20000000 := by
    have : (Int.tdiv (t + offP o l t - (t + offP o l t) % 86400) 86400).natAbs ≤ (t + offP o l t - (t + offP o l t) % 86400).natAbs := by rw [Int.natAbs_tdiv]; exact Nat.div_le_self _ _
    omega
  have hdown : ev_zone_down n (t + offP o l t) 86400 = some (Int.tdiv (t + offP o l t - (t + offP o l t) % 86400) 86400) := by
    rw [ev_zone_down, bind_of (ev_zmodulo (by decide)), chk_of (in64_of (by omega)), chk_of (by decide), chk_of (in64_of (by omega))]
  have hmul : Int.tdiv (t + offP o l t - (t + offP o l t) % 86400) 86400 * 86400 + (t + offP o l t) % 86400 = t + offP o l t := by
    have e : t + offP o l t - (t + offP o l t) % 86400 = (t + offP o l t) / 86400 * 86400 := by omega
    rw [e, Int.mul_tdiv_cancel _ (by decide)]; omega
  refine ⟨Int.tdiv (t + offP o l t - (t + offP o l t) % 86400) 86400, ?_, hmul⟩
  rw [ev_zone_Says, bind_of (ev_zCheck hn ho h), cond_if, if_neg (by simp), bind_of (wi1_zone (by omega)), cond_if, if_neg (by simp; omega), bind_of hat, bind_of hsay, bind_of hdown, bind_of (ev_zmodulo (by decide))]
theorem ev_zSays {n : Nat} (hn : 20 < n) {o : Int} (ho : -43200 ≤ o ∧ o ≤ 43200) {l : List (Int × Int)} (h : OkZ 0 l) {t : Int} (ht : 0 ≤ t ∧ t ≤ 10000000) : ∃ d, ev_zone_Says n o l t = some (d, (t + offP o l t) % 86400, 0) := by
  obtain ⟨d, hd, _⟩ := ev_zSaysD hn ho h ht
  exact ⟨d, hd⟩
end Go.Proofs.Ytgkoldcmbcbbpaa.Sy
