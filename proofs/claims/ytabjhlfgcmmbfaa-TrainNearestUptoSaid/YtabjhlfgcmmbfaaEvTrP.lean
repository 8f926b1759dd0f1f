/- All trains with a ratio, in plain terms. -/
import Derived.Test.YtabjhlfgcmmbfaaEvLaw01
set_option linter.unusedSimpArgs false
set_option linter.unusedVariables false
namespace Go.Proofs.Ytabjhlfgcmmbfaa.Sy
open Go.RowKit
set_option maxRecDepth 100000

theorem chP_prod {k : Nat} {l w : List Int} (hk : k ≤ 4) (hl : ∀ x ∈ l, 6 ≤ x ∧ x ≤ 400) (hw : w ∈ chP k l) : (1 ≤ prodL w ∧ prodL w ≤ 25600000000) ∧ w.length = k ∧ ∀ x ∈ w, 1 ≤ x ∧ x ≤ 400 := by
  obtain ⟨h1, h2⟩ := mem_chP k l w hw
  have h0 : ∀ x ∈ w, 1 ≤ x ∧ x ≤ 400 := fun x hx => by have := hl x (h2 x hx); omega
  have h3 := prodL_bound w h0
  have h4 := pow5_le (i := w.length) (by omega)
  exact ⟨by omega, h1, h0⟩
/-- all trains with a ratio, as the reference tries them -/
def trW (P : List (List Int)) (r : Int × Int) (w : List Int) : List (List Int × List Int) := (P.filter fun p => lowP (prodL w) (prodL p) == r).map fun p => (w, p)
def trP (W P : List Int) (r : Int × Int) (k : Nat) : List (List Int × List Int) := (chP k W).flatMap (trW (chP k P) r)
/-- a ratio in lowest terms -/
structure Low (r : Int × Int) : Prop where
  pos : 1 ≤ r.1 ∧ 1 ≤ r.2
  one : Int.gcd r.1 r.2 = 1
theorem low_Low {a b : Int} (ha : 1 ≤ a) (hb : 1 ≤ b) : Low (lowP a b) := by
  obtain ⟨q1, q2, q3, q4⟩ := lowP_pos ha hb
  refine ⟨⟨q1, q3⟩, ?_⟩
  have hg := gcd_pos (b := b) ha
  exact Int.gcd_ediv_gcd_ediv_gcd (by omega)
theorem Low.self {r : Int × Int} (h : Low r) : lowP r.1 r.2 = r := by
  unfold lowP; rw [h.one]; simp
theorem low_iff {r : Int × Int} (h : Low r) {x y : Int} (hx : 1 ≤ x) (hy : 1 ≤ y) : lowP x y = r ↔ x % r.1 = 0 ∧ y = x / r.1 * r.2 := by
  have hr := h.pos
  obtain ⟨e1, e2⟩ := lowP_mul (a := x) (b := y) hx
  have hg := gcd_pos (a := x) (b := y) hx
  constructor
  · intro e
    rw [e] at e1 e2
    refine ⟨?_, ?_⟩
    · rw [← e1]; exact Int.mul_emod_right _ _
    · have : x / r.1 = (Int.gcd x y : Nat) := by rw [← e1]; rw [e1]; exact Int.ediv_eq_of_eq_mul_right (by omega) e1.symm
      rw [this, Int.mul_comm]; exact e2.symm
  · rintro ⟨h1, h2⟩
    have h3 : x = x / r.1 * r.1 := (Int.ediv_mul_cancel (Int.dvd_of_emod_eq_zero h1)).symm
    have hq : 1 ≤ x / r.1 := by
      have h4 : 0 ≤ x / r.1 := Int.ediv_nonneg (by omega) (by omega)
      rcases Int.lt_or_le 0 (x / r.1) with h5 | h5
      · omega
      · have : x / r.1 = 0 := by omega
        rw [this] at h3; omega
    rw [h2]
    have : lowP x (x / r.1 * r.2) = lowP (x / r.1 * r.1) (x / r.1 * r.2) := by rw [← h3]
    rw [this, lowP_scale hq hr.1, h.self]
theorem exact_tr {W P : List Int} {r : Int × Int} {k : Nat} (hk : k ≤ 4) (hr : Low r) (hW : ∀ x ∈ W, 6 ≤ x ∧ x ≤ 400) (hP : ∀ x ∈ P, 6 ≤ x ∧ x ≤ 400) : exactP W P r.1 r.2 k = trP W P r k := by
  unfold exactP trP
  refine flatMap_congr' fun w hw => ?_
  unfold trW
  obtain ⟨w1, _, _⟩ := chP_prod hk hW hw
  have hf : ∀ p ∈ chP k P, (lowP (prodL w) (prodL p) == r) = (decide (prodL w % r.1 = 0) && (prodL p == prodL w / r.1 * r.2)) := fun p hp => by
    obtain ⟨p1, _, _⟩ := chP_prod hk hP hp
    rw [Bool.eq_iff_iff, beq_iff_eq, Bool.and_eq_true, decide_eq_true_eq, beq_iff_eq]
    exact low_iff hr w1.1 p1.1
  rw [List.filter_congr hf]
  by_cases h : prodL w % r.1 = 0
  · rw [if_pos h]; simp [h]
  · rw [if_neg h]; simp [h]
/-- the reference's fewest -/
def fewR (W P : List Int) (r : Int × Int) : Nat → Nat → List (List Int × List Int)
  | 0, _ => []
  | d + 1, k => if 0 < (trP W P r k).length then trP W P r k else fewR W P r d (k + 1)
theorem few_eq {W P : List Int} {r : Int × Int} (hr : Low r) (hW : ∀ x ∈ W, 6 ≤ x ∧ x ≤ 400) (hP : ∀ x ∈ P, 6 ≤ x ∧ x ≤ 400) : ∀ (d i : Nat), i + d = 4 → fewG W P r d i = if (fewR W P r d (i + 1)).length = 0 then ([], 7) else if 2000 < (fewR W P r d (i + 1)).length then ([], 5) else (fewR W P r d (i + 1), 0) := by
  intro d
  induction d with
  | zero => intro i _; rfl
  | succ d ih =>
    intro i hi
    rw [fewG, fewR, exact_tr (by omega) hr hW hP]
    by_cases h : 0 < (trP W P r (i + 1)).length
    · simp only [if_pos h]
      rw [if_neg (show ¬ (trP W P r (i + 1)).length = 0 by omega)]
    · rw [if_neg h, if_neg (by omega), if_neg h]
      exact ih (i + 1) (by omega)
theorem fewR_mem {W P : List Int} {r : Int × Int} : ∀ (d k : Nat), k + d = 5 → ∀ x ∈ fewR W P r d k, ∃ q, k ≤ q ∧ q ≤ 4 ∧ x ∈ trP W P r q := by
  intro d
  induction d with
  | zero => intro k _ x hx; simp [fewR] at hx
  | succ d ih =>
    intro k hk x hx
    rw [fewR] at hx
    split at hx
    · exact ⟨k, Nat.le_refl _, by omega, hx⟩
    · obtain ⟨q, h1, h2, h3⟩ := ih (k + 1) (by omega) x hx
      exact ⟨q, by omega, h2, h3⟩
theorem mem_trP {W P : List Int} {r : Int × Int} {k : Nat} {x : List Int × List Int} : x ∈ trP W P r k ↔ x.1 ∈ chP k W ∧ x.2 ∈ chP k P ∧ lowP (prodL x.1) (prodL x.2) = r := by
  unfold trP trW
  rw [List.mem_flatMap]
  constructor
  · rintro ⟨w, hw, h⟩
    obtain ⟨p, hp, rfl⟩ := List.mem_map.1 h
    rw [List.mem_filter, beq_iff_eq] at hp
    exact ⟨hw, hp.1, hp.2⟩
  · rintro ⟨h1, h2, h3⟩
    exact ⟨x.1, h1, List.mem_map.2 ⟨x.2, List.mem_filter.2 ⟨h2, by simpa using h3⟩, rfl⟩⟩
end Go.Proofs.Ytabjhlfgcmmbfaa.Sy
