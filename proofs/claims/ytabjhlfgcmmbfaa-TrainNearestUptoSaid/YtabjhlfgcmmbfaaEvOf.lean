/- Trains that are looked at by the laws, and what the fewest are. -/
import Derived.Test.YtabjhlfgcmmbfaaEvMade
import Derived.Test.YtabjhlfgcmmbfaaEvKnownN
set_option linter.unusedSimpArgs false
set_option linter.unusedVariables false
namespace Go.Proofs.Ytabjhlfgcmmbfaa.Sy
open Go.RowKit
set_option maxRecDepth 100000

theorem law_equal {n : Nat} {a1 a2 b1 b2 : List Int} (hn : 10 < n) (h : a1.length = a2.length) (hl : a1.length ≤ 4) : ev_law01_equal n a1 a2 b1 b2 = some (decide (a1 = b1 ∧ a2 = b2)) := by
  rw [ev_law01_equal, cond_if]
  by_cases h1 : a1.length = b1.length
  · rw [if_neg (by simp [h1]), cond_if]
    by_cases h2 : a2.length = b2.length
    · rw [if_neg (by simp [h2]), cond_if, if_neg (by simp [h]), ev_law01_equal_j0]
      have key : ∀ (d m i : Nat), i + d = a1.length → d < m → ev_law01_equal_l1 n a1 b1 a2 b2 m (i : Int) = some (decide (a1.drop i = b1.drop i ∧ a2.drop i = b2.drop i)) := by
        intro d
        induction d with
        | zero =>
          intro m i hi hm
          obtain ⟨m, rfl⟩ : ∃ m', m = m' + 1 := ⟨m - 1, by omega⟩
          rw [ev_law01_equal_l1, cond_if, if_neg (by simp; omega), List.drop_eq_nil_of_le (by omega), List.drop_eq_nil_of_le (by omega), List.drop_eq_nil_of_le (by omega), List.drop_eq_nil_of_le (by omega)]; rfl
        | succ d ih =>
          intro m i hi hm
          obtain ⟨m, rfl⟩ : ∃ m', m = m' + 1 := ⟨m - 1, by omega⟩
          have q1 : i < a1.length := by omega
          have q2 : i < a2.length := by omega
          have q3 : i < b1.length := by omega
          have q4 : i < b2.length := by omega
          rw [ev_law01_equal_l1, cond_if, if_pos (decide_eq_true (by omega)), idx_nat (List.getElem?_eq_getElem q1), idx_nat (List.getElem?_eq_getElem q3), cond_if, List.drop_eq_getElem_cons q1, List.drop_eq_getElem_cons q2, List.drop_eq_getElem_cons q3, List.drop_eq_getElem_cons q4]
          by_cases hx : a1[i] = b1[i]
          · rw [if_neg (by simp [hx]), idx_nat (List.getElem?_eq_getElem q2), idx_nat (List.getElem?_eq_getElem q4), cond_if]
            by_cases hy : a2[i] = b2[i]
            · rw [if_neg (by simp [hy]), chk_of (in64_of (by omega))]
              refine (ih m (i + 1) (by omega) (by omega)).trans ?_
              simp only [List.cons.injEq, hx, hy, true_and]
            · rw [if_pos (by simpa using hy)]
              simp only [List.cons.injEq, hy, false_and, and_false, decide_false]
          · rw [if_pos (by simpa using hx)]
            simp only [List.cons.injEq, hx, false_and, decide_false]
      have := key a1.length n 0 (by omega) (by omega)
      simpa using this
    · rw [if_pos (by simp; omega)]
      have : ¬ (a1 = b1 ∧ a2 = b2) := fun e => h2 (by rw [e.2])
      simp [this]
  · rw [if_pos (by simp; omega)]
    have : ¬ (a1 = b1 ∧ a2 = b2) := fun e => h1 (by rw [e.1])
    simp [this]
/-- one of the counts is there -/
theorem of_l3 {n : Nat} {f t : List Int} {i : Nat} {K : Int → Option Bool} (hf : f.length ≤ 100) (hi : i < t.length) (ht : t.length ≤ 4) (hle : t.Pairwise (· ≤ ·)) (hK : K ((i + 1 : Nat) : Int) = some true) : ∀ (d m j : Nat) (b : Bool), j + d = f.length → d < m → (b = true ∨ ∃ q, j ≤ q ∧ f[q]? = some t[i]) → ev_law01_of_l3 n f t (i : Int) K m b (j : Int) = some true := by
  intro d
  induction d with
  | zero =>
    intro m j b hj hm hb
    obtain ⟨m, rfl⟩ : ∃ m', m = m' + 1 := ⟨m - 1, by omega⟩
    have hb : b = true := hb.resolve_right fun ⟨q, h1, h2⟩ => by have := (List.getElem?_eq_some_iff.1 h2).1; omega
    rw [ev_law01_of_l3, cond_if, if_neg (by simp; omega), cond_if, if_neg (by simp [hb]), cond_if]
    by_cases h0 : 0 < i
    · have e : ((i : Int) - 1) = ((i - 1 : Nat) : Int) := by omega
      have hp := List.pairwise_iff_getElem.1 hle (i - 1) i (by omega) hi (by omega)
      rw [if_pos (decide_eq_true (by omega)), idx_nat (List.getElem?_eq_getElem hi), chk_of (in64_of (by omega)), e, idx_nat (List.getElem?_eq_getElem (show i - 1 < t.length by omega)), cond_if, if_neg (by simp; omega), chk_of (in64_of (by omega))]
      exact hK
    · rw [if_neg (by simp; omega), chk_of (in64_of (by omega))]
      exact hK
  | succ d ih =>
    intro m j b hj hm hb
    obtain ⟨m, rfl⟩ : ∃ m', m = m' + 1 := ⟨m - 1, by omega⟩
    have hlt : j < f.length := by omega
    rw [ev_law01_of_l3, cond_if, if_pos (decide_eq_true (by omega)), cond_if]
    cases b with
    | true => rw [if_pos rfl, chk_of (in64_of (by omega))]; exact ih m (j + 1) true (by omega) (by omega) (.inl rfl)
    | false =>
      obtain ⟨q, h1, h2⟩ := hb.resolve_left (by decide)
      rw [if_neg (by decide), idx_nat (List.getElem?_eq_getElem hlt), idx_nat (List.getElem?_eq_getElem hi), chk_of (in64_of (by omega))]
      refine ih m (j + 1) _ (by omega) (by omega) ?_
      by_cases hq : q = j
      · subst hq
        rw [List.getElem?_eq_getElem hlt] at h2
        left; rw [Option.some.inj h2]; exact beq_self_eq_true _
      · exact .inr ⟨q, by omega, h2⟩
theorem of_l2 {n : Nat} {f t : List Int} {i7 : Int} {K : Int → Option Bool} (hn : 200 < n) (hf : f.length ≤ 100) (ht : t.length ≤ 4) (hle : t.Pairwise (· ≤ ·)) (hmem : ∀ x ∈ t, x ∈ f) (h7 : 0 ≤ i7 ∧ i7 ≤ 10) (hK : K (i7 + 1) = some true) : ev_law01_of_l2 n t f i7 K n 0 = some true := by
  have key : ∀ (d m i : Nat), i + d = t.length → d < m → ev_law01_of_l2 n t f i7 K m (i : Int) = some true := by
    intro d
    induction d with
    | zero =>
      intro m i hi hm
      obtain ⟨m, rfl⟩ : ∃ m', m = m' + 1 := ⟨m - 1, by omega⟩
      rw [ev_law01_of_l2, cond_if, if_neg (by simp; omega), chk_of (in64_of (by omega))]
      exact hK
    | succ d ih =>
      intro m i hi hm
      obtain ⟨m, rfl⟩ : ∃ m', m = m' + 1 := ⟨m - 1, by omega⟩
      have hlt : i < t.length := by omega
      rw [ev_law01_of_l2, cond_if, if_pos (decide_eq_true (by omega))]
      obtain ⟨q, hq⟩ := List.mem_iff_getElem?.1 (hmem _ (List.getElem_mem hlt))
      exact of_l3 hf hlt ht hle (ih m (i + 1) (by omega) (by omega)) f.length n 0 false (by omega) (by omega) (.inr ⟨q, by omega, hq⟩)
  exact key t.length n 0 (by omega) (by omega)
theorem law_of {n : Nat} {W P : List Int} {t : List Int × List Int} {k : Nat} {r : Int × Int} (hn : 300 < n) (hW : OkCut W) (hP : OkCut P) (hk : 1 ≤ k ∧ k ≤ 4) (h1 : t.1 ∈ chP k W) (h2 : t.2 ∈ chP k P) (hr : lowP (prodL t.1) (prodL t.2) = r) : ev_law01_of n t.1 t.2 W P r.1 r.2 = some true := by
  have l1 := hW.len
  have l2 := hP.len
  obtain ⟨a1, a2, a3⟩ := chP_prod hk.2 hW.ok h1
  obtain ⟨b1, b2, b3⟩ := chP_prod hk.2 hP.ok h2
  obtain ⟨c1, c2, c3⟩ := (mem_chP_iff k W hW.asc _).1 h1
  obtain ⟨d1, d2, d3⟩ := (mem_chP_iff k P hP.asc _).1 h2
  have last : ∀ m, ev_law01_of_l1 n t.1 t.2 W P r.1 r.2 (m + 1) 2 = some true := by
    intro m
    rw [ev_law01_of_l1, cond_if, if_neg (by decide), bind_of (law_product (by omega) (by omega) a3), bind_of (law_product (by omega) (by omega) b3), bind_of (law_lowest (by omega) (by omega) (by omega)), hr]
    simp
  obtain ⟨m, hm⟩ : ∃ m, n = m + 3 := ⟨n - 3, by omega⟩
  rw [ev_law01_of, cond_if, if_neg (by simp; omega), cond_if, if_neg (by simp; omega), cond_if, if_neg (by simp; omega), ev_law01_of_j0]
  have s1 : ev_law01_of_l1 n t.1 t.2 W P r.1 r.2 (m + 2) 1 = some true := by
    rw [ev_law01_of_l1, cond_if, if_pos (by decide), chk_of (by decide), idx_of (x := t.2) (by decide) rfl, chk_of (by decide), idx_of (x := P) (by decide) rfl]
    exact of_l2 (by omega) (by omega) (by omega) d2 d3 (by decide) (last m)
  have s0 : ev_law01_of_l1 n t.1 t.2 W P r.1 r.2 (m + 3) 0 = some true := by
    rw [ev_law01_of_l1, cond_if, if_pos (by decide), chk_of (by decide), idx_of (x := t.1) (by decide) rfl, chk_of (by decide), idx_of (x := W) (by decide) rfl]
    exact of_l2 (by omega) (by omega) (by omega) c2 c3 (by decide) s1
  rw [← hm] at s0
  exact s0
/-- the fewest, in terms of what there is -/
theorem fewR_spec {W P : List Int} {r : Int × Int} : ∀ (d k : Nat), k + d = 5 → 1 ≤ k → (fewR W P r d k = [] ∧ ∀ q, k ≤ q → q ≤ 4 → trP W P r q = []) ∨ ∃ q, k ≤ q ∧ q ≤ 4 ∧ fewR W P r d k = trP W P r q ∧ 0 < (trP W P r q).length ∧ ∀ j, k ≤ j → j < q → trP W P r j = [] := by
  intro d
  induction d with
  | zero => intro k hk _; exact .inl ⟨rfl, fun q h1 h2 => by omega⟩
  | succ d ih =>
    intro k hk h1
    rw [fewR]
    by_cases h : 0 < (trP W P r k).length
    · rw [if_pos h]
      exact .inr ⟨k, Nat.le_refl _, by omega, rfl, h, fun j h1 h2 => by omega⟩
    · rw [if_neg h]
      have h0 : trP W P r k = [] := List.eq_nil_of_length_eq_zero (by omega)
      rcases ih (k + 1) (by omega) (by omega) with ⟨e, hq⟩ | ⟨q, q1, q2, q3, q4, q5⟩
      · refine .inl ⟨e, fun q h2 h3 => ?_⟩
        by_cases hqk : q = k
        · subst hqk; exact h0
        · exact hq q (by omega) h3
      · refine .inr ⟨q, by omega, q2, q3, q4, fun j h2 h3 => ?_⟩
        by_cases hjk : j = k
        · subst hjk; exact h0
        · exact q5 j (by omega) h3
theorem pri_dvd_int {q : Nat} (hq : Pri q) {a b : Int} (h : (q : Int) ∣ a * b) : (q : Int) ∣ a ∨ (q : Int) ∣ b := by
  rw [Int.ofNat_dvd_left, Int.natAbs_mul] at h
  rcases pri_dvd hq h with h | h
  · exact .inl (Int.ofNat_dvd_left.2 h)
  · exact .inr (Int.ofNat_dvd_left.2 h)
theorem pri_prod {q : Nat} (hq : Pri q) : ∀ (l : List Int), (q : Int) ∣ prodL l → ∃ x ∈ l, (q : Int) ∣ x
  | [], h => by
    have h1 : (q : Int) ∣ 1 := h
    have := Int.le_of_dvd (by decide) h1
    have := hq.1
    omega
  | x :: l, h => by
    rcases pri_dvd_int hq (show (q : Int) ∣ x * prodL l from h) with h | h
    · exact ⟨x, by simp, h⟩
    · obtain ⟨y, hy, hd⟩ := pri_prod hq l h
      exact ⟨y, by simp [hy], hd⟩
theorem miss_none {W w : List Int} {A : Nat} {la : List Nat} (hla : PrimesOf A la) (hA : (A : Int) ∣ prodL w) (hw : ∀ x ∈ w, x ∈ W) : missP la W = [] := by
  unfold missP
  rw [List.filter_eq_nil_iff]
  intro z hz
  obtain ⟨q, hq, rfl⟩ := List.mem_map.1 hz
  obtain ⟨h1, h2⟩ := (hla.mem q).1 hq
  obtain ⟨x, hx, hd⟩ := pri_prod h1 w (Int.dvd_trans (Int.ofNat_dvd.2 h2) hA)
  have : (W.any fun c => Int.tmod c (q : Int) == 0) = true := List.any_eq_true.2 ⟨x, hw x hx, by rw [beq_iff_eq]; exact Int.tmod_eq_zero_of_dvd hd⟩
  rw [this]; decide
theorem low_dvd {x y : Int} (hx : 1 ≤ x) : (lowP x y).1 ∣ x ∧ (lowP x y).2 ∣ y := by
  obtain ⟨e1, e2⟩ := lowP_mul (a := x) (b := y) hx
  exact ⟨⟨_, e1.symm⟩, ⟨_, e2.symm⟩⟩
/-- a train of a shop -/
theorem pick_chP {W by_ : List Int} {k pairs : Nat} (hW : OkCut W) : pkF W by_ k pairs ∈ chP pairs W :=
  (mem_chP_iff pairs W hW.asc _).2 ⟨pkF_len _ _ _ _, pkF_le _ _ _ _, pkF_mem hW.len.1 _⟩
theorem ev_shop {n : Nat} {c1 c2 : List Int} (hn : c1.length + c2.length + 2000 < n) (h1 : c1.length ≤ 9223372036854775807) (h2 : c2.length ≤ 9223372036854775807) (g1 : ∀ z ∈ c1, 0 ≤ z ∧ z ≤ 255) (g2 : ∀ z ∈ c2, 0 ≤ z ∧ z ≤ 255) : ev_law01_Cutters_shop n c1 c2 = some (mdF 6 (vals c1 30) [], mdF 6 (vals c2 6) []) := by
  have e1 := ev_made (n := n) (c := c1) (lo := 30) (most := 6) (by omega) h1 g1 (by decide) (by decide)
  have e2 := ev_made (n := n) (c := c2) (lo := 6) (most := 6) (by omega) h2 g2 (by decide) (by decide)
  rw [show ((6 : Nat) : Int) = 6 from rfl] at e1 e2
  rw [ev_law01_Cutters_shop, bind_of e1, bind_of e2]
theorem u8_of {c : List Int} (h : ∀ el ∈ c, (Lit.int .u8 el).wf = true) : ∀ z ∈ c, 0 ≤ z ∧ z ≤ 255 := fun z hz => wf8.1 (h z hz)
theorem maxLen_eq : maxLen = 9223372036854775807 := by decide
end Go.Proofs.Ytabjhlfgcmmbfaa.Sy
