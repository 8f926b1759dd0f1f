/- The train of a strike: what the law computes is true. -/
import Derived.Test.YtgkoldcmbcbbpaaGTopStrikeTrain
import Derived.Test.YtgkoldcmbcbbpaaEvChoose
import Derived.Test.YtgkoldcmbcbbpaaEvPub
set_option linter.unusedSimpArgs false
set_option linter.unusedVariables false
namespace Go.Proofs.Ytgkoldcmbcbbpaa.Sy
open Go.RowKit
set_option maxRecDepth 100000

theorem pubStrike_st : ev_top_pubStrike 2200 = some true := by decide +kernel
theorem pubTrain_st : ev_top_pubTrain 2200 = some true := by decide +kernel
theorem day_st (h : Bool) : ev_strike_Day 2200 h false [] = some ((if h then 180 else 156), 0) := by cases h <;> decide +kernel
theorem prodL_append : ∀ (a b : List Int), prodL (a ++ b) = prodL a * prodL b := by
  intro a
  induction a with
  | nil => intro b; simp [prodL]
  | cons x a ih => intro b; simp only [List.cons_append, prodL, ih, Int.mul_assoc]
theorem prodL_reverse : ∀ (a : List Int), prodL a.reverse = prodL a := by
  intro a
  induction a with
  | nil => rfl
  | cons x a ih => rw [List.reverse_cons, prodL_append, ih]; simp only [prodL, Int.mul_one]; rw [Int.mul_comm]
theorem wP_zip : ∀ (w q : List Int), w.length = q.length → wP (w.zip q) = prodL w ∧ pP (w.zip q) = prodL q := by
  intro w
  induction w with
  | nil => intro q h; cases q with
    | nil => exact ⟨rfl, rfl⟩
    | cons a q => simp at h
  | cons x w ih =>
    intro q h
    cases q with
    | nil => simp at h
    | cons a q =>
      obtain ⟨h1, h2⟩ := ih q (by simpa using h)
      simp only [List.zip_cons_cons, wP, pP, prodL, h1, h2]
      exact ⟨trivial, trivial⟩
/-- an ascending list of some is no longer than these -/
theorem pigeon : ∀ {l C : List Int}, l.Pairwise (· < ·) → (∀ x ∈ l, x ∈ C) → l.length ≤ C.length := by
  intro l
  induction l with
  | nil => intro C _ _; simp
  | cons x l ih =>
    intro C hp hC
    rw [List.pairwise_cons] at hp
    have hx := hC x (by simp)
    have := ih (C := C.erase x) hp.2 fun z hz => (List.mem_erase_of_ne (by have := hp.1 z hz; omega)).2 (hC z (by simp [hz]))
    rw [List.length_erase_of_mem hx] at this
    have := List.length_pos_of_mem hx
    rw [List.length_cons]; omega
section
variable {c1 c2 c3 c4 c5 c6 c7 c8 c9 c10 : Int}
theorem st_l2 {n : Nat} {i14 : Int} {l25 l26 : List Int} {k : Int → Int → Int → Int → Int → Int → Int → Int → Int → Int → Int → (List Int) → (List Int) → Option Bool} {r : Bool} (hn : 5 < n) (h1 : ∀ c ∈ [c1, c2, c3, c4, c5], 0 ≤ c ∧ c ≤ 255) (h2 : ∀ c ∈ [c6, c7, c8, c9, c10], 0 ≤ c ∧ c ≤ 255) (hi : 6 ≤ i14 ∧ i14 ≤ 1000) (hl1 : l25.length ≤ 1000) (hl2 : l26.length ≤ 1000)
    (hk : k (i14 + 1) c1 c2 c3 c4 c5 c6 c7 c8 c9 c10 (if ([c1, c2, c3, c4, c5].any fun c => i14 == 30 + c % 90) = true then l25 ++ [i14] else l25) (if ([c6, c7, c8, c9, c10].any fun c => i14 == 6 + c % 24) = true then l26 ++ [i14] else l26) = some r) :
    ev_top_TopStrikeTrain_l2 n c6 c7 c8 c9 c10 i14 c1 c2 c3 c4 c5 l25 l26 k n false false 0 = some r := by
  obtain ⟨C, hC⟩ : ∃ C, C = [c1, c2, c3, c4, c5] := ⟨_, rfl⟩
  obtain ⟨D, hD⟩ : ∃ D, D = [c6, c7, c8, c9, c10] := ⟨_, rfl⟩
  have hCl : C.length = 5 := by rw [hC]; rfl
  have hDl : D.length = 5 := by rw [hD]; rfl
  rw [← hC] at h1 hk
  rw [← hD] at h2 hk
  have key : ∀ (d m i : Nat) (a b : Bool), i + d = 5 → d < m → (a || (C.drop i).any fun c => i14 == 30 + c % 90) = (C.any fun c => i14 == 30 + c % 90) → (b || (D.drop i).any fun c => i14 == 6 + c % 24) = (D.any fun c => i14 == 6 + c % 24) →
      ev_top_TopStrikeTrain_l2 n c6 c7 c8 c9 c10 i14 c1 c2 c3 c4 c5 l25 l26 k m a b (i : Int) = some r := by
    intro d
    induction d with
    | zero =>
      intro m i a b hid hm ha hb
      cases m with
      | zero => omega
      | succ m =>
        rw [List.drop_eq_nil_of_le (by omega), List.any_nil, Bool.or_false] at ha hb
        rw [← ha, ← hb] at hk
        rw [ev_top_TopStrikeTrain_l2, cond_if, if_neg (by simp; omega)]
        cases a with
        | true =>
          rw [if_pos rfl] at hk
          cases b with
          | true =>
            rw [if_pos rfl] at hk
            rw [cond_true, chk_of (room_iff.2 (by simp; omega)), cond_true, chk_of (room_iff.2 (by simp; omega)), chk_of (in64_of (by omega))]
            exact hk
          | false =>
            rw [if_neg (by simp)] at hk
            rw [cond_true, chk_of (room_iff.2 (by simp; omega)), cond_false, chk_of (in64_of (by omega))]
            exact hk
        | false =>
          rw [if_neg (by simp)] at hk
          cases b with
          | true =>
            rw [if_pos rfl] at hk
            rw [cond_false, cond_true, chk_of (room_iff.2 (by simp; omega)), chk_of (in64_of (by omega))]
            exact hk
          | false =>
            rw [if_neg (by simp)] at hk
            rw [cond_false, cond_false, chk_of (in64_of (by omega))]
            exact hk
    | succ d ih =>
      intro m i a b hid hm ha hb
      cases m with
      | zero => omega
      | succ m =>
        have hi1 : i < C.length := by omega
        have hi2 : i < D.length := by omega
        obtain ⟨x, hx⟩ : ∃ x, x = C[i] := ⟨_, rfl⟩
        obtain ⟨y, hy⟩ : ∃ y, y = D[i] := ⟨_, rfl⟩
        have g1 : ([c1, c2, c3, c4, c5] : List Int)[i]? = some x := by rw [← hC, hx]; exact List.getElem?_eq_getElem hi1
        have g2 : ([c6, c7, c8, c9, c10] : List Int)[i]? = some y := by rw [← hD, hy]; exact List.getElem?_eq_getElem hi2
        have b1 := h1 x (hx ▸ List.getElem_mem hi1)
        have b2 := h2 y (hy ▸ List.getElem_mem hi2)
        have t1 : Int.tmod x 90 = x % 90 := Int.tmod_eq_emod_of_nonneg b1.1
        have t2 : Int.tmod y 24 = y % 24 := Int.tmod_eq_emod_of_nonneg b2.1
        rw [List.drop_eq_getElem_cons hi1, ← hx, List.any_cons, ← Bool.or_assoc] at ha
        rw [List.drop_eq_getElem_cons hi2, ← hy, List.any_cons, ← Bool.or_assoc] at hb
        have e : ((i : Int) + 1) = ((i + 1 : Nat) : Int) := by omega
        have hr : (decide (0 ≤ (i : Int)) && decide ((i : Int) < 5)) = true := by simp; omega
        rw [ev_top_TopStrikeTrain_l2, cond_if, if_pos (decide_eq_true (by omega))]
        cases a with
        | true =>
          rw [Bool.true_or] at ha
          cases b with
          | true =>
            rw [Bool.true_or] at hb
            rw [cond_true, cond_true, chk_of (in64_of (by omega)), e]
            exact ih m (i + 1) true true (by omega) (by omega) ha hb
          | false =>
            rw [Bool.false_or] at hb
            rw [cond_true, cond_false, chk_of hr, idx_nat g2, t2, chk_of (in64_of (by omega)), chk_of (in64_of (by omega)), chk_of (in64_of (by omega)), e]
            exact ih m (i + 1) true _ (by omega) (by omega) ha hb
        | false =>
          rw [Bool.false_or] at ha
          cases b with
          | true =>
            rw [Bool.true_or] at hb
            rw [cond_false, chk_of hr, idx_nat g1, t1, chk_of (in64_of (by omega)), chk_of (in64_of (by omega)), cond_true, chk_of (in64_of (by omega)), e]
            exact ih m (i + 1) _ true (by omega) (by omega) ha hb
          | false =>
            rw [Bool.false_or] at hb
            rw [cond_false, chk_of hr, idx_nat g1, t1, chk_of (in64_of (by omega)), chk_of (in64_of (by omega)), cond_false, chk_of hr, idx_nat g2, t2, chk_of (in64_of (by omega)), chk_of (in64_of (by omega)), chk_of (in64_of (by omega)), e]
            exact ih m (i + 1) _ _ (by omega) (by omega) ha hb
  exact key 5 n 0 false false (by omega) (by omega) (by simp) (by simp)
end
/-- the cutters up to a count -/
structure Cuts (A : List Int) (i : Int) (l : List Int) : Prop where
  asc : l.Pairwise (· < ·)
  mem : ∀ z, z ∈ l ↔ (z < i ∧ z ∈ A)
  len : (l.length : Int) ≤ i - 6
theorem Cuts.step {A : List Int} {i : Int} {l : List Int} {b : Bool} (h : Cuts A i l) (hb : b = true ↔ i ∈ A) : Cuts A (i + 1) (if b = true then l ++ [i] else l) := by
  by_cases hbt : b = true
  · rw [if_pos hbt]
    have hi := hb.1 hbt
    refine ⟨?_, fun z => ?_, by have := h.len; simp; omega⟩
    · rw [List.pairwise_append]
      refine ⟨h.asc, List.pairwise_singleton _ _, fun a ha b hb => ?_⟩
      rw [List.mem_singleton] at hb
      have := ((h.mem a).1 ha).1
      omega
    · rw [List.mem_append, List.mem_singleton, h.mem]
      constructor
      · rintro (⟨h1, h2⟩ | rfl)
        · exact ⟨by omega, h2⟩
        · exact ⟨by omega, hi⟩
      · rintro ⟨h1, h2⟩
        by_cases hz : z = i
        · exact .inr hz
        · exact .inl ⟨by omega, h2⟩
  · rw [if_neg hbt]
    refine ⟨h.asc, fun z => ?_, by have := h.len; omega⟩
    rw [h.mem]
    constructor
    · rintro ⟨h1, h2⟩; exact ⟨by omega, h2⟩
    · rintro ⟨h1, h2⟩
      refine ⟨?_, h2⟩
      have : z ≠ i := fun e => hbt (hb.2 (e ▸ h2))
      omega
theorem Cuts.ok {A : List Int} {l : List Int} (h : Cuts A 401 l) (hA : ∀ z ∈ A, 6 ≤ z ∧ z ≤ 400) (h5 : A.length = 5) : OkCut l ∧ l.length ≤ 5 := by
  have hl := pigeon h.asc fun x hx => ((h.mem x).1 hx).2
  have h0 : A[0]'(by omega) ∈ l := (h.mem _).2 ⟨by have := hA _ (List.getElem_mem (show 0 < A.length by omega)); omega, List.getElem_mem _⟩
  exact ⟨⟨fun x hx => hA x ((h.mem x).1 hx).2, h.asc, List.length_pos_of_mem h0, by omega⟩, by omega⟩
/-- each train turns as is wanted -/
theorem st_train {W P : List Int} (hW : ∀ x ∈ W, 6 ≤ x ∧ x ≤ 400) (hP : ∀ x ∈ P, 6 ≤ x ∧ x ≤ 400) {a b : Int} (ha : 1 ≤ a ∧ a ≤ 1000) (hb : 1 ≤ b ∧ b ≤ 1000) {k : Nat} (hk : 1 ≤ k ∧ k ≤ 4) {x : (List Int) × (List Int)} (hx : x ∈ exactP W P (lowP a b).1 (lowP a b).2 k) :
    x.1.length = k ∧ x.2.length = k ∧ OkP (x.1.zip x.2.reverse) ∧ lowP (wP (x.1.zip x.2.reverse)) (pP (x.1.zip x.2.reverse)) = lowP a b := by
  obtain ⟨h1, h2, h3, h4⟩ := mem_exact.1 hx
  obtain ⟨l1, m1⟩ := mem_chP _ _ _ h1
  obtain ⟨l2, m2⟩ := mem_chP _ _ _ h2
  have hz := wP_zip x.1 x.2.reverse (by rw [List.length_reverse]; omega)
  rw [prodL_reverse] at hz
  obtain ⟨q1, q2, q3, q4⟩ := lowP_pos ha.1 hb.1
  refine ⟨l1, l2, ⟨fun p hp => ?_, by rw [List.length_zip, List.length_reverse]; omega⟩, ?_⟩
  · have := List.of_mem_zip (show (p.1, p.2) ∈ x.1.zip x.2.reverse from hp)
    exact ⟨hW _ (m1 _ this.1), hP _ (m2 _ (List.mem_reverse.1 this.2))⟩
  · rw [hz.1, hz.2]
    have hw := prodL_bound x.1 fun z hz => by have := hW z (m1 z hz); omega
    obtain ⟨t, ht⟩ : ∃ t, t = prodL x.1 / (lowP a b).1 := ⟨_, rfl⟩
    have e1 : prodL x.1 = t * (lowP a b).1 := by rw [ht, Int.mul_comm]; exact (Int.mul_ediv_cancel' (Int.dvd_of_emod_eq_zero h3)).symm
    have e2 : prodL x.2 = t * (lowP a b).2 := by rw [h4, ht]
    have ht1 : 1 ≤ t := by
      by_cases h : 1 ≤ t
      · exact h
      · have := Int.mul_nonneg (show 0 ≤ -t by omega) (show 0 ≤ (lowP a b).1 by omega)
        rw [Int.neg_mul] at this
        omega
    rw [e1, e2, lowP_scale ht1 q1]
    have := lowP_step (u := 1) (v := 1) ha.1 hb.1 (by decide)
    simpa using this
theorem topStrikeTrain_evx {cut1 : Int} {cut2 : Int} {cut3 : Int} {cut4 : Int} {cut5 : Int} {cut6 : Int} {cut7 : Int} {cut8 : Int} {cut9 : Int} {cut10 : Int} {pins11 : Int} {halves12 : Bool} (h0 : (Lit.int .u8 cut1).wf = true ∧ (Lit.int .u8 cut2).wf = true ∧ (Lit.int .u8 cut3).wf = true ∧ (Lit.int .u8 cut4).wf = true ∧ (Lit.int .u8 cut5).wf = true ∧ (Lit.int .u8 cut6).wf = true ∧ (Lit.int .u8 cut7).wf = true ∧ (Lit.int .u8 cut8).wf = true ∧ (Lit.int .u8 cut9).wf = true ∧ (Lit.int .u8 cut10).wf = true) (h1 : (Lit.int .u8 pins11).wf = true) (h2 : True) :
    ∃ n, ev_top_TopStrikeTrain n cut1 cut2 cut3 cut4 cut5 cut6 cut7 cut8 cut9 cut10 pins11 halves12 = some true := by
  simp only [wf8] at h0
  have w1 := wf8.1 h1
  have hC : ∀ c ∈ [cut1, cut2, cut3, cut4, cut5], 0 ≤ c ∧ c ≤ 255 := by
    intro c hc
    simp only [List.mem_cons, List.not_mem_nil, or_false] at hc
    rcases hc with rfl | rfl | rfl | rfl | rfl <;> omega
  have hD : ∀ c ∈ [cut6, cut7, cut8, cut9, cut10], 0 ≤ c ∧ c ≤ 255 := by
    intro c hc
    simp only [List.mem_cons, List.not_mem_nil, or_false] at hc
    rcases hc with rfl | rfl | rfl | rfl | rfl <;> omega
  obtain ⟨A, hA⟩ : ∃ A, A = [cut1, cut2, cut3, cut4, cut5].map fun c => 30 + c % 90 := ⟨_, rfl⟩
  obtain ⟨B, hB⟩ : ∃ B, B = [cut6, cut7, cut8, cut9, cut10].map fun c => 6 + c % 24 := ⟨_, rfl⟩
  have hA5 : A.length = 5 := by rw [hA]; rfl
  have hB5 : B.length = 5 := by rw [hB]; rfl
  have hAr : ∀ z ∈ A, 6 ≤ z ∧ z ≤ 400 := by
    intro z hz
    rw [hA] at hz
    obtain ⟨c, _, rfl⟩ := List.mem_map.1 hz
    omega
  have hBr : ∀ z ∈ B, 6 ≤ z ∧ z ≤ 400 := by
    intro z hz
    rw [hB] at hz
    obtain ⟨c, _, rfl⟩ := List.mem_map.1 hz
    omega
  have hAm : ∀ i : Int, ([cut1, cut2, cut3, cut4, cut5].any fun c => i == 30 + c % 90) = true ↔ i ∈ A := by
    intro i
    rw [hA, List.any_eq_true, List.mem_map]
    constructor
    · rintro ⟨c, h1, h2⟩; exact ⟨c, h1, (eq_of_beq h2).symm⟩
    · rintro ⟨c, h1, h2⟩; exact ⟨c, h1, by rw [h2]; exact beq_self_eq_true i⟩
  have hBm : ∀ i : Int, ([cut6, cut7, cut8, cut9, cut10].any fun c => i == 6 + c % 24) = true ↔ i ∈ B := by
    intro i
    rw [hB, List.any_eq_true, List.mem_map]
    constructor
    · rintro ⟨c, h1, h2⟩; exact ⟨c, h1, (eq_of_beq h2).symm⟩
    · rintro ⟨c, h1, h2⟩; exact ⟨c, h1, by rw [h2]; exact beq_self_eq_true i⟩
  have e1 : Int.tmod pins11 10 = pins11 % 10 := Int.tmod_eq_emod_of_nonneg w1.1
  obtain ⟨b, hb⟩ : ∃ b, 4 + pins11 % 10 = b := ⟨_, rfl⟩
  have rb : 4 ≤ b ∧ b ≤ 13 := by omega
  obtain ⟨day, hday⟩ : ∃ day : Int, day = if halves12 then 180 else 156 := ⟨_, rfl⟩
  have rday : day = 156 ∨ day = 180 := by cases halves12 <;> simp [hday]
  obtain ⟨a, ha⟩ : ∃ a, Int.tdiv day 2 = a := ⟨_, rfl⟩
  have hda : day = 2 * a := by rcases rday with h | h <;> (subst h; rw [← ha]; rfl)
  -- the trains
  have fin : ∀ (W P : List Int) (m : Nat), 0 < m → OkCut W → OkCut P → P.length ≤ 5 → ev_top_TopStrikeTrain_l1 2200 (day, 0) pins11 m 401 cut1 cut2 cut3 cut4 cut5 cut6 cut7 cut8 cut9 cut10 W P = some true := by
    intro W P m hm hW hP hP5
    cases m with
    | zero => omega
    | succ m =>
      have h54 : P.length ^ 4 < 2200 := by
        have : P.length ^ 4 ≤ 5 ^ 4 := Nat.pow_le_pow_left hP5 4
        omega
      have hF := ev_Fewest (n := 2200) (by decide) hW hP (a := a) (b := b) (by omega) (by omega) h54
      rw [ev_top_TopStrikeTrain_l1, cond_if, if_neg (by decide), e1, hb]
      simp only [ha]
      rw [chk_of (in64_of (by omega)), bind_of hF]
      rcases few_spec (W := W) (P := P) (r := lowP a b) 4 0 rfl with (h | h) | ⟨k, k1, k2, hk, hpos, hle⟩
      · rw [h, cond_if, if_pos (by rfl), cond_if, if_pos (by rfl), cond_if, if_pos (by rfl), bind_of pubTrain_st, cond_if, if_pos rfl, bind_of pubStrike_st]
      · rw [h, cond_if, if_pos (by rfl), cond_if, if_neg (by decide), cond_if, if_pos (by rfl), cond_if, if_pos (by rfl), bind_of pubTrain_st, cond_if, if_pos rfl, bind_of pubStrike_st]
      · rw [hk, cond_if, if_neg (by simp)]
        simp only
        obtain ⟨L, hL⟩ : ∃ L, L = exactP W P (lowP a b).1 (lowP a b).2 k := ⟨_, rfl⟩
        rw [← hL] at hpos hle ⊢
        obtain ⟨q1, q2, q3, q4⟩ := lowP_pos (a := a) (b := b) (by omega) (by omega)
        obtain ⟨g1, g2⟩ := lowP_mul (a := a) (b := b) (by omega)
        have hrat : (lowP a b).1 * 2 * b = (lowP a b).2 * day := by
          rw [hda]
          calc (lowP a b).1 * 2 * b = (lowP a b).1 * 2 * ((lowP a b).2 * (Int.gcd a b : Nat)) := by rw [g2]
            _ = (lowP a b).2 * (2 * ((lowP a b).1 * (Int.gcd a b : Nat))) := by ac_rfl
            _ = (lowP a b).2 * (2 * a) := by rw [g1]
        have key : ∀ (d m i : Nat), i + d = L.length → d < m → ev_top_TopStrikeTrain_l3 2200 pins11 (day, 0) m (i : Int) L = some true := by
          intro d
          induction d with
          | zero =>
            intro m i hi hm
            cases m with
            | zero => omega
            | succ m => rw [ev_top_TopStrikeTrain_l3, cond_if, if_neg (fun h => by have := of_decide_eq_true h; omega), cond_if, if_pos (decide_eq_true (by omega)), bind_of pubTrain_st, cond_if, if_pos rfl, bind_of pubStrike_st]
          | succ d ih =>
            intro m i hi hm
            cases m with
            | zero => omega
            | succ m =>
              have hlt : i < L.length := by omega
              obtain ⟨x, hx⟩ : ∃ x, x = L[i] := ⟨_, rfl⟩
              have hget : L[i]? = some x := by rw [hx, List.getElem?_eq_getElem hlt]
              obtain ⟨x1, x2, hok, hlow⟩ := st_train (W := W) (P := P) hW.ok hP.ok (a := a) (b := b) (by omega) (by omega) ⟨k1, k2⟩ (x := x) (by rw [← hL, hx]; exact List.getElem_mem hlt)
              obtain ⟨Z, hZ⟩ : ∃ Z, Z = x.1.zip x.2.reverse := ⟨_, rfl⟩
              rw [← hZ] at hok hlow
              have hZl : Z.length = k := by rw [hZ, List.length_zip, List.length_reverse]; omega
              have hpos' : ∀ p ∈ Z, 1 ≤ p.1 ∧ 1 ≤ p.2 := fun p hp => by have := hok.ok p hp; omega
              have hT := ev_Turns (n := 2200) (by decide) hok
              have hCy := ev_Cycle (n := 2200) (by decide) hok
              rw [hlow] at hT
              obtain ⟨d1, d2, d3⟩ := cycP_dvd hpos'
              have hmem := arb_mem_last hpos'
              rw [hlow] at hmem
              have dv := d2 _ hmem
              have hB := hok.bound
              have hcle : cycP Z ≤ pP Z := Int.le_of_dvd (by omega) (d3 _ fun r hr => by
                have := arb_den Z 1 1 (by decide) (by decide) hpos'
                rw [low11, Int.one_mul] at this
                exact (this r hr).2.2)
              have hcb := mul_bound (show 1 ≤ cycP Z ∧ cycP Z ≤ 4096000000000000 by omega) (show 1 ≤ (lowP a b).1 ∧ (lowP a b).1 ≤ 90 by omega)
              have hb1 := mul_bound (show 1 ≤ (lowP a b).1 * 2 ∧ (lowP a b).1 * 2 ≤ 180 by omega) (show 1 ≤ b ∧ b ≤ 13 by omega)
              have l5 : ∀ (dd mm j : Nat) (acc : List (Int × Int)), j + dd = k → dd < mm → acc = Z.take j → ev_top_TopStrikeTrain_l5 2200 (i : Int) pins11 (day, 0) (fun i38q l39q => ev_top_TopStrikeTrain_l3 2200 pins11 (day, 0) m i38q l39q) mm (j : Int) L acc = some true := by
                intro dd
                induction dd with
                | zero =>
                  intro mm j acc hj hmm hacc
                  cases mm with
                  | zero => omega
                  | succ mm =>
                    have : acc = Z := by rw [hacc, List.take_of_length_le (by omega)]
                    subst this
                    rw [ev_top_TopStrikeTrain_l5, idx_nat hget, cond_if, if_neg (fun h => by have := of_decide_eq_true h; omega), bind_of hT, bind_of hCy, cond_if, if_neg (by simp), cond_if, if_neg (by simp), cond_if, if_neg (fun h => by have := of_decide_eq_true h; simp only at this; omega), e1, hb]
                    simp only
                    rw [chk_of (in64_of (by omega)), chk_of (in64_of (by omega)), ← hrat, chk_of (in64_of (by omega)), cond_if, if_neg (by simp), cond_if, if_neg (fun h => by have := of_decide_eq_true h; omega), chk_of (in64_of (by omega)), chk_of (by simp; omega), cond_if, if_neg ?_, chk_of (in64_of (by omega))]
                    · exact ih m (i + 1) (by omega) (by omega)
                    · rw [Int.tmod_eq_emod_of_nonneg (by omega), Int.emod_eq_zero_of_dvd (Int.dvd_mul_of_dvd_left dv)]; simp
                | succ dd ihd =>
                  intro mm j acc hj hmm hacc
                  cases mm with
                  | zero => omega
                  | succ mm =>
                    have j1 : j < x.1.length := by omega
                    have j2 : j < Z.length := by omega
                    have j3 : x.2.length - 1 - j < x.2.length := by omega
                    have ej : ((x.2.length : Int) - 1 - (j : Int)) = ((x.2.length - 1 - j : Nat) : Int) := by omega
                    have hzj : Z[j] = (x.1[j], x.2[x.2.length - 1 - j]) := by
                      simp only [hZ, List.getElem_zip, List.getElem_reverse]
                    have hal : acc.length ≤ 4 := by rw [hacc, List.length_take]; omega
                    rw [ev_top_TopStrikeTrain_l5, idx_nat hget, cond_if, if_pos (decide_eq_true (by omega)), idx_nat (List.getElem?_eq_getElem j1), chk_of (in64_of (by omega)), chk_of (in64_of (by omega)), ej, idx_nat (List.getElem?_eq_getElem j3), chk_of (room_iff.2 (by simp; omega)), chk_of (in64_of (by omega))]
                    refine ihd mm (j + 1) _ (by omega) (by omega) ?_
                    rw [hacc, ← hzj, List.take_append_getElem j2]
              rw [ev_top_TopStrikeTrain_l3, cond_if, if_pos (decide_eq_true (by omega)), idx_nat hget, cond_if, if_neg (by simp; omega), cond_if, if_neg (fun h => by have := of_decide_eq_true h; omega), cond_if, if_neg (fun h => by have := of_decide_eq_true h; omega), ev_top_TopStrikeTrain_j4]
              exact l5 k 2200 0 [] (by omega) (by omega) rfl
        exact key L.length 2200 0 (by omega) (by omega)
  -- the shop
  have main : ∀ (d m : Nat) (i : Int) (W P : List Int), i + d = 401 → d < m → 6 ≤ i → Cuts A i W → Cuts B i P → ev_top_TopStrikeTrain_l1 2200 (day, 0) pins11 m i cut1 cut2 cut3 cut4 cut5 cut6 cut7 cut8 cut9 cut10 W P = some true := by
    intro d
    induction d with
    | zero =>
      intro m i W P hi hm h6 hW hP
      have : i = 401 := by omega
      subst this
      exact fin W P m (by omega) (hW.ok hAr hA5).1 (hP.ok hBr hB5).1 (hP.ok hBr hB5).2
    | succ d ih =>
      intro m i W P hi hm h6 hW hP
      cases m with
      | zero => omega
      | succ m =>
        have := hW.len
        have := hP.len
        rw [ev_top_TopStrikeTrain_l1, cond_if, if_pos (decide_eq_true (by omega))]
        refine st_l2 (by decide) hC hD ⟨h6, by omega⟩ (by omega) (by omega) ?_
        exact ih m (i + 1) _ _ (by omega) (by omega) (by omega) (hW.step (hAm i)) (hP.step (hBm i))
  refine ⟨2200, ?_⟩
  have hj : ev_top_TopStrikeTrain_j0 2200 pins11 (day, 0) cut1 cut2 cut3 cut4 cut5 cut6 cut7 cut8 cut9 cut10 = some true := by
    rw [ev_top_TopStrikeTrain_j0, e1, hb, chk_of (in64_of (by omega)), chk_of (in64_of (by omega))]
    exact main 395 2200 6 [] [] (by omega) (by omega) (by omega) ⟨List.Pairwise.nil, fun z => ⟨fun h => by simp at h, fun ⟨h, h'⟩ => by have := hAr z h'; omega⟩, by simp⟩ ⟨List.Pairwise.nil, fun z => ⟨fun h => by simp at h, fun ⟨h, h'⟩ => by have := hBr z h'; omega⟩, by simp⟩
  rw [ev_top_TopStrikeTrain, bind_of (day_st halves12), ← hday, cond_if, if_neg (by simp), cond_if]
  split
  · rw [cond_if, if_neg (by simp at *; omega)]; exact hj
  · exact hj
end Go.Proofs.Ytgkoldcmbcbbpaa.Sy
