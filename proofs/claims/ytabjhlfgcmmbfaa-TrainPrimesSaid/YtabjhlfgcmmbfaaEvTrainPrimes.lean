/- If a prime is missing there is no exact train. -/
import Derived.Test.YtabjhlfgcmmbfaaGTrainPrimes
import Derived.Test.YtabjhlfgcmmbfaaEvOf
set_option linter.unusedSimpArgs false
set_option linter.unusedVariables false
namespace Go.Proofs.Ytabjhlfgcmmbfaa.Sy
open Go.RowKit
set_option maxRecDepth 100000

theorem miss_mem {A : Nat} {la : List Nat} {W : List Int} (hla : PrimesOf A la) {z : Int} (h : z ∈ missP la W) : ∃ q : Nat, z = (q : Int) ∧ Pri q ∧ q ∣ A ∧ ∀ c ∈ W, Int.tmod c z ≠ 0 := by
  unfold missP at h
  obtain ⟨h1, h2⟩ := List.mem_filter.1 h
  obtain ⟨q, hq, rfl⟩ := List.mem_map.1 h1
  obtain ⟨a, b⟩ := (hla.mem q).1 hq
  refine ⟨q, rfl, a, b, fun c hc e => ?_⟩
  have : (W.any fun c => Int.tmod c (q : Int) == 0) = true := List.any_eq_true.2 ⟨c, hc, by rw [beq_iff_eq]; exact e⟩
  rw [this] at h2
  cases h2
theorem primes_l4 {n : Nat} {f : List Int} {z i14 : Int} {K : Int → Option Bool} (hn : 200 < n) (hf : f.length ≤ 100) (hz : z ≠ 0) (hi : 0 ≤ i14 ∧ i14 ≤ 10000000) (h : ∀ c ∈ f, Int.tmod c z ≠ 0) (hK : K (i14 + 1) = some true) : ev_law01_TrainPrimes_j3 n z i14 K f = some true := by
  have key : ∀ (d m i : Nat), i + d = f.length → d < m → ev_law01_TrainPrimes_l4 n f z i14 K m (i : Int) = some true := by
    intro d
    induction d with
    | zero =>
      intro m i hi' hm
      obtain ⟨m, rfl⟩ : ∃ m', m = m' + 1 := ⟨m - 1, by omega⟩
      rw [ev_law01_TrainPrimes_l4, cond_if, if_neg (by simp; omega), chk_of (in64_of (by omega))]
      exact hK
    | succ d ih =>
      intro m i hi' hm
      obtain ⟨m, rfl⟩ : ∃ m', m = m' + 1 := ⟨m - 1, by omega⟩
      have hlt : i < f.length := by omega
      rw [ev_law01_TrainPrimes_l4, cond_if, if_pos (decide_eq_true (by omega)), idx_nat (List.getElem?_eq_getElem hlt), chk_of (by simpa using hz), cond_if, if_neg (by rw [beq_iff_eq]; exact h _ (List.getElem_mem hlt)), chk_of (in64_of (by omega))]
      exact ih m (i + 1) (by omega) (by omega)
  exact key f.length n 0 (by omega) (by omega)
theorem trainPrimes_evx {c1 : List Int} {c2 : List Int} {want3 : Int} {want4 : Int} {by_5 : List Int} (h0 : (c1.length ≤ maxLen ∧ ∀ el5 ∈ c1, (Lit.int .u8 el5).wf = true) ∧ (c2.length ≤ maxLen ∧ ∀ el5 ∈ c2, (Lit.int .u8 el5).wf = true)) (h1 : (Lit.int .u16 want3).wf = true ∧ (Lit.int .u16 want4).wf = true) (h2 : (by_5.length ≤ maxLen ∧ ∀ el5 ∈ by_5, (Lit.int .u8 el5).wf = true)) :
    ∃ n, ev_law01_TrainPrimes n c1 c2 want3 want4 by_5 = some true := by
  obtain ⟨⟨l1, g1⟩, l2, g2⟩ := h0
  obtain ⟨l3, g3⟩ := h2
  rw [maxLen_eq] at l1 l2 l3
  have w16 : ∀ z : Int, (Lit.int .u16 z).wf = true → 0 ≤ z ∧ z ≤ 65535 := fun z h => by
    simpa only [Lit.wf, Bool.and_eq_true, decide_eq_true_eq, show IntKind.u16.min = 0 from rfl, show IntKind.u16.max = 65535 from rfl] using h
  have hw3 := w16 _ h1.1
  have hw4 := w16 _ h1.2
  refine ⟨2000000 + c1.length + c2.length + by_5.length, ?_⟩
  have hnn : 2000000 + c1.length + c2.length + by_5.length > 1500000 := by omega
  have hsh := ev_shop (n := 2000000 + c1.length + c2.length + by_5.length) (c1 := c1) (c2 := c2) (by omega) l1 l2 (u8_of g1) (u8_of g2)
  generalize hN : 2000000 + c1.length + c2.length + by_5.length = n at hsh hnn ⊢
  have hW := made_ok (c := c1) (lo := 30) (most := 6) (u8_of g1) (by decide) (by decide)
  have hP := made_ok (c := c2) (lo := 6) (most := 6) (u8_of g2) (by decide) (by decide)
  have hP6 : (mdF 6 (vals c2 6) []).length ≤ 6 := (mdF_ok (lo := 6) (most := 6) _ [] (vals_ok (u8_of g2)) ⟨by simp, .nil, by simp⟩).len
  generalize mdF 6 (vals c1 30) [] = W at hsh hW
  generalize mdF 6 (vals c2 6) [] = P at hsh hP hP6
  have w1 := hW.len
  have p1 := hP.len
  obtain ⟨pairs, hpe, hp3⟩ : ∃ pairs : Nat, 1 + Int.tmod (by_5.length : Int) 4 = (pairs : Int) ∧ 1 ≤ pairs ∧ pairs ≤ 4 := by
    have e : Int.tmod (by_5.length : Int) 4 = ((by_5.length % 4 : Nat) : Int) := by rw [Int.tmod_eq_emod_of_nonneg (by omega)]; rfl
    exact ⟨1 + by_5.length % 4, by rw [e]; omega, by omega⟩
  have hK := knownN (n := n) (by omega)
  rw [ev_law01_TrainPrimes, bind_of hsh]
  dsimp only
  rw [chk_of (in64_of (by omega)), chk_of (in64_of (by omega)), chk_of (in64_of (by omega)), chk_of (in64_of (by omega)), bind_of (law_lowest (by omega) (by omega) (by omega)), bind_of (law_copied (by omega) (by omega))]
  dsimp only
  have hL := low_Low (a := 1 + want3) (b := 1 + want4) (by omega) (by omega)
  obtain ⟨u1, u2, u3, u4⟩ := lowP_pos (a := 1 + want3) (b := 1 + want4) (by omega) (by omega)
  generalize (decide ((lowP (1 + want3) (1 + want4)).1 ≤ 1000000) && decide ((lowP (1 + want3) (1 + want4)).2 ≤ 1000000)) = ok
  generalize lowP (1 + want3) (1 + want4) = r at hL u1 u2 u3 u4 ⊢
  have hpow : P.length ^ 4 < n := by
    have : P.length ^ 4 ≤ 6 ^ 4 := Nat.pow_le_pow_left hP6 4
    omega
  have hF := ev_Fewest (n := n) (by omega) hW hP (a := r.1) (b := r.2) (by omega) (by omega) hpow
  rw [hL.self, few_eq hL hW.ok hP.ok 4 0 rfl, show (0 : Nat) + 1 = 1 from rfl] at hF
  obtain ⟨A, hA⟩ : ∃ A : Nat, (A : Int) = r.1 := ⟨r.1.toNat, by omega⟩
  obtain ⟨B, hB⟩ : ∃ B : Nat, (B : Int) = r.2 := ⟨r.2.toNat, by omega⟩
  obtain ⟨la, hla⟩ := exists_primes (n := A) (by omega)
  obtain ⟨lb, hlb⟩ := exists_primes (n := B) (by omega)
  have hM := ev_Missing (n := n) (by omega) hW hP (a := r.1) (b := r.2) (by omega) (by omega) (A := A) (B := B) (by rw [hL.self]; exact hA) (by rw [hL.self]; exact hB) hla hlb
  have hdisj := miss_disj (a := r.1) (b := r.2) (by omega) (by omega) (A := A) (B := B) (by rw [hL.self]; exact hA) (by rw [hL.self]; exact hB) hla hlb (W := W) (P := P)
  -- no train where something is missing
  have hnone : ∀ q, q ≤ 4 → ∀ x ∈ trP W P r q, missP la W = [] ∧ missP lb P = [] := by
    intro q hq x hx
    obtain ⟨m1, m2, m3⟩ := mem_trP.1 hx
    obtain ⟨a1, _, _⟩ := chP_prod hq hW.ok m1
    obtain ⟨b1, _, _⟩ := chP_prod hq hP.ok m2
    have hd := low_dvd (y := prodL x.2) a1.1
    rw [m3] at hd
    exact ⟨miss_none hla (by rw [hA]; exact hd.1) (mem_chP q _ _ m1).2, miss_none hlb (by rw [hB]; exact hd.2) (mem_chP q _ _ m2).2⟩
  have hasc : (srt (missP la W ++ missP lb P)).Pairwise (· < ·) := by
    have hnd : (missP la W ++ missP lb P).Nodup := List.nodup_append.2 ⟨(miss_asc hla.asc W).imp fun h => by omega, (miss_asc hlb.asc P).imp fun h => by omega, fun a ha b hb => hdisj a ha b hb⟩
    have hnd2 := (srt_perm (missP la W ++ missP lb P)).nodup_iff.2 hnd
    exact ((srt_sorted (missP la W ++ missP lb P)).and hnd2).imp fun {a b} ⟨h1, h2⟩ => by
      have : a ≠ b := h2
      omega
  have hmem : ∀ z ∈ srt (missP la W ++ missP lb P), z ∈ missP la W ∨ z ∈ missP lb P := fun z hz => List.mem_append.1 ((srt_perm _).mem_iff.1 hz)
  have hlen0 : 0 < (srt (missP la W ++ missP lb P)).length → ∀ q, q ≤ 4 → trP W P r q = [] := by
    intro h q hq
    cases ht : trP W P r q with
    | nil => rfl
    | cons x l =>
      obtain ⟨e1, e2⟩ := hnone q hq x (by rw [ht]; simp)
      rw [e1, e2] at h
      simp [srt] at h
  have hLl : (srt (missP la W ++ missP lb P)).length ≤ 200000 := by
    have h1 := missP_len la W
    have h2 := missP_len lb P
    have h3 := hla.len (by omega)
    have h4 := hlb.len (by omega)
    rw [(srt_perm _).length_eq, List.length_append]
    omega
  have hnil : missP la W = [] → missP lb P = [] → (srt (missP la W ++ missP lb P)).length = 0 := fun e1 e2 => by rw [e1, e2]; rfl
  generalize hLe : srt (missP la W ++ missP lb P) = L at hM hasc hmem hlen0 hLl hnil
  rw [bind_of hM, bind_of (law_copied (by omega) (by omega))]
  dsimp only
  have main : ∀ R e, (R, e) = (if (fewR W P r 4 1).length = 0 then ([], 7) else if 2000 < (fewR W P r 4 1).length then ([], 5) else (fewR W P r 4 1, (0 : Int))) → ev_law01_TrainPrimes_j0 n (L, 0) (r.1, r.2, ok) (W, P) by_5 (R, e) = some true := by
    intro R e hRe
    have key : ∀ (d m i : Nat), i + d = L.length → d < m → ev_law01_TrainPrimes_l1 n (L, 0) (r.1, r.2, ok) (W, P) by_5 (R, e) m (i : Int) = some true := by
      intro d
      induction d with
      | zero =>
        intro m i hi hm
        obtain ⟨m, rfl⟩ : ∃ m', m = m' + 1 := ⟨m - 1, by omega⟩
        rw [ev_law01_TrainPrimes_l1, cond_if, if_neg (by simp; omega), hpe, chk_of (in64_of (by omega)), bind_of (ev_picked (by omega) (by simp only; omega) (by simp only; omega) (u8_of g3) l3 (by omega))]
        have ht1 := pick_chP (W := W) (by_ := by_5) (k := 0) (pairs := pairs) hW
        have ht2 := pick_chP (W := P) (by_ := by_5) (k := 1) (pairs := pairs) hP
        dsimp only
        generalize pkF W by_5 0 pairs = a at ht1
        generalize pkF P by_5 1 pairs = b at ht2
        obtain ⟨a1, a2, a3⟩ := chP_prod (by omega) hW.ok ht1
        obtain ⟨b1, b2, b3⟩ := chP_prod (by omega) hP.ok ht2
        rw [bind_of (law_product (by omega) (by omega) a3), bind_of (law_product (by omega) (by omega) b3), bind_of (law_lowest (by omega) (by omega) (by omega)), cond_if]
        by_cases hx : lowP (prodL a) (prodL b) = r
        · have htr : ((a, b) : List Int × List Int) ∈ trP W P r pairs := mem_trP.2 ⟨ht1, ht2, hx⟩
          obtain ⟨e1, e2⟩ := hnone pairs (by omega) _ htr
          have hL0 := hnil e1 e2
          have he7 : e ≠ 7 := by
            rcases fewR_spec (W := W) (P := P) (r := r) 4 1 rfl (by omega) with ⟨_, hq⟩ | ⟨q, q1, q2, q3, q4, q5⟩
            · rw [hq pairs (by omega) (by omega)] at htr
              simp at htr
            · rw [q3, if_neg (by omega)] at hRe
              intro he
              subst he
              split at hRe <;> cases hRe
          rw [hx, if_neg (by simp), cond_if, if_pos (by simp [hL0]), cond_if, if_pos (by simpa using he7), bind_of hK]
        · rw [if_pos (by
            rw [Bool.not_eq_true']
            have : ¬ ((lowP (prodL a) (prodL b)).1 = r.1 ∧ (lowP (prodL a) (prodL b)).2 = r.2) := fun h => hx (Prod.ext h.1 h.2)
            rw [Bool.and_eq_false_iff, beq_eq_false_iff_ne, beq_eq_false_iff_ne]
            simp only [ne_eq]
            omega), bind_of hK]
      | succ d ih =>
        intro m i hi hm
        obtain ⟨m, rfl⟩ : ∃ m', m = m' + 1 := ⟨m - 1, by omega⟩
        have hlt : i < L.length := by omega
        have hK1 := ih m (i + 1) (by omega) (by omega)
        rw [show ((i + 1 : Nat) : Int) = (i : Int) + 1 by omega] at hK1
        have body : 2 ≤ L[i] ∧ chk (L[i] != 0) (cond (decide ((0 : Int) < (Int.tmod r.1 L[i]))) (chk (L[i] != 0) <| cond (decide ((0 : Int) < (Int.tmod r.2 L[i]))) (some false) (ev_law01_TrainPrimes_j2 n L[i] (r.1, r.2, ok) (i : Int) (W, P) (fun i14q => ev_law01_TrainPrimes_l1 n (L, 0) (r.1, r.2, ok) (W, P) by_5 (R, e) m i14q))) (ev_law01_TrainPrimes_j2 n L[i] (r.1, r.2, ok) (i : Int) (W, P) (fun i14q => ev_law01_TrainPrimes_l1 n (L, 0) (r.1, r.2, ok) (W, P) by_5 (R, e) m i14q))) = some true := by
          rcases hmem _ (List.getElem_mem hlt) with hz | hz
          · obtain ⟨q, hq, h1, h2, h3⟩ := miss_mem hla hz
            have h12 := h1.1
            have hdv : Int.tmod r.1 L[i] = 0 := by rw [hq, ← hA]; exact Int.tmod_eq_zero_of_dvd (Int.ofNat_dvd.2 h2)
            refine ⟨by omega, ?_⟩
            rw [chk_of (by simp only [bne_iff_ne, ne_eq]; omega), hdv, cond_if, if_neg (by decide), ev_law01_TrainPrimes_j2, chk_of (by simp only [bne_iff_ne, ne_eq]; omega)]
            dsimp only
            rw [hdv, cond_if, if_neg (by decide)]
            exact primes_l4 (by omega) (by omega) (by omega) (by omega) h3 hK1
          · obtain ⟨q, hq, h1, h2, h3⟩ := miss_mem hlb hz
            have h12 := h1.1
            have hdv : Int.tmod r.2 L[i] = 0 := by rw [hq, ← hB]; exact Int.tmod_eq_zero_of_dvd (Int.ofNat_dvd.2 h2)
            have hne : 0 < Int.tmod r.1 L[i] := by
              have h4 : 0 ≤ Int.tmod r.1 L[i] := Int.tmod_nonneg _ (by omega)
              have h5 : Int.tmod r.1 L[i] ≠ 0 := fun h0 => by
                have d1 := Int.dvd_of_tmod_eq_zero h0
                rw [hq, ← hA] at d1
                have d2 : q ∣ A := Int.ofNat_dvd.1 d1
                have d3 : q ∣ Nat.gcd A B := Nat.dvd_gcd d2 h2
                have h6 : Nat.gcd A B = 1 := by have h7 := hL.one; rw [← hA, ← hB] at h7; exact h7
                rw [h6] at d3
                have := Nat.le_of_dvd (by decide) d3
                omega
              omega
            refine ⟨by omega, ?_⟩
            rw [chk_of (by simp only [bne_iff_ne, ne_eq]; omega), cond_if, if_pos (decide_eq_true hne), chk_of (by simp only [bne_iff_ne, ne_eq]; omega), hdv, cond_if, if_neg (by decide), ev_law01_TrainPrimes_j2, chk_of (by simp only [bne_iff_ne, ne_eq]; omega)]
            dsimp only
            rw [cond_if, if_pos (by rw [Bool.not_eq_true', beq_eq_false_iff_ne]; omega)]
            exact primes_l4 (by omega) (by omega) (by omega) (by omega) h3 hK1
        rw [ev_law01_TrainPrimes_l1, cond_if, if_pos (decide_eq_true (by simp only; omega)), idx_nat (List.getElem?_eq_getElem hlt), cond_if, if_neg (by simp; omega), cond_if]
        by_cases h0 : 0 < i
        · have e2 : ((i : Int) - 1) = ((i - 1 : Nat) : Int) := by omega
          have hp := List.pairwise_iff_getElem.1 hasc (i - 1) i (by omega) hlt (by omega)
          rw [if_pos (decide_eq_true (by omega)), chk_of (in64_of (by omega)), e2, idx_nat (List.getElem?_eq_getElem (show i - 1 < L.length by omega)), cond_if, if_neg (by simp; omega)]
          exact body.2
        · rw [if_neg (by simp; omega)]
          exact body.2
    rw [ev_law01_TrainPrimes_j0]
    exact key L.length n 0 (by omega) (by omega)
  rw [bind_of hF, cond_if, if_neg (by simp), cond_if]
  by_cases h0 : 0 < L.length
  · have e0 : fewR W P r 4 1 = [] := by
      rcases fewR_spec (W := W) (P := P) (r := r) 4 1 rfl (by omega) with ⟨e, _⟩ | ⟨q, q1, q2, q3, q4, q5⟩
      · exact e
      · rw [hlen0 h0 q q2] at q4; simp at q4
    have hm := main [] 7 (by rw [e0]; rfl)
    rw [if_pos (decide_eq_true (by omega)), e0]
    exact hm
  · rw [if_neg (fun h => h0 (by have := of_decide_eq_true h; omega))]
    exact main _ _ rfl
end Go.Proofs.Ytabjhlfgcmmbfaa.Sy
