/- Whatever train of a shop there is, Fewest finds trains with its ratio. -/
import Derived.Test.YtabjhlfgcmmbfaaGTrainExact
import Derived.Test.YtabjhlfgcmmbfaaEvOf
set_option linter.unusedSimpArgs false
set_option linter.unusedVariables false
namespace Go.Proofs.Ytabjhlfgcmmbfaa.Sy
open Go.RowKit
set_option maxRecDepth 100000

theorem ev_exactL {n : Nat} (hn : 41000 < n) {W P : List Int} (hW : OkCut W) (hP : OkCut P) {t : List Int × List Int} {r : Int × Int} {b8 : Bool} {q pairs : Nat} (hq : 1 ≤ q ∧ q ≤ pairs) (hp4 : pairs ≤ 4) (ht1 : t.1 ∈ chP pairs W) (ht2 : t.2 ∈ chP pairs P) (htr : lowP (prodL t.1) (prodL t.2) = r) (hpos : 0 < (trP W P r q).length) (hR : (trP W P r q).length ≤ 2000) :
    ev_law01_TrainExact_j0 n (trP W P r q, 0) t (W, P) (r.1, r.2, b8) = some true := by
  obtain ⟨R, hRe⟩ : ∃ R, R = trP W P r q := ⟨_, rfl⟩
  have hmem : ∀ x ∈ R, x.1 ∈ chP q W ∧ x.2 ∈ chP q P ∧ lowP (prodL x.1) (prodL x.2) = r := fun x hx => mem_trP.1 (hRe ▸ hx)
  have hlen : ∀ x ∈ R, x.1.length = q ∧ x.2.length = q := fun x hx => ⟨(mem_chP q _ _ (hmem x hx).1).1, (mem_chP q _ _ (hmem x hx).2.1).1⟩
  have tl := (mem_chP pairs _ _ ht1).1
  have hnd : R.Nodup := hRe ▸ nodup_trP hW.asc hP.asc
  have hK := knownN (n := n) (by omega)
  rw [← hRe] at hpos hR ⊢
  obtain ⟨x0, R', hRc⟩ : ∃ x R', R = x :: R' := by
    cases R with
    | nil => simp at hpos
    | cons x R' => exact ⟨x, R', rfl⟩
  have hx0 := hlen x0 (by rw [hRc]; simp)
  have hg0 : R[((0 : Int)).toNat]? = some x0 := by rw [hRc]; rfl
  have key : ∀ (d m i : Nat) (b : Bool), i + d = R.length → d < m → (b = true ∨ ∃ j, i ≤ j ∧ R[j]? = some t) → ev_law01_TrainExact_l2 n (R, 0) (W, P) (r.1, r.2, b8) t m b (i : Int) = some true := by
    intro d
    induction d with
    | zero =>
      intro m i b hi hm hb
      obtain ⟨m, rfl⟩ : ∃ m', m = m' + 1 := ⟨m - 1, by omega⟩
      have hb : b = true := hb.resolve_right fun ⟨j, h1, h2⟩ => by have := (List.getElem?_eq_some_iff.1 h2).1; omega
      rw [ev_law01_TrainExact_l2, cond_if, if_neg (by simp; omega), cond_if, if_pos hb, bind_of hK]
    | succ d ih =>
      intro m i b hi hm hb
      obtain ⟨m, rfl⟩ : ∃ m', m = m' + 1 := ⟨m - 1, by omega⟩
      have hlt : i < R.length := by omega
      have hxm := hmem _ (List.getElem_mem hlt)
      have hxl := hlen _ (List.getElem_mem hlt)
      have j3 : ev_law01_TrainExact_j3 n b (i : Int) (R, 0) t (fun b19q i20q => ev_law01_TrainExact_l2 n (R, 0) (W, P) (r.1, r.2, b8) t m b19q i20q) = some true := by
        rw [ev_law01_TrainExact_j3, cond_if]
        cases b with
        | true => rw [if_pos rfl, chk_of (in64_of (by omega))]; exact ih m (i + 1) true (by omega) (by omega) (.inl rfl)
        | false =>
          obtain ⟨j, h1, h2⟩ := hb.resolve_left (by decide)
          rw [if_neg (by decide), idx_nat (List.getElem?_eq_getElem hlt), bind_of (law_equal (by omega) (by omega) (by omega)), chk_of (in64_of (by omega))]
          refine ih m (i + 1) _ (by omega) (by omega) ?_
          by_cases hj : j = i
          · subst hj
            rw [List.getElem?_eq_getElem hlt] at h2
            left; rw [Option.some.inj h2]; simp
          · exact .inr ⟨j, by omega, h2⟩
      have hof := law_of (n := n) (by omega) hW hP ⟨hq.1, by omega⟩ hxm.1 hxm.2.1 hxm.2.2
      rw [ev_law01_TrainExact_l2, cond_if, if_pos (decide_eq_true (by simp only; omega)), idx_nat (List.getElem?_eq_getElem hlt), bind_of hof, cond_if, if_neg (by decide), idx_of (by decide) hg0, cond_if, if_neg (by simp; omega), cond_if]
      by_cases h0 : 0 < i
      · have e : ((i : Int) - 1) = ((i - 1 : Nat) : Int) := by omega
        have hlt' : i - 1 < R.length := by omega
        have hne : R[i] ≠ R[i - 1] := fun e => by
          have := (List.getElem_inj hnd).1 e
          omega
        rw [if_pos (decide_eq_true (by omega)), chk_of (in64_of (by omega)), e, idx_nat (List.getElem?_eq_getElem hlt'), bind_of (law_equal (by omega) (by omega) (by omega)), cond_if, if_neg (by
          rw [decide_eq_true_eq]
          rintro ⟨e1, e2⟩
          exact hne (Prod.ext e1 e2))]
        exact j3
      · rw [if_neg (by simp; omega)]
        exact j3
  rw [ev_law01_TrainExact_j0, cond_if, if_neg (by simp), cond_if, if_neg (by rw [beq_iff_eq]; simp only; omega), idx_of (by decide) hg0, cond_if, if_neg (by simp; omega), ev_law01_TrainExact_j1, idx_of (by decide) hg0]
  refine key R.length n 0 _ (by omega) (by omega) ?_
  by_cases hqp : q = pairs
  · right
    have : t ∈ R := hRe ▸ mem_trP.2 ⟨hqp ▸ ht1, hqp ▸ ht2, htr⟩
    obtain ⟨j, hj⟩ := List.mem_iff_getElem?.1 this
    exact ⟨j, by omega, hj⟩
  · left
    rw [decide_eq_true_eq]; omega
theorem trainExact_evx {c1 : List Int} {c2 : List Int} {by_3 : List Int} (h0 : (c1.length ≤ maxLen ∧ ∀ el76 ∈ c1, (Lit.int .u8 el76).wf = true) ∧ (c2.length ≤ maxLen ∧ ∀ el76 ∈ c2, (Lit.int .u8 el76).wf = true)) (h1 : (by_3.length ≤ maxLen ∧ ∀ el76 ∈ by_3, (Lit.int .u8 el76).wf = true)) :
    ∃ n, ev_law01_TrainExact n c1 c2 by_3 = some true := by
  obtain ⟨⟨l1, g1⟩, l2, g2⟩ := h0
  obtain ⟨l3, g3⟩ := h1
  rw [maxLen_eq] at l1 l2 l3
  refine ⟨2000000 + c1.length + c2.length + by_3.length, ?_⟩
  have hnn : 2000000 + c1.length + c2.length + by_3.length > 41000 := by omega
  have hsh := ev_shop (n := 2000000 + c1.length + c2.length + by_3.length) (c1 := c1) (c2 := c2) (by omega) l1 l2 (u8_of g1) (u8_of g2)
  generalize hN : 2000000 + c1.length + c2.length + by_3.length = n at hsh hnn ⊢
  have hW := made_ok (c := c1) (lo := 30) (most := 6) (u8_of g1) (by decide) (by decide)
  have hP := made_ok (c := c2) (lo := 6) (most := 6) (u8_of g2) (by decide) (by decide)
  have hP6 : (mdF 6 (vals c2 6) []).length ≤ 6 := (mdF_ok (lo := 6) (most := 6) _ [] (vals_ok (u8_of g2)) ⟨by simp, .nil, by simp⟩).len
  generalize mdF 6 (vals c1 30) [] = W at hsh hW
  generalize mdF 6 (vals c2 6) [] = P at hsh hP hP6
  have w1 := hW.len
  have p1 := hP.len
  obtain ⟨pairs, hpe, hp3⟩ : ∃ pairs : Nat, 1 + Int.tmod (by_3.length : Int) 3 = (pairs : Int) ∧ 1 ≤ pairs ∧ pairs ≤ 3 := by
    have e : Int.tmod (by_3.length : Int) 3 = ((by_3.length % 3 : Nat) : Int) := by rw [Int.tmod_eq_emod_of_nonneg (by omega)]; rfl
    exact ⟨1 + by_3.length % 3, by rw [e]; omega, by omega⟩
  rw [ev_law01_TrainExact, bind_of hsh, hpe]
  dsimp only
  rw [chk_of (in64_of (by omega)), bind_of (ev_picked (by omega) (by omega) (by omega) (u8_of g3) l3 (by omega))]
  have ht1 := pick_chP (W := W) (by_ := by_3) (k := 0) (pairs := pairs) hW
  have ht2 := pick_chP (W := P) (by_ := by_3) (k := 1) (pairs := pairs) hP
  generalize pkF W by_3 0 pairs = a at ht1
  generalize pkF P by_3 1 pairs = b at ht2
  dsimp only
  obtain ⟨a1, a2, a3⟩ := chP_prod (by omega) hW.ok ht1
  obtain ⟨b1, b2, b3⟩ := chP_prod (by omega) hP.ok ht2
  rw [bind_of (law_product (by omega) (by omega) a3), bind_of (law_product (by omega) (by omega) b3), bind_of (law_lowest (by omega) (by omega) (by omega)), cond_if]
  dsimp only
  have hK := knownN (n := n) (by omega)
  have hL := low_Low a1.1 b1.1
  have hd := low_dvd (y := prodL b) a1.1
  by_cases hok : (decide ((lowP (prodL a) (prodL b)).1 ≤ 1000000) && decide ((lowP (prodL a) (prodL b)).2 ≤ 1000000)) = true
  · rw [if_neg (by rw [hok]; decide)]
    have hok' := hok
    simp only [Bool.and_eq_true, decide_eq_true_eq] at hok'
    generalize hr : lowP (prodL a) (prodL b) = r at hL hd hok' ⊢
    have hrp := hL.pos
    have hpow : P.length ^ 4 < n := by
      have : P.length ^ 4 ≤ 6 ^ 4 := Nat.pow_le_pow_left hP6 4
      omega
    have hF := ev_Fewest (n := n) (by omega) hW hP (a := r.1) (b := r.2) (by omega) (by omega) hpow
    rw [hL.self, few_eq hL hW.ok hP.ok 4 0 rfl] at hF
    obtain ⟨A, hA⟩ : ∃ A : Nat, (A : Int) = r.1 := ⟨r.1.toNat, by omega⟩
    obtain ⟨B, hB⟩ : ∃ B : Nat, (B : Int) = r.2 := ⟨r.2.toNat, by omega⟩
    obtain ⟨la, hla⟩ := exists_primes (n := A) (by omega)
    obtain ⟨lb, hlb⟩ := exists_primes (n := B) (by omega)
    have hM := ev_Missing (n := n) (by omega) hW hP (a := r.1) (b := r.2) (by omega) (by omega) (A := A) (B := B) (by rw [hL.self]; exact hA) (by rw [hL.self]; exact hB) hla hlb
    rw [miss_none hla (w := a) (by rw [hA]; exact hd.1) (mem_chP pairs _ _ ht1).2, miss_none hlb (w := b) (by rw [hB]; exact hd.2) (mem_chP pairs _ _ ht2).2] at hM
    have hM' : ev_train_Missing n W P r.1 r.2 = some ([], 0) := hM
    have htr : ((a, b) : List Int × List Int) ∈ trP W P r pairs := mem_trP.2 ⟨ht1, ht2, hr⟩
    rcases fewR_spec (W := W) (P := P) (r := r) 4 1 rfl (by omega) with ⟨e, hq⟩ | ⟨q, q1, q2, q3, q4, q5⟩
    · rw [hq pairs (by omega) (by omega)] at htr
      simp at htr
    · have hqp : q ≤ pairs := by
        rcases Nat.lt_or_ge pairs q with h | h
        · rw [q5 pairs (by omega) h] at htr; simp at htr
        · exact h
      rw [show (0 : Nat) + 1 = 1 from rfl, q3, if_neg (by omega)] at hF
      rw [bind_of (law_copied (by omega) (by omega))]
      dsimp only
      by_cases h2 : 2000 < (trP W P r q).length
      · rw [if_pos h2] at hF
        rw [bind_of hF, bind_of (law_copied (by omega) (by omega))]
        dsimp only
        rw [bind_of hM', cond_if, if_neg (by decide), cond_if, if_neg (by decide), cond_if, if_pos (by decide), cond_if, if_neg (by decide), ev_law01_TrainExact_j0, cond_if, if_pos (by decide), cond_if, if_pos (by decide), bind_of hK]
      · rw [if_neg h2] at hF
        rw [bind_of hF, bind_of (law_copied (by omega) (by omega))]
        dsimp only
        rw [bind_of hM', cond_if, if_neg (by decide), cond_if, if_neg (by decide), cond_if, if_neg (by simp)]
        exact ev_exactL (by omega) hW hP (t := (a, b)) ⟨q1, hqp⟩ (by omega) ht1 ht2 hr q4 (by omega)
  · have hok' : (decide ((lowP (prodL a) (prodL b)).1 ≤ 1000000) && decide ((lowP (prodL a) (prodL b)).2 ≤ 1000000)) = false := by simpa using hok
    rw [if_pos (by rw [hok']; decide), bind_of hK]
end Go.Proofs.Ytabjhlfgcmmbfaa.Sy
