/- From the barrel: what the law computes is true. -/
import Derived.Test.YtgkoldcmbcbbpaaGTopTrainDrop
import Derived.Test.YtgkoldcmbcbbpaaEvTrain
import Derived.Test.YtgkoldcmbcbbpaaEvDrop
import Derived.Test.YtgkoldcmbcbbpaaEvPub
set_option linter.unusedSimpArgs false
set_option linter.unusedVariables false
namespace Go.Proofs.Ytgkoldcmbcbbpaa.Sy
open Go.RowKit
set_option maxRecDepth 100000

theorem pubTrain_td : ev_top_pubTrain 2200 = some true := by decide +kernel
theorem pubDrop_td : ev_top_pubDrop 2200 = some true := by decide +kernel
theorem pubPairs_ev {n : Nat} (hn : 10 < n) {by_ : List (Int × Int)} (hb : ∀ x ∈ by_, (0 ≤ x.1 ∧ x.1 ≤ 255) ∧ (0 ≤ x.2 ∧ x.2 ≤ 255)) : ∃ l, ev_top_pubPairs n by_ 3 = some l ∧ l.length ≤ 3 ∧ ∀ p ∈ l, (40 ≤ p.1 ∧ p.1 ≤ 99) ∧ (6 ≤ p.2 ∧ p.2 ≤ 17) := by
  have key : ∀ (k m i : Nat) (acc : List (Int × Int)), i + k = 3 → k < m → acc.length = i → (∀ p ∈ acc, (40 ≤ p.1 ∧ p.1 ≤ 99) ∧ (6 ≤ p.2 ∧ p.2 ≤ 17)) → ∃ l, ev_top_pubPairs_l0 n 3 m (i : Int) by_ acc = some l ∧ l.length ≤ 3 ∧ ∀ p ∈ l, (40 ≤ p.1 ∧ p.1 ≤ 99) ∧ (6 ≤ p.2 ∧ p.2 ≤ 17) := by
    intro k
    induction k with
    | zero =>
      intro m i acc hi hm hl ha
      cases m with
      | zero => omega
      | succ m =>
        have h3 : (decide ((i : Int) < 3)) = false := by simp; omega
        rw [ev_top_pubPairs_l0, cond_if]
        split
        · rw [h3, cond_false]; exact ⟨_, rfl, by omega, ha⟩
        · exact ⟨_, rfl, by omega, ha⟩
    | succ k ih =>
      intro m i acc hi hm hl ha
      cases m with
      | zero => omega
      | succ m =>
        rw [ev_top_pubPairs_l0, cond_if]
        split
        · rename_i hlt
          have hlt : i < by_.length := by have := of_decide_eq_true hlt; omega
          obtain ⟨x, hx⟩ : ∃ x, x = by_[i] := ⟨_, rfl⟩
          obtain ⟨⟨g0, g1⟩, g2, g3⟩ := hb x (hx ▸ List.getElem_mem hlt)
          have t1 : Int.tmod x.1 60 = x.1 % 60 := Int.tmod_eq_emod_of_nonneg g0
          have t2 : Int.tmod x.2 12 = x.2 % 12 := Int.tmod_eq_emod_of_nonneg g2
          rw [cond_if, if_pos (by simp; omega), ev_top_pubPairs_j1, idx_nat (List.getElem?_eq_getElem hlt), ← hx, chk_of (in64_of (by omega)), chk_of (in64_of (by omega)), chk_of (in64_of (by omega)), chk_of (in64_of (by omega)), chk_of (room_iff.2 (by simp; omega)), chk_of (in64_of (by omega))]
          refine ih m (i + 1) _ (by omega) (by omega) (by simp [hl]) fun p hp => ?_
          rcases List.mem_append.1 hp with hp | hp
          · exact ha p hp
          · rw [List.mem_singleton] at hp; subst hp; simp only; omega
        · exact ⟨_, rfl, by omega, ha⟩
  exact key 3 n 0 [] (by omega) (by omega) rfl (by simp)
theorem topTrainDrop_evx {by_1 : List (Int × Int)} {circle2 : Int} {turns3 : Int} (h0 : (by_1.length ≤ maxLen ∧ ∀ el ∈ by_1, (Lit.int .u8 el.1).wf = true ∧ (Lit.int .u8 el.2).wf = true)) (h1 : (Lit.int .u8 circle2).wf = true) (h2 : (Lit.int .u8 turns3).wf = true) :
    ∃ n, ev_top_TopTrainDrop n by_1 circle2 turns3 = some true := by
  have w1 := wf8.1 h1
  have w2 := wf8.1 h2
  refine ⟨2200, ?_⟩
  obtain ⟨l, hl, hlen, hp⟩ := pubPairs_ev (n := 2200) (by decide) fun x hx => ⟨wf8.1 (h0.2 x hx).1, wf8.1 (h0.2 x hx).2⟩
  have hok : OkP l := ⟨fun p hp' => by have := hp p hp'; omega, by omega⟩
  have hpos : ∀ p ∈ l, 1 ≤ p.1 ∧ 1 ≤ p.2 := fun p hp' => by have := hp p hp'; omega
  have hW : 1 ≤ wP l ∧ wP l ≤ 1000000 ∧ 1 ≤ pP l ∧ pP l ≤ 5000 := by
    have : ∀ (l : List (Int × Int)), (∀ p ∈ l, (40 ≤ p.1 ∧ p.1 ≤ 99) ∧ (6 ≤ p.2 ∧ p.2 ≤ 17)) → (1 ≤ wP l ∧ wP l ≤ 99 ^ l.length) ∧ (1 ≤ pP l ∧ pP l ≤ 17 ^ l.length) := by
      intro l
      induction l with
      | nil => intro _; simp [wP, pP]
      | cons p l ih =>
        intro h
        obtain ⟨h1, h2⟩ := h p (by simp)
        obtain ⟨i1, i2⟩ := ih fun q hq => h q (by simp [hq])
        have a := mul_bound (show 1 ≤ p.1 ∧ p.1 ≤ 99 by omega) i1
        have b := mul_bound (show 1 ≤ p.2 ∧ p.2 ≤ 17 by omega) i2
        have e : (99 : Int) ^ (l.length + 1) = 99 * 99 ^ l.length := by rw [Int.pow_succ, Int.mul_comm]
        have e2 : (17 : Int) ^ (l.length + 1) = 17 * 17 ^ l.length := by rw [Int.pow_succ, Int.mul_comm]
        simp only [wP, pP, List.length_cons, e, e2]; omega
    obtain ⟨a, b⟩ := this l hp
    have : ∀ j : Fin 4, (99 : Int) ^ j.1 ≤ 1000000 ∧ (17 : Int) ^ j.1 ≤ 5000 := by decide
    have := this ⟨l.length, by omega⟩
    simp only at this
    omega
  obtain ⟨num, hnum⟩ : ∃ x, x = (lowP (wP l) (pP l)).1 := ⟨_, rfl⟩
  obtain ⟨den, hden⟩ : ∃ x, x = (lowP (wP l) (pP l)).2 := ⟨_, rfl⟩
  obtain ⟨q1, q2, q3, q4⟩ := lowP_pos hW.1 hW.2.2.1
  rw [← hnum] at q1 q2
  rw [← hden] at q3 q4
  have hT := ev_Turns (n := 2200) (by decide) hok
  have hC := ev_Cycle (n := 2200) (by decide) hok
  rw [← hnum, ← hden] at hT
  obtain ⟨c1, c2, _⟩ := cycP_dvd hpos
  have hcd : den ∣ cycP l := by rw [hden]; exact c2 _ (arb_mem_last hpos)
  have hmod : Int.tmod (cycP l) den = 0 := by rw [Int.tmod_eq_emod_of_nonneg (by omega)]; exact Int.emod_eq_zero_of_dvd hcd
  have t4 : Int.tmod turns3 4 = turns3 % 4 := Int.tmod_eq_emod_of_nonneg w2.1
  obtain ⟨t, ht⟩ : ∃ t, 1 + Int.tmod turns3 4 = t := ⟨_, rfl⟩
  have rt : 1 ≤ t ∧ t ≤ 4 := by omega
  obtain ⟨c, hc⟩ : ∃ c, 1 + circle2 = c := ⟨_, rfl⟩
  have rc : 1 ≤ c ∧ c ≤ 256 := by omega
  have b1 := mul_bound (show 1 ≤ den ∧ den ≤ 5000 by omega) rt
  have b2 := mul_bound b1 rc
  have b3 := mul_bound rt (show 1 ≤ num ∧ num ≤ 1000000 by omega)
  have hdiv : Int.tdiv (den * t) den = t := by rw [Int.mul_comm, Int.mul_tdiv_cancel _ (by omega)]
  rw [ev_top_TopTrainDrop, bind_of hl, List.nil_append, chk_of (room_iff.2 (by simp; omega)), bind_of hT, chk_of (room_iff.2 (by simp; omega)), bind_of hC, cond_if, if_neg (by simp), cond_if, if_neg (by simp), cond_if, if_neg (by simp; omega), cond_if, if_neg (by simp; omega), cond_if, if_neg (by simp; omega), chk_of (by simp; omega), cond_if, if_neg (by simp [hmod]),
    ev_top_TopTrainDrop_j0, chk_of (in64_of (by omega)), ht, chk_of (in64_of (by omega)), chk_of (in64_of (by simp only; omega)), chk_of (by simp; omega), hdiv, chk_of (in64_of (by omega)), chk_of (in64_of (by simp only; omega)), chk_of (in64_of (by omega)), hc, chk_of (in64_of (by omega)), chk_of (in64_of (by simp only; omega))]
  have hj1 : ev_top_TopTrainDrop_j1 2200 = some true := by rw [ev_top_TopTrainDrop_j1, bind_of pubTrain_td, cond_if, if_pos rfl, bind_of pubDrop_td]
  simp only
  obtain ⟨H, hH⟩ : ∃ H, H = t * num := ⟨_, rfl⟩
  obtain ⟨L, hL⟩ : ∃ L, L = den * t * c := ⟨_, rfl⟩
  rw [← hH, ← hL, cond_if]
  rw [← hH] at b3
  rw [← hL] at b2
  by_cases hh : 2000 ≤ H
  · rw [if_pos (by simpa using hh)]; exact hj1
  rw [if_neg (by simpa using hh), cond_if]
  by_cases hh2 : 3000 < L
  · rw [if_pos (by simpa using hh2)]; exact hj1
  rw [if_neg (by simpa using hh2)]
  -- there is time, and line
  obtain ⟨lo, hlo⟩ : ∃ x, x = L / H := ⟨_, rfl⟩
  obtain ⟨hi, hhi⟩ : ∃ x, x = -((-L) / H) := ⟨_, rfl⟩
  have f1 : lo * H ≤ L ∧ L < lo * H + H := by
    have h1 := Int.mul_ediv_add_emod L H
    have h2 := Int.emod_nonneg L (show H ≠ 0 by omega)
    have h3 := Int.emod_lt_of_pos L (show 0 < H by omega)
    rw [← hlo, Int.mul_comm] at h1
    omega
  have f2 : L ≤ hi * H ∧ hi * H < L + H := by
    have h1 := Int.mul_ediv_add_emod (-L) H
    have h2 := Int.emod_nonneg (-L) (show H ≠ 0 by omega)
    have h3 := Int.emod_lt_of_pos (-L) (show 0 < H by omega)
    have e : hi * H = -(H * ((-L) / H)) := by rw [hhi, Int.neg_mul, Int.mul_comm]
    rw [e]; omega
  have g1 : 0 ≤ lo := by rw [hlo]; exact Int.ediv_nonneg (by omega) (by omega)
  have g2 : lo ≤ hi := by
    rcases Int.lt_or_le hi lo with h | h
    · have : hi * H + H ≤ lo * H := by
        have := Int.mul_le_mul_of_nonneg_right (show hi + 1 ≤ lo by omega) (show 0 ≤ H by omega)
        rw [Int.add_mul] at this; omega
      omega
    · exact h
  have g3 : 1 ≤ hi := by
    rcases Int.lt_or_le hi 1 with h | h
    · have : hi * H ≤ 0 := Int.mul_nonpos_of_nonpos_of_nonneg (by omega) (by omega)
      omega
    · exact h
  have g4 : hi ≤ 3000 := by
    rcases Int.lt_or_le 3000 hi with h | h
    · have := Int.mul_le_mul_of_nonneg_right (show 3001 ≤ hi by omega) (show 0 ≤ H by omega)
      omega
    · exact h
  have hdown := pubDown_evp (n := 2200) (a := L) (b := H) (by omega) (by omega)
  have hup := pubUp_evp (n := 2200) (a := L) (b := H) (by omega) (by omega)
  rw [← hlo] at hdown
  rw [← hhi] at hup
  have hoh : OkH (List.replicate 24 (lo, hi)) := ⟨by simp, fun x hx => by obtain ⟨_, rfl⟩ := List.mem_replicate.1 hx; simp only; omega⟩
  have hG := ev_Goes (n := 2200) (by decide) (c1 := L) (by omega) hoh (start := L) (by omega) (Int.le_refl _)
  simp only [List.map_replicate] at hG
  rw [ev_top_TopTrainDrop_j2, ht, hc]
  simp only [hdiv]
  rw [← hH, ← hL, bind_of hdown, bind_of hup, bind_of (show ev_top_pubSpan 2200 lo hi = some (lo, hi) from rfl), bind_of (pubHours_evp 2200 (by decide) lo hi), bind_of hG, cond_if, if_pos (by simp)]
  rw [goesG_const (show 0 < hi by omega) 2000 L 0 (by omega)]
  have u1 : L / hi ≤ H := by
    have := Int.ediv_le_ediv (show 0 < hi by omega) f2.1
    rw [Int.mul_comm, Int.mul_ediv_cancel _ (by omega)] at this; exact this
  have u0 := Int.ediv_nonneg (show 0 ≤ L by omega) (show 0 ≤ hi by omega)
  have u2 : H ≤ ((goesG (List.replicate 24 lo) 2000 L 0 : Nat) : Int) := by
    rcases Int.lt_or_le 0 lo with h | h
    · rw [goesG_const h 2000 L 0 (by omega)]
      have : H ≤ L / lo := by
        rw [Int.le_ediv_iff_mul_le h, Int.mul_comm]; exact f1.1
      omega
    · have : lo = 0 := by omega
      rw [this, goesG_const0 2000 L 0 (by omega)]; omega
  have hin : ev_top_pubIn 2200 H ((0 + min (L / hi).toNat 2000 : Nat) : Int) ((goesG (List.replicate 24 lo) 2000 L 0 : Nat) : Int) = some true := by
    rw [ev_top_pubIn, cond_if, if_pos (by simp; omega)]; congr 1; simpa using u2
  rw [bind_of hin, cond_if, if_pos rfl, bind_of pubTrain_td, cond_if, if_pos rfl, bind_of pubDrop_td]
end Go.Proofs.Ytgkoldcmbcbbpaa.Sy
