/- Rounds: the towers of each winder as lists; a share as a list of rounds. -/
import Derived.Test.YtohjpfkcahlfkaaGreatPfEvRoundT
set_option linter.unusedSimpArgs false
set_option linter.unusedVariables false
namespace Go.Proofs.YtohjpfkcahlfkaaGreat.Sy
open Go.RowKit
set_option maxRecDepth 100000
theorem has_minus {s p k : Int} (hk : 0 ≤ k ∧ k < 8) : hasP (minusP s p) k = (hasP s k && !hasP p k) := by
  unfold hasP minusP;rw [Int.toNat_natCast, Nat.testBit_and, Nat.testBit_xor];have : Nat.testBit 255 k.toNat = true := by
    have : k.toNat = 0 ∨ k.toNat = 1 ∨ k.toNat = 2 ∨ k.toNat = 3 ∨ k.toNat = 4 ∨ k.toNat = 5 ∨ k.toNat = 6 ∨ k.toNat = 7 := by omega
    rcases this with h | h | h | h | h | h | h | h <;> rw [h] <;> decide
  rw [this];cases Nat.testBit s.toNat k.toNat <;> cases Nat.testBit p.toNat k.toNat <;> rfl
theorem sub_has {p s k : Int} (h : p.toNat &&& s.toNat = p.toNat) (hp : hasP p k = true) : hasP s k = true := by
  unfold hasP at *;rw [← h, Nat.testBit_and, Bool.and_eq_true] at hp;exact hp.2
theorem sub_of {p s : Int} (hp : 0 ≤ p ∧ p < 256) (h : ∀ k : Int, 0 ≤ k → k < 8 → hasP p k = true → hasP s k = true) : p.toNat &&& s.toNat = p.toNat := by
  apply Nat.eq_of_testBit_eq;intro i;rw [Nat.testBit_and]
  by_cases hi : i < 8
  · have := h i (by omega) (by omega);unfold hasP at this;rw [Int.toNat_natCast] at this;cases h1 : Nat.testBit p.toNat i
    · rfl
    · rw [this h1]; rfl
  · have hpw : (2 : Nat) ^ 8 ≤ 2 ^ i := Nat.pow_le_pow_right (by decide) (by omega);rw [Nat.testBit_lt_two_pow (by omega)]; rfl
section
variable {t : List Tw} {w : List (List Int)} {g : List Wd} {rest wage : Int}
def TrOk (t : List Tw) (w : List (List Int)) (g : List Wd) (rest : Int) : Int → Int → List Trp → Int → Prop
  | _, goal, [], m => goal = 0 ∧ m = 0
  | x, goal, (y, l) :: ts, m => x ≤ y ∧ y < g.length ∧ ∃ part m1 m2, (0 < part ∧ part < 256) ∧ part.toNat &&& goal.toNat = part.toNat ∧ BstW t w g rest y part (some (l, m1)) ∧ m = m1 + m2 ∧ TrOk t w g rest (y + 1) (minusP goal part) ts m2
theorem TrOk.low {x x' goal : Int} (hx : x' ≤ x) : ∀ {ts : List Trp} {m : Int}, TrOk t w g rest x goal ts m → TrOk t w g rest x' goal ts m
  | [], _, h => h
  | (y, l) :: ts, m, h => ⟨Int.le_trans hx h.1, h.2⟩
theorem ShC.tr {x goal : Int} {ts : List Trp} {m : Int} (hc : ShC t w g rest x goal ts m) : TrOk t w g rest x goal ts m := by
  induction hc with
  | done => exact ⟨rfl, rfl⟩
  | skip _ _ _ ih => exact ih.low (by omega)
  | take h1 h0 hp hs hb _ ih => exact ⟨Int.le_refl _, h1, _, _, _, hp, hs, hb, rfl, ih⟩
structure OkLs (K : Nat) (tw : List Int) (i : Nat) (ls : List (List Int)) : Prop where
  len : ls.length = K
  nd : ∀ (j : Nat) (l : List Int), ls[j]? = some l → l.Nodup ∧ l.length ≤ i ∧ ∀ s ∈ l, s ∈ tw.take i
  dj : ∀ (j j' : Nat) (l l' : List Int), j ≠ j' → ls[j]? = some l → ls[j']? = some l' → ∀ s ∈ l, s ∉ l'
  all : ∀ s ∈ tw.take i, ∃ l ∈ ls, s ∈ l
def goalOf (ls : List (List Int)) (x : Nat) : Int := setP 0 ((ls.drop x).flatten)
theorem ShC.skip' {x goal : Int} {ts : List Trp} {m : Int} (hx : x < g.length) (hc : ShC t w g rest (x + 1) goal ts m) : ShC t w g rest x goal ts m := by
  by_cases h0 : goal = 0
  · subst h0
    cases hc with
    | done => exact .done x
    | skip _ h0 _ => exact absurd rfl h0
    | take _ h0 _ _ _ _ => exact absurd rfl h0
  · exact .skip hx h0 hc
theorem goal_low {tw : List Int} (h8 : ∀ s ∈ tw, 0 ≤ s ∧ s < 8) {ls : List (List Int)} {K : Nat} (hls : OkLs K tw tw.length ls) (x : Nat) : (∀ s ∈ (ls.drop x).flatten, 0 ≤ s ∧ s < 8) ∧ (0 ≤ goalOf ls x ∧ goalOf ls x < 256) ∧ ∀ k : Int, 0 ≤ k → (hasP (goalOf ls x) k = true ↔ ∃ l ∈ ls.drop x, k ∈ l) := by
  have h1 : ∀ s ∈ (ls.drop x).flatten, 0 ≤ s ∧ s < 8 := fun s hs => by
    obtain ⟨l, hl, hsl⟩ := List.mem_flatten.1 hs;obtain ⟨j, hj⟩ := List.getElem?_of_mem (List.mem_of_mem_drop hl);have := (hls.nd j l hj).2.2 s hsl;exact h8 s (List.mem_of_mem_take this)
  refine ⟨h1, setP_ok _ 0 (by decide) h1, fun k k0 => ?_⟩;rw [goalOf, has_setP _ 0 k k0 fun y hy => (h1 y hy).1, hasP_zero, List.mem_flatten];simp
theorem goal_step {tw : List Int} (h8 : ∀ s ∈ tw, 0 ≤ s ∧ s < 8) {ls : List (List Int)} {K : Nat} (hls : OkLs K tw tw.length ls) {x : Nat} {l : List Int} (hx : ls[x]? = some l) :
    (∀ k : Int, 0 ≤ k → k < 8 → (hasP (goalOf ls x) k = true ↔ k ∈ l ∨ hasP (goalOf ls (x + 1)) k = true)) ∧ minusP (goalOf ls x) (setP 0 l) = goalOf ls (x + 1) ∧ (0 ≤ setP 0 l ∧ setP 0 l < 256) ∧ (setP 0 l).toNat &&& (goalOf ls x).toNat = (setP 0 l).toNat ∧ (l ≠ [] → 0 < setP 0 l ∧ goalOf ls x ≠ 0) ∧ (l = [] → goalOf ls x = goalOf ls (x + 1)) := by
  have hxl : x < ls.length := (List.getElem?_eq_some_iff.1 hx).1;have hxe : ls[x] = l := Option.some.inj ((List.getElem?_eq_getElem hxl).symm.trans hx);obtain ⟨g1, g2, g3⟩ := goal_low h8 hls x;obtain ⟨g4, g5, g6⟩ := goal_low h8 hls (x + 1);have hl8 : ∀ s ∈ l, 0 ≤ s ∧ s < 8 := fun s hs => h8 s (List.mem_of_mem_take ((hls.nd x l hx).2.2 s hs))
  have hp := setP_ok l 0 (by decide) hl8;have hhas := fun k (k0 : 0 ≤ k) => has_setP l 0 k k0 fun y hy => (hl8 y hy).1
  have hd : ls.drop x = l :: ls.drop (x + 1) := by rw [List.drop_eq_getElem_cons hxl, hxe]
  have hiff : ∀ k : Int, 0 ≤ k → k < 8 → (hasP (goalOf ls x) k = true ↔ k ∈ l ∨ hasP (goalOf ls (x + 1)) k = true) := fun k k0 k8 => by
    rw [g3 k k0, g6 k k0, hd]
    constructor
    · rintro ⟨l', hl', hk⟩
      rcases List.mem_cons.1 hl' with rfl | hl'
      · exact .inl hk
      · exact .inr ⟨l', hl', hk⟩
    · rintro (hk | ⟨l', hl', hk⟩)
      · exact ⟨l, List.Mem.head _, hk⟩
      · exact ⟨l', List.mem_cons_of_mem _ hl', hk⟩
  refine ⟨hiff, hasP_ext (minus_ok g2) g5 fun k k0 k8 => ?_, hp, sub_of hp fun k k0 k8 hk => ?_, fun hne => ?_, fun he => ?_⟩
  · have hdis : k ∈ l → hasP (goalOf ls (x + 1)) k = false := fun hk => by
      cases hc : hasP (goalOf ls (x + 1)) k
      · rfl
      · obtain ⟨l', hl', hk'⟩ := (g6 k k0).1 hc;obtain ⟨j, hj⟩ := List.getElem?_of_mem hl';rw [List.getElem?_drop] at hj;exact absurd hk' (hls.dj x (x + 1 + j) l l' (by omega) hx hj k hk)
    rw [has_minus ⟨k0, k8⟩, Bool.eq_iff_iff, Bool.and_eq_true, hiff k k0 k8, Bool.not_eq_true'];have hh := hhas k k0;rw [hasP_zero] at hh
    constructor
    · rintro ⟨hk | hk, hn⟩
      · rw [hh.2 (.inl hk)] at hn; cases hn
      · exact hk
    · intro hk;refine ⟨.inr hk, ?_⟩;cases hc : hasP (setP 0 l) k
      · rfl
      · rcases hh.1 hc with hm | hm
        · rw [hdis hm] at hk; cases hk
        · cases hm
  · refine (hiff k k0 k8).2 (.inl ?_)
    rcases (hhas k k0).1 hk with hm | hm
    · exact hm
    · rw [hasP_zero] at hm; cases hm
  · obtain ⟨s, hs⟩ := List.exists_mem_of_ne_nil l hne;have h1 := (hhas s (hl8 s hs).1).2 (.inl hs);have h2 := (hiff s (hl8 s hs).1 (hl8 s hs).2).2 (.inl hs)
    constructor
    · by_cases e : setP 0 l = 0
      · rw [e, hasP_zero] at h1; cases h1
      · omega
    · intro e;rw [e, hasP_zero] at h2; cases h2
  · rw [goalOf, goalOf, hd, he, List.flatten_cons, List.nil_append]
theorem okls0 {K : Nat} {tw : List Int} : OkLs K tw 0 (List.replicate K []) := by
  refine ⟨by simp, fun j l hj => ?_, fun j j' l l' _ hj _ s hs => ?_, by simp⟩
  · rw [List.getElem?_replicate] at hj
    split at hj
    · cases hj; exact ⟨by simp, by simp, by simp⟩
    · cases hj
  · rw [List.getElem?_replicate] at hj
    split at hj
    · cases hj; simp at hs
    · cases hj
theorem goal_all {tw : List Int} (h8 : ∀ s ∈ tw, 0 ≤ s ∧ s < 8) {ls : List (List Int)} {K : Nat} (hls : OkLs K tw tw.length ls) : goalOf ls 0 = setP 0 tw := by
  obtain ⟨g1, g2, g3⟩ := goal_low h8 hls 0;refine hasP_ext g2 (setP_ok tw 0 (by decide) h8) fun k k0 k8 => ?_
  rw [Bool.eq_iff_iff, g3 k k0, has_setP tw 0 k k0 fun y hy => (h8 y hy).1, hasP_zero, List.drop_zero]
  constructor
  · rintro ⟨l, hl, hk⟩
    obtain ⟨j, hj⟩ := List.getElem?_of_mem hl;have := (hls.nd j l hj).2.2 k hk;exact .inl (List.mem_of_mem_take this)
  · rintro (hk | hk)
    · exact hls.all k (by rw [List.take_of_length_le (Nat.le_refl _)]; exact hk)
    · cases hk
theorem okls_step {K : Nat} {tw : List Int} (ln : tw.Nodup) {i : Nat} (hlt : i < tw.length) {ls : List (List Int)} (hls : OkLs K tw i ls) {x : Nat} (hxl : x < ls.length) : OkLs K tw (i + 1) (ls.set x (ls[x] ++ [tw[i]])) := by
  have hlen := hls.len;have hxe := List.getElem?_eq_getElem hxl;obtain ⟨n1, n2, n3⟩ := hls.nd _ _ hxe;have hnot : tw[i] ∉ tw.take i := fun hm => by
    obtain ⟨j, hj⟩ := List.getElem?_of_mem hm;rw [List.getElem?_take] at hj
    split at hj
    · rename_i hji
      have hjl : j < tw.length := by omega
      rw [List.getElem?_eq_getElem hjl] at hj;exact (List.pairwise_iff_getElem.1 ln j i hjl hlt hji) (Option.some.inj hj)
    · cases hj
  have hsub : ∀ s ∈ tw.take i, s ∈ tw.take (i + 1) := fun s hs => by
    rw [List.take_succ_eq_append_getElem hlt]; exact List.mem_append.2 (.inl hs)
  have hnext : OkLs K tw (i + 1) (ls.set x (ls[x] ++ [tw[i]])) := by
    have hget : ∀ (j : Nat) (l : List Int), (ls.set x (ls[x] ++ [tw[i]]))[j]? = some l → (j = x ∧ l = ls[x] ++ [tw[i]]) ∨ (j ≠ x ∧ ls[j]? = some l) := fun j l hj => by
      rw [List.getElem?_set] at hj
      by_cases e : x = j
      · rw [if_pos e, if_pos hxl] at hj;exact .inl ⟨e.symm, (Option.some.inj hj).symm⟩
      · rw [if_neg e] at hj;exact .inr ⟨fun h => e h.symm, hj⟩
    refine ⟨by rw [List.length_set]; exact hlen, fun j l hj => ?_, fun j j' l l' hne hj hj' s hs => ?_, fun s hs => ?_⟩
    · rcases hget j l hj with ⟨_, rfl⟩ | ⟨_, hj⟩
      · refine ⟨?_, by rw [List.length_append]; simp; omega, fun s hs => ?_⟩
        · rw [List.nodup_append];refine ⟨n1, by simp, fun a ha c hc e => ?_⟩;rw [List.mem_singleton] at hc;exact hnot (by rw [← hc, ← e]; exact n3 a ha)
        · rcases List.mem_append.1 hs with hs | hs
          · exact hsub s (n3 s hs)
          · rw [List.mem_singleton] at hs;rw [List.take_succ_eq_append_getElem hlt, hs];exact List.mem_append.2 (.inr (by simp))
      · obtain ⟨m1, m2, m3⟩ := hls.nd j l hj;exact ⟨m1, by omega, fun s hs => hsub s (m3 s hs)⟩
    · rcases hget j l hj with ⟨rfl, rfl⟩ | ⟨h1, hjn⟩
      · rcases hget j' l' hj' with ⟨h2, rfl⟩ | ⟨h2, hj'⟩
        · exact absurd h2.symm hne
        · rcases List.mem_append.1 hs with hs | hs
          · exact hls.dj _ _ _ _ hne hxe hj' s hs
          · rw [List.mem_singleton] at hs;exact fun hs' => hnot (hs ▸ (hls.nd j' l' hj').2.2 s hs')
      · rcases hget j' l' hj' with ⟨rfl, rfl⟩ | ⟨h2, hj'⟩
        · intro hs';rcases List.mem_append.1 hs' with hs' | hs'
          · exact hls.dj _ _ _ _ hne hjn hxe s hs hs'
          · rw [List.mem_singleton] at hs';exact hnot (hs' ▸ (hls.nd j l hjn).2.2 s hs)
        · exact hls.dj _ _ _ _ hne hjn hj' s hs
    · rw [List.take_succ_eq_append_getElem hlt] at hs;rcases List.mem_append.1 hs with hs | hs
      · obtain ⟨l, hl, hsl⟩ := hls.all s hs;obtain ⟨j, hj⟩ := List.getElem?_of_mem hl
        by_cases e : x = j
        · subst e;rw [hxe] at hj;cases hj;exact ⟨_, List.mem_set hxl _, List.mem_append.2 (.inl hsl)⟩
        · exact ⟨l, List.mem_of_getElem? (i := j) (by rw [List.getElem?_set, if_neg e]; exact hj), hsl⟩
      · rw [List.mem_singleton] at hs;exact ⟨_, List.mem_set hxl _, List.mem_append.2 (.inr (by rw [hs]; simp))⟩
  exact hnext
end
end Go.Proofs.YtohjpfkcahlfkaaGreat.Sy
