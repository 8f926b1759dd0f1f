/- Plans without blows, and what the best plans are, in plain terms. -/
import Derived.Test.YtmgcinejodpopaaEvPlan
set_option linter.unusedSimpArgs false
set_option linter.unusedVariables false
namespace Go.Proofs.Ytmgcinejodpopaa.Sy
open Go.RowKit
set_option maxRecDepth 100000

def heldP (rack : Bool) (l : List (Int × Bool)) : Int := if rack then 0 else holdsP l
theorem zero_step {h rack : Bool} {q : List (Int × Int)} {slot p : Int} {s : Int × Bool} (hs : s.1 = 0) : stepE h rack q slot p s = (if s.2 && !rack then p else (p + 1) % plN h, 0, 0) := by
  unfold stepE endP
  simp [hs, letP]
theorem heldP_cons (rack : Bool) (s : Int × Bool) (l : List (Int × Bool)) : heldP rack (s :: l) = (if s.2 && !rack then 1 else 0) + heldP rack l := by
  unfold heldP
  cases rack with
  | true => simp
  | false => rw [holdsP_cons]; simp
theorem zero_play {h rack : Bool} {q : List (Int × Int)} : ∀ (l : List (Int × Bool)) (slot p c : Int), (∀ s ∈ l, s.1 = 0) → (0 ≤ p ∧ p < plN h) → playP h rack q l slot p c = ((p + ((l.length : Int) - heldP rack l)) % plN h, c, 0) := by
  have hN := plN_or h
  intro l
  induction l with
  | nil =>
    intro slot p c _ hp
    have : heldP rack [] = 0 := by unfold heldP holdsP; cases rack <;> rfl
    simp only [playP, this, List.length_nil]
    rw [Int.emod_eq_of_lt (by simp; omega) (by simp; omega)]; simp
  | cons s l ih =>
    intro slot p c hs hp
    have h0 := zero_step (h := h) (rack := rack) (q := q) (slot := slot) (p := p) (hs s (by simp))
    simp only [playP, h0, if_true, Int.add_zero]
    have hr : 0 ≤ (if (s.2 && !rack) = true then p else (p + 1) % plN h) ∧ (if (s.2 && !rack) = true then p else (p + 1) % plN h) < plN h := by
      split
      · exact hp
      · rcases hN with e | e <;> rw [e] <;> omega
    rw [ih (slot + 1) _ c (fun z hz => hs z (by simp [hz])) hr, heldP_cons]
    simp only [List.length_cons, Prod.mk.injEq, and_true]
    split
    · congr 1; omega
    · rw [Int.emod_add_emod]; congr 1; omega
theorem play_zero {h rack : Bool} {q : List (Int × Int)} : ∀ (l : List (Int × Bool)) (slot p c : Int), (0 ≤ p ∧ p < plN h) → 0 ≤ c → (playP h rack q l slot p c).2.2 = 0 → (playP h rack q l slot p c).2.1 = 0 → ∀ s ∈ l, s.1 = 0 := by
  intro l
  induction l with
  | nil => intro slot p c _ _ _ _ s hs; simp at hs
  | cons s l ih =>
    intro slot p c hp hc h0 h1
    simp only [playP] at h0 h1
    split at h0
    · rename_i hz
      simp only [hz, if_true] at h1
      have hr := stepE_range (rack := rack) (q := q) (slot := slot) (s := s) hp
      have hrg := playP_range l (slot + 1) _ _ hr.1 (show 0 ≤ c + (stepE h rack q slot p s).2.1 by omega) h0
      have h2 : (stepE h rack q slot p s).2.1 = 0 := by omega
      have h3 : s.1 = 0 := by
        unfold stepE at h2 hz
        split at hz
        · simp at hz
        · rename_i hn1
          rw [if_neg hn1] at h2
          simp only [Bool.not_eq_true', Bool.and_eq_false_iff, decide_eq_false_iff_not] at hn1
          split at hz
          · simp at hz
          · rename_i hn2
            rw [if_neg hn2] at h2
            have := letP_range (rack := rack) s.1.toNat p hp
            simp only at h2
            omega
      intro z hz'
      rcases List.mem_cons.1 hz' with rfl | hz'
      · exact h3
      · exact ih _ _ _ hr.1 (by omega) h0 h1 z hz'
    · rename_i hz; exact absurd h0 hz
theorem holdsP_range (l : List (Int × Bool)) : 0 ≤ holdsP l ∧ holdsP l ≤ l.length := by
  unfold holdsP
  have := List.length_filter_le (fun s : Int × Bool => s.2) l
  omega
/-- a plan without blows, with some holds -/
def freeP (j n : Nat) : List (Int × Bool) := List.replicate j (0, true) ++ List.replicate n (0, false)
theorem freeP_holds (j n : Nat) : holdsP (freeP j n) = j ∧ (freeP j n).length = j + n ∧ ∀ s ∈ freeP j n, s.1 = 0 := by
  refine ⟨?_, by simp [freeP], fun s hs => ?_⟩
  · unfold holdsP freeP
    rw [List.filter_append, List.filter_replicate, List.filter_replicate]
    simp
  · unfold freeP at hs
    rcases List.mem_append.1 hs with h | h
    · obtain ⟨_, rfl⟩ := List.mem_replicate.1 h; rfl
    · obtain ⟨_, rfl⟩ := List.mem_replicate.1 h; rfl
theorem play_append {h rack : Bool} {q : List (Int × Int)} : ∀ (l r : List (Int × Bool)) (slot p c : Int), (playP h rack q l slot p c).2.2 = 0 → playP h rack q (l ++ r) slot p c = playP h rack q r (slot + l.length) (playP h rack q l slot p c).1 (playP h rack q l slot p c).2.1 := by
  intro l
  induction l with
  | nil => intro r slot p c _; simp [playP]
  | cons s l ih =>
    intro r slot p c h0
    simp only [List.cons_append, playP] at h0 ⊢
    split at h0
    · rename_i hz
      rw [if_pos hz, if_pos hz, ih r _ _ _ h0, List.length_cons]
      congr 1
      omega
    · rename_i hz; exact absurd h0 hz
theorem play_quiet {h rack : Bool} {q : List (Int × Int)} : ∀ (l : List (Int × Bool)) (slot p c : Int), (playP h rack q l slot p c).2.2 = 0 → ∀ (i : Nat) (s : Int × Bool), l[i]? = some s → 0 < s.1 → silP q (plN h) (slot + i) = false := by
  intro l
  induction l with
  | nil => intro slot p c _ i s hi; simp at hi
  | cons x l ih =>
    intro slot p c h0 i s hi hs
    simp only [playP] at h0
    split at h0
    · rename_i hz
      cases i with
      | zero =>
        simp only [List.getElem?_cons_zero, Option.some.injEq] at hi
        subst hi
        unfold stepE at hz
        split at hz
        · simp at hz
        · split at hz
          · simp at hz
          · rename_i hn2
            simp only [Bool.and_eq_true, decide_eq_true_eq, not_and, Bool.not_eq_true] at hn2
            simpa using hn2 hs
      | succ i =>
        have := ih _ _ _ h0 i s (by simpa using hi) hs
        rw [← this]; congr 1; omega
    · rename_i hz; exact absurd h0 hz
section
variable {h rack : Bool} {q : List (Int × Int)}
theorem plan_mem {u : Int} : ∀ (k : Nat) (p : Int) (a : Bst), bestP h rack q u k p = some a → ∀ s ∈ planP h rack q u k p, s ∈ stepsL (nN h) := by
  intro k
  induction k with
  | zero => intro p a _ s hs; simp [planP] at hs
  | succ k ih =>
    intro p a ha s hs
    obtain ⟨h1, h2, b, hb, _⟩ := best_is ha
    simp only [planP, ha] at hs
    rcases List.mem_cons.1 hs with rfl | hs
    · exact h1
    · exact ih _ b hb s hs
theorem zero_mem : ((0 : Int), false) ∈ stepsL (nN h) ∧ ((0 : Int), true) ∈ stepsL (nN h) := by
  constructor <;> (rw [stepsL_mem]; cases h <;> simp [nN])
theorem freeP_mem (j n : Nat) : ∀ s ∈ freeP j n, s ∈ stepsL (nN h) := by
  intro s hs
  unfold freeP at hs
  rcases List.mem_append.1 hs with hs | hs
  · obtain ⟨_, rfl⟩ := List.mem_replicate.1 hs; exact zero_mem.2
  · obtain ⟨_, rfl⟩ := List.mem_replicate.1 hs; exact zero_mem.1
/-- with as many slots as places there is a plan without blows -/
theorem best_free {u p : Int} {k : Nat} (hk : plN h ≤ k) (hp : 0 ≤ p ∧ p < plN h) : ∃ a, bestP h false q u k p = some a ∧ a.1.1 = 0 := by
  have hN := plN_or h
  obtain ⟨j, hj⟩ : ∃ j : Nat, (j : Int) = (p + k - u) % plN h := ⟨((p + k - u) % plN h).toNat, by rcases hN with e | e <;> rw [e] <;> omega⟩
  have hjN : (j : Int) < plN h := by rcases hN with e | e <;> rw [e] at hj ⊢ <;> omega
  obtain ⟨f1, f2, f3⟩ := freeP_holds j (k - j)
  have hz := zero_play (h := h) (rack := false) (q := q) (freeP j (k - j)) (u - k) p 0 f3 hp
  have hl : ((freeP j (k - j)).length : Int) = k := by rw [f2]; omega
  have hh : heldP false (freeP j (k - j)) = j := by unfold heldP; simpa using f1
  rw [hh, hl] at hz
  have hend : (p + ((k : Int) - j)) % plN h = u % plN h := by rcases hN with e | e <;> rw [e] at hj ⊢ <;> omega
  obtain ⟨a, ha, hna⟩ := plan_best (h := h) (rack := false) (q := q) (until_ := u) k p (freeP j (k - j)) (by rw [f2]; omega) (freeP_mem _ _) (by rw [hz]) (by rw [hz]; exact hend)
  rw [hz, f1] at hna
  have hr := best_range k p a hp ha
  exact ⟨a, ha, by unfold ltC at hna; simp only at hna; omega⟩
/-- a strike that is at the right place is left alone -/
theorem best_right {u p : Int} {k : Nat} (hp : p = (u - k) % plN h) : ∃ a, bestP h rack q u k p = some a ∧ a.1 = (0, 0) ∧ planP h rack q u k p = List.replicate k (0, false) := by
  have hN := plN_or h
  have hp' : 0 ≤ p ∧ p < plN h := by rcases hN with e | e <;> rw [e] at hp ⊢ <;> omega
  have hz := zero_play (h := h) (rack := rack) (q := q) (List.replicate k (0, false)) (u - k) p 0 (fun s hs => by obtain ⟨_, rfl⟩ := List.mem_replicate.1 hs; rfl) hp'
  have h0 : holdsP (List.replicate k ((0 : Int), false)) = 0 := by unfold holdsP; rw [List.filter_replicate]; simp
  have hh : heldP rack (List.replicate k ((0 : Int), false)) = 0 := by unfold heldP; split <;> simp [h0]
  rw [hh, List.length_replicate] at hz
  have hend : (p + ((k : Int) - 0)) % plN h = u % plN h := by rcases hN with e | e <;> rw [e] at hp ⊢ <;> omega
  obtain ⟨a, ha, hna⟩ := plan_best (h := h) (rack := rack) (q := q) (until_ := u) k p (List.replicate k (0, false)) (by simp) (fun s hs => by obtain ⟨_, rfl⟩ := List.mem_replicate.1 hs; exact zero_mem.1) (by rw [hz]) (by rw [hz]; exact hend)
  rw [hz, h0] at hna
  have hr := best_range k p a hp' ha
  have ha1 : a.1 = (0, 0) := by
    unfold ltC at hna
    simp only at hna
    obtain ⟨⟨a1, a2⟩, a3⟩ := a
    simp only at hna hr ⊢
    rw [Prod.mk.injEq]; omega
  obtain ⟨p1, p2, p3⟩ := plan_plays k p a ha
  rw [ha1] at p1 p2
  have hzero := play_zero (h := h) (rack := rack) (q := q) _ _ p 0 hp' (Int.le_refl _) (by rw [p1]) (by rw [p1])
  refine ⟨a, ha, ha1, List.eq_replicate_iff.2 ⟨p3, fun s hs => ?_⟩⟩
  have e1 := hzero s hs
  have e2 : s.2 = false := by
    unfold holdsP at p2
    simp only at p2
    have : (List.filter (fun x : Int × Bool => x.2) (planP h rack q u k p)) = [] := List.length_eq_zero_iff.1 (by omega)
    have := List.filter_eq_nil_iff.1 this s hs
    simpa using this
  obtain ⟨s1, s2⟩ := s
  simp only at e1 e2
  rw [e1, e2]
/-- with more time there are no more blows -/
theorem best_more {u p : Int} {k d : Nat} {a : Bst} (hp : 0 ≤ p ∧ p < plN h) (ha : bestP h false q u k p = some a) : ∃ b, bestP h false q (u + d) (k + d) p = some b ∧ b.1.1 ≤ a.1.1 := by
  have hN := plN_or h
  obtain ⟨p1, p2, p3⟩ := plan_plays k p a ha
  have hs : u + (d : Int) - ((k + d : Nat) : Int) = u - k := by omega
  have hu : 0 ≤ u % plN h ∧ u % plN h < plN h := by rcases hN with e | e <;> rw [e] <;> omega
  have happ := play_append (h := h) (rack := false) (q := q) (planP h false q u k p) (List.replicate d (0, false)) (u - k) p 0 (by rw [p1])
  rw [p1] at happ
  simp only at happ
  have hz := zero_play (h := h) (rack := false) (q := q) (List.replicate d (0, false)) (u - k + ((planP h false q u k p).length : Int)) (u % plN h) a.1.1 (fun s hs => by obtain ⟨_, rfl⟩ := List.mem_replicate.1 hs; rfl) hu
  have h0 : holdsP (List.replicate d ((0 : Int), false)) = 0 := by unfold holdsP; rw [List.filter_replicate]; simp
  have hh : heldP false (List.replicate d ((0 : Int), false)) = 0 := by unfold heldP; simp [h0]
  rw [hh, List.length_replicate] at hz
  rw [hz] at happ
  have hend : (u % plN h + ((d : Int) - 0)) % plN h = (u + d) % plN h := by rw [Int.emod_add_emod, Int.sub_zero]
  rw [hend] at happ
  obtain ⟨b, hb, hnb⟩ := plan_best (h := h) (rack := false) (q := q) (until_ := u + d) (k + d) p (planP h false q u k p ++ List.replicate d (0, false)) (by simp [p3]) (fun s hs => by
    rcases List.mem_append.1 hs with hs | hs
    · exact plan_mem k p a ha s hs
    · obtain ⟨_, rfl⟩ := List.mem_replicate.1 hs; exact zero_mem.1) (by rw [hs, happ]) (by rw [hs, happ])
  rw [hs, happ] at hnb
  exact ⟨b, hb, by unfold ltC at hnb; simp only at hnb; omega⟩
end
end Go.Proofs.Ytmgcinejodpopaa.Sy
