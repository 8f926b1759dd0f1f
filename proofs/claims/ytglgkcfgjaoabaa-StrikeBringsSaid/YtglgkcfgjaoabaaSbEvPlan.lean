/- Plans, and the best one, in plain terms. -/
import Derived.Test.YtglgkcfgjaoabaaSbEvBring
set_option linter.unusedSimpArgs false
set_option linter.unusedVariables false
namespace Go.Proofs.Ytglgkcfgjaoabaa.Sy
open Go.RowKit
set_option maxRecDepth 100000
def playP (h rack : Bool) (q : List (Int × Int)) : List (Int × Bool) → Int → Int → Int → Int × Int × Int
  | [], _, p, hand => (p, hand, 0)
  | s :: l, slot, p, hand => if (stepE h rack q slot p s).2.2 = 0 then playP h rack q l (slot + 1) (stepE h rack q slot p s).1 (hand + (stepE h rack q slot p s).2.1) else (0, 0, (stepE h rack q slot p s).2.2)
def holdsP (l : List (Int × Bool)) : Int := ((l.filter (·.2)).length : Int)
theorem holdsP_cons (s : Int × Bool) (l : List (Int × Bool)) : holdsP (s :: l) = (if s.2 then 1 else 0) + holdsP l := by
  unfold holdsP;rw [List.filter_cons]
  split
  · simp only [List.length_cons]; omega
  · omega
theorem playP_hand {h rack : Bool} {q : List (Int × Int)} : ∀ (l : List (Int × Bool)) (slot p c : Int), (playP h rack q l slot p c).2.2 = 0 → playP h rack q l slot p c = ((playP h rack q l slot p 0).1, c + (playP h rack q l slot p 0).2.1, 0) ∧ (playP h rack q l slot p 0).2.2 = 0 := by
  intro l
  induction l with
  | nil => intro slot p c _; simp [playP]
  | cons s l ih =>
    intro slot p c hh;simp only [playP] at hh ⊢
    split at hh
    · rename_i h0
      simp only [h0, if_true, Int.zero_add];obtain ⟨h1, h2⟩ := ih _ _ _ hh
      -- from 0, too
      have h3 : (playP h rack q l (slot + 1) (stepE h rack q slot p s).1 (stepE h rack q slot p s).2.1).2.2 = 0 := by
        have key : ∀ (l : List (Int × Bool)) (slot p a b : Int), (playP h rack q l slot p a).2.2 = (playP h rack q l slot p b).2.2 := by
          intro l
          induction l with
          | nil => intro slot p a b; rfl
          | cons s l ih => intro slot p a b; simp only [playP]; split; exact ih _ _ _ _; rfl
        rw [key _ _ _ _ 0]; exact h2
      obtain ⟨g1, g2⟩ := ih _ _ _ h3;rw [h1, g1];simp only;exact ⟨by rw [Int.add_assoc], trivial⟩
    · rename_i h0; exact absurd hh h0
def planP (h rack : Bool) (q : List (Int × Int)) (until_ : Int) : Nat → Int → List (Int × Bool)
  | 0, _ => []
  | k + 1, p => match bestP h rack q until_ (k + 1) p with
    | some a => a.2 :: planP h rack q until_ k (stepE h rack q (until_ - (k + 1 : Nat)) p a.2).1
    | none => []
section
variable {h rack : Bool} {q : List (Int × Int)} {until_ : Int}
theorem plan_plays : ∀ (k : Nat) (p : Int) (a : Bst), bestP h rack q until_ k p = some a → playP h rack q (planP h rack q until_ k p) (until_ - k) p 0 = (until_ % plN h, a.1.1, 0) ∧ holdsP (planP h rack q until_ k p) = a.1.2 ∧ (planP h rack q until_ k p).length = k := by
  intro k
  induction k with
  | zero =>
    intro p a ha;simp only [bestP] at ha
    split at ha
    · rename_i hp; cases ha; simp [planP, playP, holdsP, hp]
    · cases ha
  | succ k ih =>
    intro p a ha;obtain ⟨h1, h2, b, h3, h4⟩ := best_is ha;obtain ⟨i1, i2, i3⟩ := ih _ b h3;have e : until_ - ((k + 1 : Nat) : Int) + 1 = until_ - (k : Int) := by omega
    simp only [planP, ha, playP, h2, if_true, e, holdsP_cons, List.length_cons, i2, i3];refine ⟨?_, ?_, trivial⟩
    · have h5 : (playP h rack q (planP h rack q until_ k (stepE h rack q (until_ - (k + 1 : Nat)) p a.2).1) (until_ - k) (stepE h rack q (until_ - (k + 1 : Nat)) p a.2).1 (0 + (stepE h rack q (until_ - (k + 1 : Nat)) p a.2).2.1)).2.2 = 0 := by
        have key : ∀ (l : List (Int × Bool)) (slot p a b : Int), (playP h rack q l slot p a).2.2 = (playP h rack q l slot p b).2.2 := by
          intro l
          induction l with
          | nil => intro slot p a b; rfl
          | cons s l ih => intro slot p a b; simp only [playP]; split; exact ih _ _ _ _; rfl
        rw [key _ _ _ _ 0, i1]
      rw [(playP_hand _ _ _ _ h5).1, i1, h4];simp only [costOf, Prod.mk.injEq, and_true, true_and]
      omega
    · rw [h4]; simp only [costOf]; omega
end
theorem ev_begin {n : Nat} (hn : 60 < n) {h rack : Bool} {q : List (Int × Int)} (hc : ev_strike_Check n h rack q = some 0) {slot p : Int} (hs : 0 ≤ slot ∧ slot ≤ 2000000) (hp : 0 ≤ p ∧ p < plN h) (hr : rack = true → p = slot % plN h) : ev_strike_begin n h rack q slot p = some (h, rack, q, plN h, 0) := by
  have hN : 12 ≤ plN h ∧ plN h ≤ 24 := by rcases plN_or h with e | e <;> omega
  have ho : ev_strike_open n h rack q = some (h, rack, q, plN h, 0) := by
    have hpl : ev_strike_places n h rack q = some (plN h) := by rw [ev_strike_places]; cases h <;> rfl
    rw [ev_strike_open, bind_of hpl, bind_of hc]
  have hsl : ev_strike_isSlot n slot = some true := by rw [ev_strike_isSlot, bind_of (wi1_strike (by omega))]; congr 1; simp; omega
  rw [ev_strike_begin, bind_of ho, cond_if, if_neg (by simp), bind_of hsl, cond_if, if_neg (by simp), chk_of (in64_of (by simp only; omega)), bind_of (wi1_strike (by omega)), cond_if, if_neg (by simp; omega), cond_if];cases rack
  · simp
  · simp only [if_true];rw [chk_of (by simp; omega), Int.tmod_eq_emod_of_nonneg hs.1, cond_if, if_neg (by simp; exact hr rfl)]
theorem ev_Bring {n : Nat} (hn : 300 < n) {h rack : Bool} {q : List (Int × Int)} (hq : q.length ≤ 8) (hc : ev_strike_Check n h rack q = some 0) {slot p : Int} (hs : 0 ≤ slot ∧ slot ≤ 2000000) (hp : 0 ≤ p ∧ p < plN h) (hr : rack = true → p = slot % plN h) {k : Nat} (hk : k ≤ 96) :
    ev_strike_Bring n h rack q slot p (slot + k) = some (match bestP h rack q (slot + k) k p with | some a => (planP h rack q (slot + k) k p, a.1.1, 0) | none => ([], 0, 7)) := by
  have hN : 12 ≤ plN h ∧ plN h ≤ 24 := by rcases plN_or h with e | e <;> omega
  obtain ⟨u, hu⟩ : ∃ u, u = slot + (k : Int) := ⟨_, rfl⟩;have hsu : slot = u - (k : Int) := by omega
  have H0 : MInv h rack q u k [] [] [] := ⟨fun j p _ _ _ hh => by simp [mlook_nil] at hh, fun j p _ _ _ _ => ⟨rfl, rfl⟩⟩;obtain ⟨c', f', d', g1, g2, g3, g4⟩ := from_spec hq (until_ := u) (by omega) k n p [] [] [] hk (by omega) (by omega) hp H0;rw [← hu, ev_strike_Bring, bind_of (ev_begin (by omega) hc hs hp hr), cond_if, if_neg (by simp), chk_of (in64_of (by omega)), bind_of (wi1_strike (by omega)), cond_if, if_neg (by simp; omega)];have g1' := g1;rw [← hsu] at g1';simp only;rw [bind_of g1', cond_if]
  cases hb : bestP h rack q u k p with
  | none => simp
  | some a =>
    simp only [Option.isSome_some, Bool.not_true, Bool.false_eq_true, if_false];have key : ∀ (j m : Nat) (x : Int) (acc : List (Int × Bool)) (b : Bst) (z1 z2 : Int) (w1 w2 : Bool) (w3 w4 : Int), j ≤ k → j < m → (0 ≤ x ∧ x < plN h) → acc.length + j ≤ 96 → bestP h rack q u j x = some b → (1 ≤ j → mlook d' (u - j, x) = some true) →
        ev_strike_Bring_l0 n u m acc h rack (plN h) w1 w2 w3 w4 (u - j) x z1 z2 q c' f' d' = some (acc ++ planP h rack q u j x, z1, 0) := by
      intro j
      induction j with
      | zero =>
        intro m x acc b z1 z2 w1 w2 w3 w4 hj hm hx hl hb hd
        cases m with
        | zero => omega
        | succ m => rw [ev_strike_Bring_l0, cond_if, if_neg (by simp)]; simp [planP]
      | succ j ihj =>
        intro m x acc b z1 z2 w1 w2 w3 w4 hj hm hx hl hb hd
        cases m with
        | zero => omega
        | succ m =>
          obtain ⟨q1, q2, q3⟩ := g2.good (j + 1) x (by omega) hj hx (hd (by omega));obtain ⟨r1, r2, b', r3, r4⟩ := best_is hb;have hf : mlook f' (u - ((j + 1 : Nat) : Int), x) = some b.2 := by rw [q2, hb]; rfl
          have hr := stepE_range (rack := rack) (q := q) (slot := u - ((j + 1 : Nat) : Int)) (s := b.2) hx;have e : u - ((j + 1 : Nat) : Int) + 1 = u - (j : Int) := by omega
          rw [ev_strike_Bring_l0, cond_if, if_pos (by simp only [decide_eq_true_eq]; omega)];simp only [hf, Option.getD_some];rw [bind_of (ev_step (by omega) hq (by omega) hx b.2), chk_of (room_iff.2 (by simp; omega)), chk_of (in64_of (by omega)), e];have := ihj m (stepE h rack q (u - ((j + 1 : Nat) : Int)) x b.2).1 (acc ++ [(b.2.1, b.2.2)]) b' z1 z2 w1 w2 w3 w4 (by omega) (by omega) hr.1 (by simp; omega) r3 (fun h1 => by
            have := q3 (by omega) b.2 r1 r2
            simpa using this)
          rw [this];simp only [planP, hb, List.append_assoc, List.cons_append, List.nil_append]
    have := key k n p [] a a.1.1 a.1.2 h rack (plN h) u (Nat.le_refl _) (by omega) hp (by simp; omega) hb g3;rw [← hsu] at this;exact this
end Go.Proofs.Ytglgkcfgjaoabaa.Sy
