/- The best plan that brings a strike back, in plain terms. -/
import Derived.Test.YtglgkcfgjaoabaaSbEvStrike
set_option linter.unusedSimpArgs false
set_option linter.unusedVariables false
namespace Go.Proofs.Ytglgkcfgjaoabaa.Sy
open Go.RowKit
set_option maxRecDepth 100000
abbrev Bst := (Int × Int) × (Int × Bool)
def stepsL : Nat → List (Int × Bool)
  | 0 => []
  | k + 1 => ((k : Int), true) :: ((k : Int), false) :: stepsL k
def costOf (r : Int × Int × Int) (s : Int × Bool) (b : Bst) : Int × Int := (b.1.1 + r.2.1, b.1.2 + if s.2 then 1 else 0)
def accStep (st : Int × Bool → Int × Int × Int) (cost : Int → Option Bst) (acc : Option Bst) (s : Int × Bool) : Option Bst :=
  if (st s).2.2 = 0 then match cost (st s).1 with
    | none => acc
    | some b => match acc with
      | none => some (costOf (st s) s b, s)
      | some a => if ltC (costOf (st s) s b) a.1 then some (costOf (st s) s b, s) else some a
  else acc
def bestP (h rack : Bool) (q : List (Int × Int)) (until_ : Int) : Nat → Int → Option Bst
  | 0, p => if p = until_ % plN h then some ((0, 0), (0, false)) else none
  | k + 1, p => (stepsL (nN h)).foldl (accStep (stepE h rack q (until_ - (k + 1 : Nat)) p) (bestP h rack q until_ k)) none
theorem acc_spec {st : Int × Bool → Int × Int × Int} {cost : Int → Option Bst} : ∀ (l : List (Int × Bool)) (acc : Option Bst),
    (∀ a, l.foldl (accStep st cost) acc = some a → acc = some a ∨ ∃ s ∈ l, ∃ b, (st s).2.2 = 0 ∧ cost (st s).1 = some b ∧ a = (costOf (st s) s b, s)) ∧
    (∀ a, acc = some a → ∃ a', l.foldl (accStep st cost) acc = some a' ∧ ¬ ltC a.1 a'.1) ∧
    (∀ s ∈ l, ∀ b, (st s).2.2 = 0 → cost (st s).1 = some b → ∃ a', l.foldl (accStep st cost) acc = some a' ∧ ¬ ltC (costOf (st s) s b) a'.1) := by
  intro l
  induction l with
  | nil => intro acc; exact ⟨fun a h => .inl h, fun a h => ⟨a, h, ltC_irrefl _⟩, fun s hs => by simp at hs⟩
  | cons x l ih =>
    intro acc;obtain ⟨i1, i2, i3⟩ := ih (accStep st cost acc x);have hstep : ∀ a, accStep st cost acc x = some a → acc = some a ∨ ∃ b, (st x).2.2 = 0 ∧ cost (st x).1 = some b ∧ a = (costOf (st x) x b, x) := by
      intro a ha;unfold accStep at ha
      split at ha
      · rename_i h0
        split at ha
        · exact .inl ha
        · rename_i b hb
          split at ha
          · cases ha; exact .inr ⟨b, h0, hb, rfl⟩
          · split at ha
            · cases ha; exact .inr ⟨b, h0, hb, rfl⟩
            · exact .inl ha
      · exact .inl ha
    have hmono : ∀ a, acc = some a → ∃ a', accStep st cost acc x = some a' ∧ ¬ ltC a.1 a'.1 := by
      intro a ha;subst ha;unfold accStep
      split
      · split
        · exact ⟨a, rfl, ltC_irrefl _⟩
        · rename_i b hb
          simp only
          split
          · rename_i hlt
            exact ⟨_, rfl, fun h => by simp only at h; unfold ltC at *; omega⟩
          · exact ⟨a, rfl, ltC_irrefl _⟩
      · exact ⟨a, rfl, ltC_irrefl _⟩
    have hnew : ∀ b, (st x).2.2 = 0 → cost (st x).1 = some b → ∃ a', accStep st cost acc x = some a' ∧ ¬ ltC (costOf (st x) x b) a'.1 := by
      intro b h0 hb;unfold accStep;rw [if_pos h0, hb]
      cases acc with
      | none => exact ⟨_, rfl, ltC_irrefl _⟩
      | some a =>
        simp only
        split
        · exact ⟨_, rfl, ltC_irrefl _⟩
        · rename_i hlt; exact ⟨a, rfl, hlt⟩
    refine ⟨fun a ha => ?_, fun a ha => ?_, fun s hs b h0 hb => ?_⟩
    · rcases i1 a ha with h | ⟨s, hs, b, g1, g2, g3⟩
      · rcases hstep a h with h | ⟨b, g1, g2, g3⟩
        · exact .inl h
        · exact .inr ⟨x, by simp, b, g1, g2, g3⟩
      · exact .inr ⟨s, by simp [hs], b, g1, g2, g3⟩
    · obtain ⟨a', g1, g2⟩ := hmono a ha;obtain ⟨a2, g3, g4⟩ := i2 a' g1;exact ⟨a2, g3, ltC_trans g4 g2⟩
    · rcases List.mem_cons.1 hs with rfl | hs
      · obtain ⟨a', g1, g2⟩ := hnew b h0 hb;obtain ⟨a2, g3, g4⟩ := i2 a' g1;exact ⟨a2, g3, ltC_trans g4 g2⟩
      · exact i3 s hs b h0 hb
section
variable {h rack : Bool} {q : List (Int × Int)} {until_ : Int}
theorem best_is {k : Nat} {p : Int} {a : Bst} (ha : bestP h rack q until_ (k + 1) p = some a) : a.2 ∈ stepsL (nN h) ∧ (stepE h rack q (until_ - (k + 1 : Nat)) p a.2).2.2 = 0 ∧ ∃ b, bestP h rack q until_ k (stepE h rack q (until_ - (k + 1 : Nat)) p a.2).1 = some b ∧ a.1 = costOf (stepE h rack q (until_ - (k + 1 : Nat)) p a.2) a.2 b := by
  rcases (acc_spec (st := stepE h rack q (until_ - (k + 1 : Nat)) p) (cost := bestP h rack q until_ k) (stepsL (nN h)) none).1 a ha with h1 | ⟨s, hs, b, g1, g2, g3⟩
  · cases h1
  · subst g3; exact ⟨hs, g1, b, g2, rfl⟩
theorem best_range : ∀ (k : Nat) (p : Int) (a : Bst), (0 ≤ p ∧ p < plN h) → bestP h rack q until_ k p = some a → (0 ≤ a.1.1 ∧ a.1.1 ≤ 576 * k) ∧ (0 ≤ a.1.2 ∧ a.1.2 ≤ k) := by
  intro k
  induction k with
  | zero =>
    intro p a hp ha;simp only [bestP] at ha
    split at ha
    · cases ha; simp
    · cases ha
  | succ k ih =>
    intro p a hp ha;obtain ⟨h1, h2, b, h3, h4⟩ := best_is ha;have hr := stepE_range (rack := rack) (q := q) (slot := until_ - (k + 1 : Nat)) (s := a.2) hp;have := ih _ b hr.1 h3;rw [h4];simp only [costOf]
    split <;> omega
end
abbrev MC := List ((Int × Int) × (Int × Int))
abbrev MF := List ((Int × Int) × (Int × Bool))
abbrev MD := List ((Int × Int) × Bool)
structure MInv (h rack : Bool) (q : List (Int × Int)) (until_ : Int) (k : Nat) (c : MC) (f : MF) (d : MD) : Prop where
  good : ∀ (j : Nat) (p : Int), 1 ≤ j → j ≤ k → (0 ≤ p ∧ p < plN h) → mlook d (until_ - j, p) = some true → mlook c (until_ - j, p) = (bestP h rack q until_ j p).map (·.1) ∧ mlook f (until_ - j, p) = (bestP h rack q until_ j p).map (·.2) ∧
    (2 ≤ j → ∀ s ∈ stepsL (nN h), (stepE h rack q (until_ - j) p s).2.2 = 0 → mlook d (until_ - (j - 1 : Nat), (stepE h rack q (until_ - j) p s).1) = some true)
  fresh : ∀ (j : Nat) (p : Int), 1 ≤ j → j ≤ k → (0 ≤ p ∧ p < plN h) → mlook d (until_ - j, p) ≠ some true → mlook c (until_ - j, p) = none ∧ mlook f (until_ - j, p) = none
structure MExt (σ : Int) (c c' : MC) (f f' : MF) (d d' : MD) : Prop where
  ec : ∀ x : Int × Int, x.1 < σ → mlook c' x = mlook c x
  ef : ∀ x : Int × Int, x.1 < σ → mlook f' x = mlook f x
  ed : ∀ x : Int × Int, x.1 < σ → mlook d' x = mlook d x
  up : ∀ x : Int × Int, mlook d x = some true → mlook d' x = some true
def resH (o : Option Bst) : Int := (o.map fun a => a.1.1).getD 0
def resO (o : Option Bst) : Int := (o.map fun a => a.1.2).getD 0
theorem MInv.congr {h rack : Bool} {q : List (Int × Int)} {until_ : Int} {k : Nat} {c c' : MC} {f f' : MF} {d d' : MD} (H : MInv h rack q until_ k c f d) (hc : ∀ x : Int × Int, until_ - k ≤ x.1 → mlook c' x = mlook c x) (hf : ∀ x : Int × Int, until_ - k ≤ x.1 → mlook f' x = mlook f x) (hd : ∀ x : Int × Int, until_ - k ≤ x.1 → mlook d' x = mlook d x) : MInv h rack q until_ k c' f' d' := by
  refine ⟨fun j p h1 h2 hp hh => ?_, fun j p h1 h2 hp hh => ?_⟩
  · rw [hd _ (by simp only; omega)] at hh;obtain ⟨g1, g2, g3⟩ := H.good j p h1 h2 hp hh;rw [hc _ (by simp only; omega), hf _ (by simp only; omega)];exact ⟨g1, g2, fun hj s hs h0 => by rw [hd _ (by simp only; omega)]; exact g3 hj s hs h0⟩
  · rw [hd _ (by simp only; omega)] at hh;rw [hc _ (by simp only; omega), hf _ (by simp only; omega)];exact H.fresh j p h1 h2 hp hh
theorem ev_steps {σ : Type} {n : Nat} (hn : 30 < n) {g : Int × Bool → σ → Option (Nat × σ)} {h rack : Bool} {q : List (Int × Int)} {y y' : σ} (hf : foldX g (stepsL (nN h)) y = some y') : ev_strike_train_steps (loopStep g) n h rack q (plN h) (y, 0) = some (y', 0) := by
  have hN : nN h ≤ 24 := by cases h <;> simp [nN]
  have two : ∀ (i : Int) (K : Int → σ × Nat → Option (σ × Nat)) (y : σ) (r : Option (σ × Nat)), (-100 ≤ i ∧ i ≤ 100) → (∃ y1 y2, g (i, true) y = some (0, y1) ∧ g (i, false) y1 = some (0, y2) ∧ K (i - 1) (y2, 0) = r) → ev_strike_train_steps_l1 (loopStep g) n i K n 0 (y, 0) = r := by
    intro i K y r hi hh;obtain ⟨y1, y2, g1, g2, g3⟩ := hh;obtain ⟨m, rfl⟩ : ∃ m, n = m + 3 := ⟨n - 3, by omega⟩;rw [ev_strike_train_steps_l1, cond_if, if_pos (by decide), chk_of (by decide), idx_of (x := true) (by decide) (by rfl), bind_of (loopStep_of g1), cond_if, if_neg (by simp), chk_of (by decide),
      ev_strike_train_steps_l1, cond_if, if_pos (by decide), chk_of (by decide), idx_of (x := false) (by decide) (by rfl), bind_of (loopStep_of g2), cond_if, if_neg (by simp), chk_of (by decide),
      ev_strike_train_steps_l1, cond_if, if_neg (by decide), chk_of (in64_of (by omega))]
    exact g3
  have key : ∀ (k m : Nat) (y : σ), k < m → k ≤ 24 → foldX g (stepsL k) y = some y' → ev_strike_train_steps_l0 (loopStep g) n m ((k : Int) - 1) (y, 0) = some (y', 0) := by
    intro k
    induction k with
    | zero =>
      intro m y hm _ hf
      cases m with
      | zero => omega
      | succ m =>
        have : y = y' := by simpa [stepsL, foldX] using hf
        subst this;rw [ev_strike_train_steps_l0, cond_if, if_neg (by simp)]
    | succ k ih =>
      intro m y hm hk hf
      cases m with
      | zero => omega
      | succ m =>
        obtain ⟨y1, g1, hf⟩ := foldX_cons hf;obtain ⟨y2, g2, hf⟩ := foldX_cons hf;have e : ((k + 1 : Nat) : Int) - 1 = (k : Int) := by omega
        rw [ev_strike_train_steps_l0, cond_if, e, if_pos (by simp)];exact two k _ y _ (by omega) ⟨y1, y2, g1, g2, ih m y2 (by omega) (by omega) hf⟩
  rw [ev_strike_train_steps, ← nN_cast, chk_of (in64_of (by omega))];exact key (nN h) n y (by omega) hN hf
theorem ev_costCmp {n : Nat} (hn : 10 < n) (a b c d : Int) : ∃ r, ev_strike_cost_compare n a b c d = some r ∧ (r < 0 ↔ ltC (a, b) (c, d)) := by
  refine ⟨_, ?_, cmp_lt a b c d⟩;rw [ev_strike_cost_compare, bind_of (ev_cmp1 _ _), bind_of (ev_cmp1 _ _), bind_of (ev_or2 (by omega) _ _)]
structure RInv (h rack : Bool) (q : List (Int × Int)) (until_ : Int) (k : Nat) (p : Int) (c0 : MC) (f0 : MF) (d0 : MD) (pre : List (Int × Bool)) (acc : Option Bst) (c : MC) (f : MF) (d : MD) : Prop where
  here : mlook d (until_ - (k + 1 : Nat), p) = some true ∧ mlook c (until_ - (k + 1 : Nat), p) = acc.map (·.1) ∧ mlook f (until_ - (k + 1 : Nat), p) = acc.map (·.2)
  inv : MInv h rack q until_ k c f d
  cl : 1 ≤ k → ∀ s ∈ pre, (stepE h rack q (until_ - (k + 1 : Nat)) p s).2.2 = 0 → mlook d (until_ - k, (stepE h rack q (until_ - (k + 1 : Nat)) p s).1) = some true
  other : ∀ x : Int × Int, x.1 ≤ until_ - (k + 1 : Nat) → x ≠ (until_ - (k + 1 : Nat), p) → mlook c x = mlook c0 x ∧ mlook f x = mlook f0 x ∧ mlook d x = mlook d0 x
  up : ∀ x : Int × Int, mlook d0 x = some true → mlook d x = some true
  rng : ∀ a, acc = some a → (0 ≤ a.1.1 ∧ a.1.1 ≤ 576 * (k + 1)) ∧ (0 ≤ a.1.2 ∧ a.1.2 ≤ k + 1)
theorem from_spec {h rack : Bool} {q : List (Int × Int)} (hq : q.length ≤ 8) {until_ : Int} (hu : until_ ≤ 3000000) : ∀ (k n : Nat) (p : Int) (c : MC) (f : MF) (d : MD), k ≤ 96 → k + 100 < n → 0 ≤ until_ - k → (0 ≤ p ∧ p < plN h) → MInv h rack q until_ k c f d →
    ∃ c' f' d', ev_p_strike_best_from n h rack q (plN h) until_ c f d (until_ - k) p = some (resH (bestP h rack q until_ k p), resO (bestP h rack q until_ k p), (bestP h rack q until_ k p).isSome, c', f', d') ∧ MInv h rack q until_ k c' f' d' ∧ (1 ≤ k → mlook d' (until_ - k, p) = some true) ∧ MExt (until_ - k) c c' f f' d d' := by
  have hN : 12 ≤ plN h ∧ plN h ≤ 24 := by rcases plN_or h with e | e <;> omega
  intro k
  induction k with
  | zero =>
    intro n p c f d hk hn h0 hp H;obtain ⟨m, rfl⟩ : ∃ m, n = m + 1 := ⟨n - 1, by omega⟩;refine ⟨c, f, d, ?_, H, fun h => by omega, ⟨fun _ _ => rfl, fun _ _ => rfl, fun _ _ => rfl, fun _ h => h⟩⟩;have e : until_ - ((0 : Nat) : Int) = until_ := by simp
    have e1 : Int.tmod until_ (plN h) = until_ % plN h := Int.tmod_eq_emod_of_nonneg (by omega);rw [ev_p_strike_best_from, e, cond_if, if_pos (by simp), chk_of (by simp; omega), e1];simp only [bestP]
    by_cases hpu : p = until_ % plN h
    · simp [hpu, resH, resO]
    · simp [hpu, resH, resO]
  | succ k ih =>
    intro n p c f d hk hn h0 hp H;obtain ⟨m, rfl⟩ : ∃ m, n = m + 1 := ⟨n - 1, by omega⟩;obtain ⟨slot, hslot⟩ : ∃ slot, slot = until_ - ((k + 1 : Nat) : Int) := ⟨_, rfl⟩;have hs1 : slot + 1 = until_ - (k : Int) := by omega
    rw [← hslot] at h0 ⊢;rw [ev_p_strike_best_from, cond_if, if_neg (by simp; omega), cond_if]
    by_cases hd : mlook d (slot, p) = some true
    · -- it is written down
      have hd' := hd;rw [hslot] at hd';obtain ⟨g1, g2, g3⟩ := H.good (k + 1) p (by omega) (Nat.le_refl _) hp hd';rw [← hslot] at g1 g2;rw [if_pos (by rw [hd]; rfl), g1];refine ⟨c, f, d, ?_, H, fun _ => hd, ⟨fun _ _ => rfl, fun _ _ => rfl, fun _ _ => rfl, fun _ h => h⟩⟩;cases bestP h rack q until_ (k + 1) p <;> rfl
    · rw [if_neg (by
        cases hm : mlook d (slot, p) with
        | none => simp
        | some b => cases b <;> simp_all)]
      have hd' := hd;rw [hslot] at hd';obtain ⟨fr1, fr2⟩ := H.fresh (k + 1) p (by omega) (Nat.le_refl _) hp hd'
      -- the rounds
      have round : ∀ (suf pre : List (Int × Bool)) (acc : Option Bst) (c1 : MC) (f1 : MF) (d1 : MD), (∀ s ∈ suf, s ∈ stepsL (nN h)) → RInv h rack q until_ k p c f d pre acc c1 f1 d1 →
          ∃ c2 f2 d2, foldX (ev_p_strike_best_from_r0 m h rack q (plN h) until_ (ev_p_strike_best_from m)) suf (d1, acc.isSome, resH acc, resO acc, slot, p, c1, f1) = some (d2, (suf.foldl (accStep (stepE h rack q slot p) (bestP h rack q until_ k)) acc).isSome, resH (suf.foldl (accStep (stepE h rack q slot p) (bestP h rack q until_ k)) acc), resO (suf.foldl (accStep (stepE h rack q slot p) (bestP h rack q until_ k)) acc), slot, p, c2, f2) ∧
            RInv h rack q until_ k p c f d (pre ++ suf) (suf.foldl (accStep (stepE h rack q slot p) (bestP h rack q until_ k)) acc) c2 f2 d2 := by
        intro suf
        induction suf with
        | nil => intro pre acc c1 f1 d1 _ R; exact ⟨c1, f1, d1, rfl, by simpa using R⟩
        | cons s suf ihs =>
          intro pre acc c1 f1 d1 hsub R;have hsm := hsub s (by simp);have hstep := ev_step (n := m) (by omega) hq h0 hp s (rack := rack);obtain ⟨st, hst⟩ : ∃ st, st = stepE h rack q slot p s := ⟨_, rfl⟩;have hrng := stepE_range (rack := rack) (q := q) (slot := slot) (s := s) hp;rw [← hst] at hstep hrng
          -- one round
          have one : ∃ c2 f2 d2, ev_p_strike_best_from_r0 m h rack q (plN h) until_ (ev_p_strike_best_from m) s (d1, acc.isSome, resH acc, resO acc, slot, p, c1, f1) = some (0, (d2, (accStep (stepE h rack q slot p) (bestP h rack q until_ k) acc s).isSome, resH (accStep (stepE h rack q slot p) (bestP h rack q until_ k) acc s), resO (accStep (stepE h rack q slot p) (bestP h rack q until_ k) acc s), slot, p, c2, f2)) ∧
              RInv h rack q until_ k p c f d (pre ++ [s]) (accStep (stepE h rack q slot p) (bestP h rack q until_ k) acc s) c2 f2 d2 := by
            rw [ev_p_strike_best_from_r0];simp only;rw [bind_of hstep, cond_if]
            by_cases he : st.2.2 = 0
            · rw [if_neg (by simp [he]), chk_of (in64_of (by omega)), hs1];obtain ⟨c2, f2, d2, g1, g2, g3, g4⟩ := ih m st.1 c1 f1 d1 (by omega) (by omega) (by omega) hrng.1 R.inv;rw [bind_of g1, cond_if];have hx : (slot, p).1 < until_ - (k : Int) := by simp only; omega
              have hR : ∀ acc', accStep (stepE h rack q slot p) (bestP h rack q until_ k) acc s = acc' → acc' = acc → RInv h rack q until_ k p c f d (pre ++ [s]) acc' c2 f2 d2 := by
                rintro acc' _ rfl
                refine ⟨?_, g2, fun h1 z hz hz0 => ?_, fun x hx1 hx2 => ?_, fun x hx => g4.up x (R.up x hx), R.rng⟩
                · rw [← hslot, g4.ed _ hx, g4.ec _ hx, g4.ef _ hx];have := R.here;rw [← hslot] at this; exact this
                · rcases List.mem_append.1 hz with hz | hz
                  · exact g4.up _ (R.cl h1 z hz hz0)
                  · rw [List.mem_singleton] at hz; subst hz;rw [← hslot, ← hst]; exact g3 h1
                · obtain ⟨q1, q2, q3⟩ := R.other x hx1 hx2;have hlt : x.1 < until_ - (k : Int) := by omega
                  exact ⟨(g4.ec x hlt).trans q1, (g4.ef x hlt).trans q2, (g4.ed x hlt).trans q3⟩
              cases hb : bestP h rack q until_ k st.1 with
              | none =>
                have hacc : accStep (stepE h rack q slot p) (bestP h rack q until_ k) acc s = acc := by
                  unfold accStep; rw [← hst, if_pos he, hb]
                simp only [Option.isSome_none, Bool.not_false, if_true];rw [hacc];exact ⟨c2, f2, d2, rfl, hR acc hacc rfl⟩
              | some b =>
                have hbr := best_range k st.1 b hrng.1 hb;obtain ⟨nc, hnc⟩ : ∃ nc, nc = costOf st s b := ⟨_, rfl⟩;have hn1 : nc.1 = b.1.1 + st.2.1 := by rw [hnc]; rfl
                have hn2 : nc.2 = b.1.2 + if s.2 then 1 else 0 := by rw [hnc]; rfl
                have e1 : resH (some b) = b.1.1 := rfl;have e2 : resO (some b) = b.1.2 := rfl;simp only [Option.isSome_some, Bool.not_true, Bool.false_eq_true, if_false, e1, e2];rw [chk_of (in64_of (by omega)), ← hn1];have hj : (cond s.2 (chk (in64 (b.1.2 + 1)) (ev_p_strike_best_from_j1 m slot p (resH acc) (resO acc) acc.isSome s.1 s.2 nc.1 (b.1.2 + 1) c2 f2 d2)) (ev_p_strike_best_from_j1 m slot p (resH acc) (resO acc) acc.isSome s.1 s.2 nc.1 b.1.2 c2 f2 d2)) = ev_p_strike_best_from_j1 m slot p (resH acc) (resO acc) acc.isSome s.1 s.2 nc.1 nc.2 c2 f2 d2 := by
                  rw [cond_if]
                  split
                  · rename_i hs2
                    rw [chk_of (in64_of (by omega)), hn2, if_pos hs2]
                  · rename_i hs2
                    rw [hn2, if_neg hs2, Int.add_zero]
                rw [hj];have hput : ∃ c3 f3 d3, ev_p_strike_best_from_j2 m d2 nc.1 nc.2 slot p c2 f2 s.1 s.2 = some (0, (d3, true, nc.1, nc.2, slot, p, c3, f3)) ∧ RInv h rack q until_ k p c f d (pre ++ [s]) (some (nc, s)) c3 f3 d3 := by
                  refine ⟨_, _, _, rfl, ?_⟩;have R2 := hR acc;have hne : ∀ x : Int × Int, until_ - (k : Int) ≤ x.1 → (slot, p) ≠ x := fun x hx e => by rw [← e] at hx; simp only at hx; omega
                  refine ⟨?_, g2.congr (fun x hx => mlook_put_ne _ _ (hne x hx)) (fun x hx => mlook_put_ne _ _ (hne x hx)) (fun x hx => rfl), fun h1 z hz hz0 => ?_, fun x hx1 hx2 => ?_, fun x hx => g4.up x (R.up x hx), fun a ha => ?_⟩
                  · rw [← hslot, g4.ed _ hx, mlook_put_same, mlook_put_same];have := R.here;rw [← hslot] at this; exact ⟨this.1, rfl, rfl⟩
                  · rcases List.mem_append.1 hz with hz | hz
                    · exact g4.up _ (R.cl h1 z hz hz0)
                    · rw [List.mem_singleton] at hz; subst hz;rw [← hslot, ← hst]; exact g3 h1
                  · obtain ⟨q1, q2, q3⟩ := R.other x hx1 hx2;have hlt : x.1 < until_ - (k : Int) := by omega
                    rw [← hslot] at hx2;exact ⟨(mlook_put_ne _ _ (Ne.symm hx2)).trans ((g4.ec x hlt).trans q1), (mlook_put_ne _ _ (Ne.symm hx2)).trans ((g4.ef x hlt).trans q2), (g4.ed x hlt).trans q3⟩
                  · cases ha;simp only;refine ⟨by omega, ?_⟩;rw [hn2]; split <;> omega
                rw [ev_p_strike_best_from_j1, cond_if]
                cases hacc : acc with
                | none =>
                  have ha2 : accStep (stepE h rack q slot p) (bestP h rack q until_ k) none s = some (nc, s) := by
                    unfold accStep; rw [← hst, if_pos he, hb, hnc]
                  simp only [Option.isSome_none, Bool.not_false, if_true];rw [ha2];exact hput
                | some a =>
                  have e3 : resH (some a) = a.1.1 := rfl;have e4 : resO (some a) = a.1.2 := rfl;simp only [Option.isSome_some, Bool.not_true, Bool.false_eq_true, if_false, e3, e4];obtain ⟨r, hr1, hr2⟩ := ev_costCmp (n := m) (by omega) nc.1 nc.2 a.1.1 a.1.2;rw [bind_of hr1, cond_if]
                  by_cases hlt : ltC nc a.1
                  · have ha2 : accStep (stepE h rack q slot p) (bestP h rack q until_ k) (some a) s = some (nc, s) := by
                      unfold accStep; rw [← hst, if_pos he, hb]; show (if ltC (costOf st s b) a.1 then some (costOf st s b, s) else some a) = _; rw [← hnc, if_pos hlt]
                    rw [if_pos (by simpa using hr2.2 hlt), ha2];exact hput
                  · have ha2 : accStep (stepE h rack q slot p) (bestP h rack q until_ k) (some a) s = some a := by
                      unfold accStep; rw [← hst, if_pos he, hb]; show (if ltC (costOf st s b) a.1 then some (costOf st s b, s) else some a) = _; rw [← hnc, if_neg hlt]
                    rw [if_neg (by simp; exact Int.not_lt.1 fun h => hlt (hr2.1 h)), ha2];exact ⟨c2, f2, d2, rfl, hR (some a) (by rw [hacc]; exact ha2) hacc.symm⟩
            · rw [if_pos (by simpa using he)];have hacc : accStep (stepE h rack q slot p) (bestP h rack q until_ k) acc s = acc := by
                unfold accStep; rw [← hst, if_neg he]
              rw [hacc];refine ⟨c1, f1, d1, rfl, R.here, R.inv, fun h1 z hz hz0 => ?_, R.other, R.up, R.rng⟩;rcases List.mem_append.1 hz with hz | hz
              · exact R.cl h1 z hz hz0
              · rw [List.mem_singleton] at hz; subst hz;rw [← hslot, ← hst] at hz0; exact absurd hz0 he
          obtain ⟨c2, f2, d2, h1, R2⟩ := one;obtain ⟨c3, f3, d3, h2, R3⟩ := ihs (pre ++ [s]) _ c2 f2 d2 (fun z hz => hsub z (by simp [hz])) R2;refine ⟨c3, f3, d3, ?_, by simpa using R3⟩;exact foldX_step h1 h2
      have hne : ∀ x : Int × Int, until_ - (k : Int) ≤ x.1 → (slot, p) ≠ x := fun x hx e => by rw [← e] at hx; simp only at hx; omega
      have HI : MInv h rack q until_ k c f (mput d (slot, p) true) := by
        refine ⟨fun j p' h1 h2 hp' hh => ?_, fun j p' h1 h2 hp' hh => ?_⟩
        · rw [mlook_put_ne _ _ (hne _ (by simp only; omega))] at hh;obtain ⟨q1, q2, q3⟩ := H.good j p' h1 (by omega) hp' hh;exact ⟨q1, q2, fun hj s hs hz => by rw [mlook_put_ne _ _ (hne _ (by simp only; omega))]; exact q3 hj s hs hz⟩
        · rw [mlook_put_ne _ _ (hne _ (by simp only; omega))] at hh;exact H.fresh j p' h1 (by omega) hp' hh
      have R0 : RInv h rack q until_ k p c f d [] none c f (mput d (slot, p) true) := by
        refine ⟨?_, HI, fun _ s hs => by simp at hs, fun x hx1 hx2 => ?_, fun x hx => ?_, fun a ha => by cases ha⟩
        · rw [← hslot, mlook_put_same];rw [← hslot] at fr1 fr2;exact ⟨rfl, fr1, fr2⟩
        · rw [← hslot] at hx2;exact ⟨rfl, rfl, mlook_put_ne _ _ (Ne.symm hx2)⟩
        · rw [mlook_put]; split
          · rfl
          · exact hx
      obtain ⟨c2, f2, d2, hf, R⟩ := round (stepsL (nN h)) [] none c f (mput d (slot, p) true) (fun s hs => hs) R0;have hb : (stepsL (nN h)).foldl (accStep (stepE h rack q slot p) (bestP h rack q until_ k)) none = bestP h rack q until_ (k + 1) p := by rw [hslot]; rfl
      rw [hb] at hf R;have hst : ev_strike_train_steps (loopStep (ev_p_strike_best_from_r0 m h rack q (plN h) until_ (ev_p_strike_best_from m))) m h rack q (plN h) ((mput d (slot, p) true, false, 0, 0, slot, p, c, f), 0) = _ := ev_steps (by omega) hf;rw [bind_of hst, cond_if, if_pos (by rfl)];refine ⟨c2, f2, d2, rfl, ⟨fun j p' h1 h2 hp' hh => ?_, fun j p' h1 h2 hp' hh => ?_⟩, fun _ => by rw [hslot]; exact R.here.1, ⟨fun x hx => ?_, fun x hx => ?_, fun x hx => ?_, R.up⟩⟩
      · rcases Nat.lt_or_ge k j with hj | hj
        · have : j = k + 1 := by omega
          subst this
          by_cases hpp : p' = p
          · subst hpp;refine ⟨R.here.2.1, R.here.2.2, fun hj2 s hs hz => ?_⟩;have := R.cl (by omega) s (by simpa using hs) hz
            simpa using this
          · have hx : ((until_ - ((k + 1 : Nat) : Int), p') : Int × Int) ≠ (until_ - ((k + 1 : Nat) : Int), p) := fun e => hpp (by simpa using e)
            obtain ⟨q1, q2, q3⟩ := R.other (until_ - ((k + 1 : Nat) : Int), p') (Int.le_refl _) hx;rw [q3] at hh;obtain ⟨z1, z2, z3⟩ := H.good (k + 1) p' h1 (Nat.le_refl _) hp' hh;rw [q1, q2];exact ⟨z1, z2, fun hj2 s hs hz => R.up _ (z3 hj2 s hs hz)⟩
        · exact R.inv.good j p' h1 hj hp' hh
      · rcases Nat.lt_or_ge k j with hj | hj
        · have : j = k + 1 := by omega
          subst this
          by_cases hpp : p' = p
          · subst hpp; exact absurd R.here.1 hh
          · have hx : ((until_ - ((k + 1 : Nat) : Int), p') : Int × Int) ≠ (until_ - ((k + 1 : Nat) : Int), p) := fun e => hpp (by simpa using e)
            obtain ⟨q1, q2, q3⟩ := R.other (until_ - ((k + 1 : Nat) : Int), p') (Int.le_refl _) hx;rw [q3] at hh;rw [q1, q2];exact H.fresh (k + 1) p' h1 (Nat.le_refl _) hp' hh
        · exact R.inv.fresh j p' h1 hj hp' hh
      · exact (R.other x (by omega) (fun e => by rw [e] at hx; simp only at hx; omega)).1
      · exact (R.other x (by omega) (fun e => by rw [e] at hx; simp only at hx; omega)).2.1
      · exact (R.other x (by omega) (fun e => by rw [e] at hx; simp only at hx; omega)).2.2
end Go.Proofs.Ytglgkcfgjaoabaa.Sy
