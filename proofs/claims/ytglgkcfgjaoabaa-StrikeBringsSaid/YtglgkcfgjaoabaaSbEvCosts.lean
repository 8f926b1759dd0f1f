/- What it costs to bring a strike back, by any order of the steps; which step the best plan begins with; the reference's tables and its plan. -/
import Derived.Test.YtglgkcfgjaoabaaSbEvPlan
import Derived.Test.YtglgkcfgjaoabaaSbEvRefPlay
set_option linter.unusedSimpArgs false
set_option linter.unusedVariables false
namespace Go.Proofs.Ytglgkcfgjaoabaa.Sy
open Go.RowKit
set_option maxRecDepth 100000
theorem ltC_tri {a b : Int × Int} (h1 : ¬ ltC a b) (h2 : ¬ ltC b a) : a = b := by
  obtain ⟨a1, a2⟩ := a;obtain ⟨b1, b2⟩ := b;unfold ltC at h1 h2;simp only [Prod.mk.injEq] at *
  omega
theorem acc_same {st : Int × Bool → Int × Int × Int} {cost : Int → Option Bst} {l l' : List (Int × Bool)} (h : ∀ s, s ∈ l ↔ s ∈ l') : (l.foldl (accStep st cost) none).map (·.1) = (l'.foldl (accStep st cost) none).map (·.1) := by
  have key : ∀ l l' : List (Int × Bool), (∀ s, s ∈ l → s ∈ l') → ∀ a, l.foldl (accStep st cost) none = some a → ∃ a', l'.foldl (accStep st cost) none = some a' ∧ ¬ ltC a.1 a'.1 := fun l l' h a ha => by
    rcases (acc_spec (st := st) (cost := cost) l none).1 a ha with e | ⟨s, hs, b, h0, hb, rfl⟩
    · cases e
    · exact (acc_spec (st := st) (cost := cost) l' none).2.2 s (h s hs) b h0 hb
  cases e1 : l.foldl (accStep st cost) none with
  | none =>
    cases e2 : l'.foldl (accStep st cost) none with
    | none => rfl
    | some a =>
      obtain ⟨a', e, _⟩ := key l' l (fun s hs => (h s).2 hs) a e2;rw [e1] at e; cases e
  | some a =>
    obtain ⟨a', e, n1⟩ := key l l' (fun s hs => (h s).1 hs) a e1;obtain ⟨a2, e2, n2⟩ := key l' l (fun s hs => (h s).2 hs) a' e;rw [e1] at e2;obtain rfl := Option.some.inj e2;rw [e];exact congrArg some (ltC_tri n1 n2)
def hitP (st : Int × Bool → Int × Int × Int) (cost : Int → Option Bst) (c : Int × Int) (s : Int × Bool) : Prop := (st s).2.2 = 0 ∧ ∃ b, cost (st s).1 = some b ∧ costOf (st s) s b = c
theorem acc_first {st : Int × Bool → Int × Int × Int} {cost : Int → Option Bst} : ∀ (l : List (Int × Bool)) (acc : Option Bst) (a : Bst), l.foldl (accStep st cost) acc = some a →
    acc = some a ∨ ∃ pre suf, l = pre ++ a.2 :: suf ∧ hitP st cost a.1 a.2 ∧ (∀ s ∈ pre, ¬ hitP st cost a.1 s) ∧ ∀ a0, acc = some a0 → ltC a.1 a0.1 := by
  intro l
  induction l with
  | nil => intro acc a h; exact .inl h
  | cons x l ih =>
    intro acc a h;obtain ⟨s1, s2, s3⟩ := acc_spec (st := st) (cost := cost) [x] acc;rcases ih (accStep st cost acc x) a h with h1 | ⟨pre, suf, rfl, g1, g2, g3⟩
    · have hstep : acc = some a ∨ ∃ b, (st x).2.2 = 0 ∧ cost (st x).1 = some b ∧ a = (costOf (st x) x b, x) ∧ ∀ a0, acc = some a0 → ltC a.1 a0.1 := by
        unfold accStep at h1
        split at h1
        · rename_i h0
          split at h1
          · exact .inl h1
          · rename_i b hb
            split at h1
            · cases h1; exact .inr ⟨b, h0, hb, rfl, fun a0 e => by cases e⟩
            · split at h1
              · rename_i a0 hlt
                cases h1; exact .inr ⟨b, h0, hb, rfl, fun a1 e => by cases e; exact hlt⟩
              · exact .inl h1
        · exact .inl h1
      rcases hstep with h2 | ⟨b, h0, hb, rfl, hlt⟩
      · exact .inl h2
      · exact .inr ⟨[], l, rfl, ⟨h0, b, hb, rfl⟩, fun s hs => by simp at hs, hlt⟩
    · refine .inr ⟨x :: pre, suf, rfl, g1, fun s hs => ?_, fun a0 e => ?_⟩
      · rcases List.mem_cons.1 hs with rfl | hs
        · rintro ⟨h0, b, hb, e⟩
          obtain ⟨a', e1, n1⟩ := s3 s (by simp) b h0 hb;have := g3 a' e1;rw [e] at n1;exact n1 this
        · exact g2 s hs
      · obtain ⟨a', e1, n1⟩ := s2 a0 e;have := g3 a' e1;unfold ltC at *
        omega
section
variable {h rack : Bool} {q : List (Int × Int)} {until_ : Int}
theorem best_first {k : Nat} {p : Int} {a : Bst} (ha : bestP h rack q until_ (k + 1) p = some a) : ∃ pre suf, stepsL (nN h) = pre ++ a.2 :: suf ∧ hitP (stepE h rack q (until_ - (k + 1 : Nat)) p) (bestP h rack q until_ k) a.1 a.2 ∧ ∀ s ∈ pre, ¬ hitP (stepE h rack q (until_ - (k + 1 : Nat)) p) (bestP h rack q until_ k) a.1 s := by
  rcases acc_first (st := stepE h rack q (until_ - (k + 1 : Nat)) p) (cost := bestP h rack q until_ k) (stepsL (nN h)) none a ha with e | ⟨pre, suf, e, h1, h2, _⟩
  · cases e
  · exact ⟨pre, suf, e, h1, h2⟩
def hvP (o : Option Bst) : Int := match o with
  | none => 1000000
  | some a => a.1.1
def ovP (o : Option Bst) : Int := match o with
  | none => 0
  | some a => a.1.2
theorem hv_map {o o' : Option Bst} (e : o.map (·.1) = o'.map (·.1)) : hvP o = hvP o' ∧ ovP o = ovP o' := by
  cases o <;> cases o' <;> simp at e
  · exact ⟨rfl, rfl⟩
  · rw [hvP, hvP, ovP, ovP, e]; exact ⟨rfl, rfl⟩
def ascL : Nat → List (Int × Bool)
  | 0 => []
  | k + 1 => ascL k ++ [((k : Int), false), ((k : Int), true)]
theorem ascL_mem : ∀ {k : Nat} {s : Int × Bool}, s ∈ stepsL k ↔ s ∈ ascL k := by
  intro k
  induction k with
  | zero => intro s; simp [stepsL, ascL]
  | succ k ih =>
    intro s;simp only [stepsL, ascL, List.mem_cons, List.mem_append, ih, List.not_mem_nil, or_false]
    constructor
    · rintro (h | h | h)
      · exact .inr (.inr h)
      · exact .inr (.inl h)
      · exact .inl h
    · rintro (h | h | h)
      · exact .inr (.inr h)
      · exact .inr (.inl h)
      · exact .inl h
def RngB (a : Option Bst) : Prop := ∀ x, a = some x → (0 ≤ x.1.1 ∧ x.1.1 ≤ 60000) ∧ (0 ≤ x.1.2 ∧ x.1.2 ≤ 100)
theorem rng_hv {a : Option Bst} (h : RngB a) : (0 ≤ hvP a ∧ hvP a ≤ 1000000) ∧ (0 ≤ ovP a ∧ ovP a ≤ 100) := by
  cases a with
  | none => simp [hvP, ovP]
  | some x => have := h x rfl; simp only [hvP, ovP]; omega
theorem best_rng {k : Nat} (hk : k ≤ 96) {p : Int} (hp : 0 ≤ p ∧ p < plN h) : RngB (bestP h rack q until_ k p) := fun x hx => by
  have := best_range k p x hp hx
  omega
theorem acc_rng {k : Nat} (hk : k ≤ 95) {p slot : Int} (hp : 0 ≤ p ∧ p < plN h) {acc : Option Bst} (ha : RngB acc) (s : Int × Bool) : RngB (accStep (stepE h rack q slot p) (bestP h rack q until_ k) acc s) := by
  have hr := stepE_range (rack := rack) (q := q) (slot := slot) (s := s) hp;unfold accStep
  split
  · split
    · exact ha
    · rename_i b hb
      have hb' := best_range k _ b hr.1 hb;have hc : (0 ≤ (costOf (stepE h rack q slot p s) s b).1 ∧ (costOf (stepE h rack q slot p s) s b).1 ≤ 60000) ∧ (0 ≤ (costOf (stepE h rack q slot p s) s b).2 ∧ (costOf (stepE h rack q slot p s) s b).2 ≤ 100) := by
        unfold costOf; dsimp only;have : (0 : Int) ≤ (if s.2 = true then 1 else 0) ∧ (if s.2 = true then (1 : Int) else 0) ≤ 1 := by split <;> omega
        omega
      split
      · intro x hx; cases hx; exact hc
      · split
        · intro x hx; cases hx; exact hc
        · exact ha
  · exact ha
structure Tab (h rack : Bool) (q : List (Int × Int)) (until_ : Int) (d : Nat) (D : Nat → Nat → Prop) (hh oo : List (List Int)) : Prop where
  lh : hh.length = d + 1
  lo : oo.length = d + 1
  row : ∀ j, j < d + 1 → ∃ r r', hh[j]? = some r ∧ oo[j]? = some r' ∧ r.length = nN h ∧ r'.length = nN h ∧ ∀ p : Nat, p < nN h → D j p → r[p]? = some (hvP (bestP h rack q until_ (d - j) p)) ∧ r'[p]? = some (ovP (bestP h rack q until_ (d - j) p))
theorem Tab.mono {d : Nat} {D D' : Nat → Nat → Prop} {hh oo : List (List Int)} (H : Tab h rack q until_ d D hh oo) (hD : ∀ j p, p < nN h → D' j p → D j p) : Tab h rack q until_ d D' hh oo :=
  ⟨H.lh, H.lo, fun j hj => by
    obtain ⟨r, r', a1, a2, a3, a4, a5⟩ := H.row j hj;exact ⟨r, r', a1, a2, a3, a4, fun p hp hd => a5 p hp (hD j p hp hd)⟩⟩
theorem Tab.set {d : Nat} {D : Nat → Nat → Prop} {hh oo : List (List Int)} (H : Tab h rack q until_ d D hh oo) {j p : Nat} {r r' : List Int} (h1 : hh[j]? = some r) (h2 : oo[j]? = some r') {v v' : Int} (hv : v = hvP (bestP h rack q until_ (d - j) p)) (hv' : v' = ovP (bestP h rack q until_ (d - j) p)) :
    Tab h rack q until_ d (fun j' p' => D j' p' ∨ (j' = j ∧ p' = p)) (hh.set j (r.set p v)) (oo.set j (r'.set p v')) := by
  have l1 := (List.getElem?_eq_some_iff.1 h1).1;have l2 := (List.getElem?_eq_some_iff.1 h2).1;refine ⟨by rw [List.length_set]; exact H.lh, by rw [List.length_set]; exact H.lo, fun i hi => ?_⟩;obtain ⟨s, s', a1, a2, a3, a4, a5⟩ := H.row i hi
  by_cases e : j = i
  · subst e;obtain rfl := Option.some.inj (h1.symm.trans a1);obtain rfl := Option.some.inj (h2.symm.trans a2);refine ⟨r.set p v, r'.set p v', by rw [List.getElem?_set, if_pos rfl, if_pos l1], by rw [List.getElem?_set, if_pos rfl, if_pos l2], by rw [List.length_set]; exact a3, by rw [List.length_set]; exact a4, fun x hx hd => ?_⟩
    by_cases e2 : p = x
    · subst e2;rw [List.getElem?_set, if_pos rfl, if_pos (by omega), List.getElem?_set, if_pos rfl, if_pos (by omega), hv, hv'];exact ⟨rfl, rfl⟩
    · rw [List.getElem?_set, if_neg e2, List.getElem?_set, if_neg e2];refine a5 x hx (hd.resolve_right fun hh => e2 hh.2.symm)
  · refine ⟨s, s', by rw [List.getElem?_set, if_neg e]; exact a1, by rw [List.getElem?_set, if_neg e]; exact a2, a3, a4, fun x hx hd => a5 x hx (hd.resolve_right fun hh => e hh.1.symm)⟩
end
section
variable {h rack : Bool} {q : List (Int × Int)} (hq : q.length ≤ 20) {slot : Int} {d : Nat} (hd : d ≤ 96) (hs : 0 ≤ slot ∧ slot ≤ 2000000) {n : Nat} (hn : 200 < n)
include hq hd hs hn in
theorem costs_hold {j p : Nat} (hj : j < d) (hp : p < nN h) {hh oo : List (List Int)} (H : Tab h rack q (slot + d) d (fun i _ => j < i) hh oo) {k4 : Int → Int → Int → Option (List (List Int) × List (List Int))} {off : Nat} (ho : off ≤ 24) (b : Bool) {acc : Option Bst} (ha : RngB acc) (m : Nat) {i : Int} (hi : i = if b then 1 else 0) :
    ev_ref05_Costs_l5 n h rack q (slot + j) (p : Int) (off : Int) slot hh oo k4 (m + 1) (hvP acc) (ovP acc) i
      = ev_ref05_Costs_l5 n h rack q (slot + j) (p : Int) (off : Int) slot hh oo k4 m (hvP (accStep (stepE h rack q (slot + j) p) (bestP h rack q (slot + d) (d - (j + 1))) acc ((off : Int), b))) (ovP (accStep (stepE h rack q (slot + j) p) (bestP h rack q (slot + d) (d - (j + 1))) acc ((off : Int), b))) (i + 1) := by
  have hN := nN_cast h;have hpp : 0 ≤ (p : Int) ∧ (p : Int) < plN h := by omega
  have hi2 : i < 2 ∧ 0 ≤ i := by subst hi; split <;> omega
  have hib : (i == 1) = b := by subst hi; cases b <;> rfl
  have hstep := ev_refStep (n := n) (by omega) (rack := rack) hq (slot := slot + j) (by omega) hpp ((off : Int), b);obtain ⟨st, hst⟩ : ∃ st, st = stepE h rack q (slot + j) p ((off : Int), b) := ⟨_, rfl⟩;have hr := stepE_range (rack := rack) (q := q) (slot := slot + j) (s := ((off : Int), b)) hpp;rw [← hst] at hr;have hra := rng_hv ha;obtain ⟨r, r', a1, a2, a3, a4, a5⟩ := H.row (j + 1) (by omega);have e1 : (slot + (j : Int) + 1) - slot = ((j + 1 : Nat) : Int) := by omega
  rw [ev_ref05_Costs_l5, cond_if, if_pos (decide_eq_true hi2.1), hib, bind_of hstep, cond_if, ← hst];unfold accStep;rw [← hst]
  by_cases h0 : st.2.2 = 0
  · have hst1 : st.1.toNat < nN h := by omega
    obtain ⟨v1, v2⟩ := a5 st.1.toNat hst1 (by omega);rw [show ((st.1.toNat : Nat) : Int) = st.1 by omega] at v1 v2;have hb := rng_hv (best_rng (rack := rack) (q := q) (until_ := slot + d) (k := d - (j + 1)) (by omega) hr.1);rw [if_neg (by simp [h0]), if_pos h0, chk_of (in64_of (by omega)), chk_of (in64_of (by omega)), e1, idx_nat a1, idx_of hr.1.1 v1, cond_if]
    cases hbest : bestP h rack q (slot + d) (d - (j + 1)) st.1 with
    | none =>
      rw [if_pos (by simp [hvP]), chk_of (in64_of (by omega))]
    | some c =>
      rw [hbest] at v1 v2 hb;have hc := best_range _ _ c hr.1 hbest;have hcost : costOf st ((off : Int), b) c = (st.2.1 + c.1.1, i + c.1.2) := by
        unfold costOf; rw [hi, Int.add_comm c.1.1, Int.add_comm c.1.2]
      have hne : ¬ ((hvP (some c) == 1000000) = true) := by simp only [hvP, beq_iff_eq]; omega
      simp only [hvP, ovP] at v1 v2;rw [if_neg hne, ev_ref05_Costs_j6, e1, idx_nat a1, idx_nat a2, chk_of (in64_of (by omega)), chk_of (in64_of (by omega)), idx_of hr.1.1 v1, chk_of (in64_of (by omega)), chk_of (in64_of (by omega)), chk_of (in64_of (by omega)), idx_of hr.1.1 v2, chk_of (in64_of (by omega)), cond_if]
      cases acc with
      | none =>
        rw [if_pos (decide_eq_true (show st.2.1 + c.1.1 < hvP none by simp only [hvP]; omega)), chk_of (in64_of (by omega))];dsimp only;rw [hcost]; rfl
      | some a =>
        dsimp only;rw [hcost];unfold ltC;simp only [hvP, ovP]
        by_cases c1 : st.2.1 + c.1.1 < a.1.1
        · simp only [c1, decide_true, if_true, true_or];rw [chk_of (in64_of (by omega))]
        · by_cases c2 : st.2.1 + c.1.1 = a.1.1
          · by_cases c3 : i + c.1.2 < a.1.2
            · simp only [c2, c3, Int.lt_irrefl, decide_true, decide_false, beq_self_eq_true, cond_true, true_and, and_true, or_true, if_true, Bool.false_eq_true, if_false];rw [chk_of (in64_of (by omega))]
            · simp only [c2, c3, Int.lt_irrefl, decide_true, decide_false, beq_self_eq_true, cond_true, cond_false, and_false, or_false, if_true, Bool.false_eq_true, if_false];rw [chk_of (in64_of (by omega))]
          · have e : (st.2.1 + c.1.1 == a.1.1) = false := beq_eq_false_iff_ne.2 c2;simp only [c1, c2, e, decide_false, cond_false, false_and, or_false, Bool.false_eq_true, if_false];rw [chk_of (in64_of (by omega))]
  · rw [if_pos (by simpa using h0), if_neg h0, chk_of (in64_of (by omega))]
include hq hd hs hn in
theorem costs_off {j p : Nat} (hj : j < d) (hp : p < nN h) {hh oo : List (List Int)} (H : Tab h rack q (slot + d) d (fun i _ => j < i) hh oo) {k4 : Int → Int → Int → Option (List (List Int) × List (List Int))} {off : Nat} (ho : off ≤ 24) {acc : Option Bst} (ha : RngB acc) {m : Nat} (hm : 2 < m) :
    ev_ref05_Costs_l5 n h rack q (slot + j) (p : Int) (off : Int) slot hh oo k4 m (hvP acc) (ovP acc) 0
      = k4 (hvP ([((off : Int), false), ((off : Int), true)].foldl (accStep (stepE h rack q (slot + j) p) (bestP h rack q (slot + d) (d - (j + 1)))) acc)) (ovP ([((off : Int), false), ((off : Int), true)].foldl (accStep (stepE h rack q (slot + j) p) (bestP h rack q (slot + d) (d - (j + 1)))) acc)) ((off + 1 : Nat) : Int) := by
  have hN := nN_cast h;have hpp : 0 ≤ (p : Int) ∧ (p : Int) < plN h := by omega
  obtain ⟨m, rfl⟩ : ∃ m', m = m' + 3 := ⟨m - 3, by omega⟩;have a1 := acc_rng (rack := rack) (q := q) (until_ := slot + d) (k := d - (j + 1)) (by omega) (slot := slot + j) hpp ha ((off : Int), false);rw [costs_hold hq hd hs hn hj hp H ho false ha (m + 2) (i := 0) (by simp), costs_hold hq hd hs hn hj hp H ho true a1 (m + 1) (i := 0 + 1) (by simp), ev_ref05_Costs_l5, cond_if, if_neg (by decide), chk_of (in64_of (by omega))]
  rfl
include hq hd hs hn in
theorem costs_place {j p : Nat} (hj : j < d) (hp : p < nN h) {hh oo : List (List Int)} {D : Nat → Nat → Prop} (H : Tab h rack q (slot + d) d D hh oo) (hD : ∀ i x, j < i → D i x) {k3 : Int → Bool → Bool → (List ((List Int))) → (List ((List Int))) → (List (Int × Int)) → Option ((List ((List Int))) × (List ((List Int))))} :
    ∃ hh' oo', Tab h rack q (slot + d) d (fun j' p' => D j' p' ∨ (j' = j ∧ p' = p)) hh' oo' ∧
      ev_ref05_Costs_l4 n (plN h) h rack q (slot + j) (p : Int) slot hh oo k3 n 1000000 0 0 = k3 ((p + 1 : Nat) : Int) h rack hh' oo' q := by
  have hN := nN_cast h;have hN24 : nN h ≤ 24 := by cases h <;> simp [nN]
  have hpp : 0 ≤ (p : Int) ∧ (p : Int) < plN h := by omega
  obtain ⟨r, r', a1, a2, a3, a4, a5⟩ := H.row j (by omega);have H' := H.mono (D' := fun i _ => j < i) fun i x _ hi => hD i x hi
  have hk1 : d - j = (d - (j + 1)) + 1 := by omega
  have hu : slot + (d : Int) - ((d - (j + 1) + 1 : Nat) : Int) = slot + j := by omega
  have hbest : bestP h rack q (slot + d) (d - j) p = (stepsL (nN h)).foldl (accStep (stepE h rack q (slot + j) p) (bestP h rack q (slot + d) (d - (j + 1)))) none := by rw [hk1, bestP, hu]
  have key : ∀ (k m i : Nat), i + k = nN h → k < m → RngB ((ascL i).foldl (accStep (stepE h rack q (slot + j) p) (bestP h rack q (slot + d) (d - (j + 1)))) none) →
      ev_ref05_Costs_l4 n (plN h) h rack q (slot + j) (p : Int) slot hh oo k3 m (hvP ((ascL i).foldl (accStep (stepE h rack q (slot + j) p) (bestP h rack q (slot + d) (d - (j + 1)))) none)) (ovP ((ascL i).foldl (accStep (stepE h rack q (slot + j) p) (bestP h rack q (slot + d) (d - (j + 1)))) none)) (i : Int)
        = k3 ((p + 1 : Nat) : Int) h rack (hh.set j (r.set p (hvP (bestP h rack q (slot + d) (d - j) p)))) (oo.set j (r'.set p (ovP (bestP h rack q (slot + d) (d - j) p)))) q := by
    intro k
    induction k with
    | zero =>
      intro m i hi hm _;obtain ⟨m, rfl⟩ : ∃ m', m = m' + 1 := ⟨m - 1, by omega⟩;obtain rfl : i = nN h := by omega
      obtain ⟨e1, e2⟩ := hv_map (acc_same (st := stepE h rack q (slot + j) p) (cost := bestP h rack q (slot + d) (d - (j + 1))) (l := ascL (nN h)) (l' := stepsL (nN h)) fun s => ascL_mem.symm);rw [ev_ref05_Costs_l4, cond_if, if_neg (by simp; omega), show slot + (j : Int) - slot = (j : Int) by omega, idx_nat a1, idx_nat a2, chk_of (in64_of (by omega)), chk_of (in64_of (by omega)), idx_nat (List.getElem?_eq_getElem (show p < r.length by omega)), idx_nat (List.getElem?_eq_getElem (show p < r'.length by omega)), chk_of (in64_of (by omega)), e1, e2, ← hbest, Int.toNat_natCast, Int.toNat_natCast]
      rfl
    | succ k ih =>
      intro m i hi hm hrng;obtain ⟨m, rfl⟩ : ∃ m', m = m' + 1 := ⟨m - 1, by omega⟩;rw [ev_ref05_Costs_l4, cond_if, if_pos (decide_eq_true (by omega)), costs_off hq hd hs hn hj hp H' (by omega) hrng (by omega), ← List.foldl_append];refine ih m (i + 1) (by omega) (by omega) ?_;rw [ascL, List.foldl_append];exact acc_rng (by omega) hpp (acc_rng (by omega) hpp hrng _) _
  exact ⟨_, _, H.set a1 a2 rfl rfl, key (nN h) n 0 (by omega) (by omega) fun x hx => by cases hx⟩
include hq hd hs hn in
theorem costs_row {j : Nat} (hj : j < d) {k2 : Int → Bool → Bool → (List ((List Int))) → (List ((List Int))) → (List (Int × Int)) → Option ((List ((List Int))) × (List ((List Int))))} : ∀ (k m i : Nat) (hh oo : List (List Int)), i + k = nN h → k < m → Tab h rack q (slot + d) d (fun j' p' => j < j' ∨ (j' = j ∧ p' < i)) hh oo →
    ∃ hh' oo', Tab h rack q (slot + d) d (fun j' _ => j ≤ j') hh' oo' ∧ ev_ref05_Costs_l3 n (plN h) (slot + j) slot k2 m (i : Int) h rack hh oo q = k2 (slot + j - 1) h rack hh' oo' q := by
  have hN := nN_cast h;intro k
  induction k with
  | zero =>
    intro m i hh oo hi hm H;obtain ⟨m, rfl⟩ : ∃ m', m = m' + 1 := ⟨m - 1, by omega⟩;refine ⟨hh, oo, H.mono fun j' p' hp hjj => by omega, ?_⟩;rw [ev_ref05_Costs_l3, cond_if, if_neg (by simp; omega), chk_of (in64_of (by omega))]
  | succ k ih =>
    intro m i hh oo hi hm H;obtain ⟨m, rfl⟩ : ∃ m', m = m' + 1 := ⟨m - 1, by omega⟩;obtain ⟨hh', oo', H', e⟩ := costs_place hq hd hs hn hj (p := i) (by omega) H (fun i x hi => .inl hi) (k3 := fun i28q b29q b30q l31q l32q l33q => ev_ref05_Costs_l3 n (plN h) (slot + j) slot k2 m i28q b29q b30q l31q l32q l33q);obtain ⟨h2, o2, H2, e2⟩ := ih m (i + 1) hh' oo' (by omega) (by omega) (H'.mono fun j' p' _ hjj => by omega);refine ⟨h2, o2, H2, ?_⟩;rw [ev_ref05_Costs_l3, cond_if, if_pos (decide_eq_true (by omega)), e, e2]
include hq hd hs hn in
theorem costs_rows : ∀ (j m : Nat) (hh oo : List (List Int)), j ≤ d → j < m → Tab h rack q (slot + d) d (fun j' _ => j ≤ j') hh oo →
    ∃ hh' oo', Tab h rack q (slot + d) d (fun _ _ => True) hh' oo' ∧ ev_ref05_Costs_l2 n slot (plN h) m (slot + j - 1) h rack hh oo q = some (hh', oo') := by
  have h24 : nN h ≤ 24 := by cases h <;> simp [nN]
  intro j
  induction j with
  | zero =>
    intro m hh oo hj hm H;obtain ⟨m, rfl⟩ : ∃ m', m = m' + 1 := ⟨m - 1, by omega⟩;refine ⟨hh, oo, H.mono fun j' p' _ _ => Nat.zero_le _, ?_⟩;rw [ev_ref05_Costs_l2, cond_if, if_neg (by simp; omega)]
  | succ j ih =>
    intro m hh oo hj hm H;obtain ⟨m, rfl⟩ : ∃ m', m = m' + 1 := ⟨m - 1, by omega⟩;obtain ⟨hh', oo', H', e⟩ := costs_row hq hd hs hn (j := j) (by omega) (k2 := fun i22q b23q b24q l25q l26q l27q => ev_ref05_Costs_l2 n slot (plN h) m i22q b23q b24q l25q l26q l27q) (nN h) n 0 hh oo (by omega) (by omega) (H.mono fun j' p' _ hjj => by omega);obtain ⟨h2, o2, H2, e2⟩ := ih m hh' oo' (by omega) (by omega) H';refine ⟨h2, o2, H2, ?_⟩;rw [ev_ref05_Costs_l2, cond_if, if_pos (decide_eq_true (by omega)), show slot + ((j + 1 : Nat) : Int) - 1 = slot + j by omega];refine Eq.trans e ?_;exact e2
structure Last (h : Bool) (until_ : Int) (d i : Nat) (hh : List (List Int)) : Prop where
  len : hh.length = d + 1
  all : ∀ j, j < d + 1 → ∃ r, hh[j]? = some r ∧ r.length = nN h
  row : ∃ r, hh[d]? = some r ∧ ∀ p : Nat, p < nN h → r[p]? = some (if p < i ∧ (p : Int) ≠ until_ % plN h then 1000000 else 0)
include hq hd hs hn in
theorem costs_last {oo : List (List Int)} (hoo : oo = List.replicate (d + 1) (List.replicate (nN h) 0)) : ∀ (k m i : Nat) (hh : List (List Int)), i + k = nN h → k < m → Last h (slot + d) d i hh →
    ∃ hh' oo', Tab h rack q (slot + d) d (fun _ _ => True) hh' oo' ∧ ev_ref05_Costs_l1 n (plN h) (slot + d) slot m (i : Int) h rack hh oo q = some (hh', oo') := by
  have hN := nN_cast h;have hN24 : nN h ≤ 24 := by cases h <;> simp [nN]
  have hN12 : 12 ≤ nN h := by cases h <;> simp [nN]
  intro k
  induction k with
  | zero =>
    intro m i hh hi hm H;obtain ⟨m, rfl⟩ : ∃ m', m = m' + 1 := ⟨m - 1, by omega⟩;obtain ⟨r, hr, hv⟩ := H.row;have hT : Tab h rack q (slot + d) d (fun j' _ => d ≤ j') hh oo := ⟨H.len, by rw [hoo, List.length_replicate], fun j hj => by
      obtain ⟨r2, b1, b2⟩ := H.all j hj;refine ⟨r2, List.replicate (nN h) 0, b1, by rw [hoo, List.getElem?_replicate, if_pos hj], b2, List.length_replicate .., fun p hp hdj => ?_⟩;obtain rfl : j = d := by omega
      obtain rfl := Option.some.inj (hr.symm.trans b1);rw [hv p hp, List.getElem?_replicate, if_pos hp, Nat.sub_self, bestP]
      by_cases e : (p : Int) = (slot + (j : Int)) % plN h
      · rw [if_pos e, if_neg (by omega)]; exact ⟨rfl, rfl⟩
      · rw [if_neg e, if_pos ⟨by omega, e⟩]; exact ⟨rfl, rfl⟩⟩
    obtain ⟨hh', oo', H', e⟩ := costs_rows hq hd hs hn d n hh oo (Nat.le_refl _) (by omega) hT;refine ⟨hh', oo', H', ?_⟩;rw [ev_ref05_Costs_l1, cond_if, if_neg (by simp; omega), chk_of (in64_of (by omega))];exact e
  | succ k ih =>
    intro m i hh hi hm H;obtain ⟨m, rfl⟩ : ∃ m', m = m' + 1 := ⟨m - 1, by omega⟩;obtain ⟨r, hr, hv⟩ := H.row;have hl : hh.length = d + 1 := H.len;have hrl : i < r.length := by
      have := hv i (by omega);exact (List.getElem?_eq_some_iff.1 this).1
    rw [ev_ref05_Costs_l1, cond_if, if_pos (decide_eq_true (by omega)), chk_of (by simp; omega), Int.tmod_eq_emod_of_nonneg (by omega), cond_if]
    by_cases e : (i : Int) = (slot + (d : Int)) % plN h
    · rw [if_neg (by simp [e]), chk_of (in64_of (by omega))];refine ih m (i + 1) hh (by omega) (by omega) ⟨H.len, H.all, r, hr, fun p hp => ?_⟩;rw [hv p hp]
      by_cases e2 : p = i
      · subst e2; rw [if_neg (by omega), if_neg (by omega)]
      · by_cases e3 : p < i ∧ (p : Int) ≠ (slot + d) % plN h
        · rw [if_pos e3, if_pos (by omega)]
        · rw [if_neg e3, if_neg (by omega)]
    · rw [if_pos (by simpa using e), chk_of (in64_of (by omega)), show slot + (d : Int) - slot = (d : Int) by omega, idx_nat hr, idx_nat (List.getElem?_eq_getElem hrl), chk_of (in64_of (by omega)), Int.toNat_natCast, Int.toNat_natCast];refine ih m (i + 1) _ (by omega) (by omega) ⟨by rw [List.length_set]; exact H.len, fun j hj => ?_, r.set i 1000000, by rw [List.getElem?_set, if_pos rfl, if_pos (by omega)], fun p hp => ?_⟩
      · obtain ⟨r2, b1, b2⟩ := H.all j hj
        by_cases e2 : d = j
        · subst e2;obtain rfl := Option.some.inj (hr.symm.trans b1);exact ⟨_, by rw [List.getElem?_set, if_pos rfl, if_pos (by omega)], by rw [List.length_set]; exact b2⟩
        · exact ⟨r2, by rw [List.getElem?_set, if_neg e2]; exact b1, b2⟩
      · rw [List.getElem?_set]
        by_cases e2 : i = p
        · subst e2; rw [if_pos rfl, if_pos hrl, if_pos ⟨by omega, e⟩]
        · rw [if_neg e2, hv p hp]
          by_cases e3 : p < i ∧ (p : Int) ≠ (slot + d) % plN h
          · rw [if_pos e3, if_pos (by omega)]
          · rw [if_neg e3, if_neg (by omega)]
include hq hd hs hn in
theorem ev_Costs : ∃ hh oo, Tab h rack q (slot + d) d (fun _ _ => True) hh oo ∧ ev_ref05_Costs n h rack q slot (slot + d) = some (hh, oo) := by
  have hN := nN_cast h;have hN24 : nN h ≤ 24 := by cases h <;> simp [nN]
  have key : ∀ (k m i : Nat), i + k = d + 1 → k < m → ∃ hh oo, Tab h rack q (slot + d) d (fun _ _ => True) hh oo ∧ ev_ref05_Costs_l0 n (slot + d) (plN h) slot m (slot + i) h rack (List.replicate i (List.replicate (nN h) 0)) (List.replicate i (List.replicate (nN h) 0)) q = some (hh, oo) := by
    intro k
    induction k with
    | zero =>
      intro m i hi hm;obtain ⟨m, rfl⟩ : ∃ m', m = m' + 1 := ⟨m - 1, by omega⟩;obtain rfl : i = d + 1 := by omega
      obtain ⟨hh', oo', H', e⟩ := costs_last (rack := rack) hq hd hs hn (h := h) rfl (nN h) n 0 (List.replicate (d + 1) (List.replicate (nN h) 0)) (by omega) (by omega) ⟨List.length_replicate .., fun j hj => ⟨_, by rw [List.getElem?_replicate, if_pos hj], List.length_replicate ..⟩, _, by rw [List.getElem?_replicate, if_pos (by omega)], fun p hp => by rw [List.getElem?_replicate, if_pos hp, if_neg (by omega)]⟩;refine ⟨hh', oo', H', ?_⟩;rw [ev_ref05_Costs_l0, cond_if, if_neg (by simp; omega)];exact e
    | succ k ih =>
      intro m i hi hm;obtain ⟨m, rfl⟩ : ∃ m', m = m' + 1 := ⟨m - 1, by omega⟩;obtain ⟨hh', oo', H', e⟩ := ih m (i + 1) (by omega) (by omega);refine ⟨hh', oo', H', ?_⟩;have hNt : (plN h).toNat = nN h := by omega
      rw [ev_ref05_Costs_l0, cond_if, if_pos (decide_eq_true (by omega)), hNt, chk_of (by simp; omega), chk_of (room_iff.2 (by omega)), chk_of (room_iff.2 (by simp; omega)), chk_of (by simp; omega), chk_of (room_iff.2 (by omega)), chk_of (room_iff.2 (by simp; omega)), chk_of (in64_of (by omega)), show slot + (i : Int) + 1 = slot + ((i + 1 : Nat) : Int) by omega];rw [show List.replicate i (List.replicate (nN h) (0 : Int)) ++ [List.replicate (nN h) 0] = List.replicate (i + 1) (List.replicate (nN h) 0) from (List.replicate_succ' ..).symm];exact e
  obtain ⟨hh, oo, H, e⟩ := key (d + 1) n 0 (by omega) (by omega);refine ⟨hh, oo, H, ?_⟩;rw [ev_ref05_Costs, bind_of ev_refN]
  simpa using e
end
end Go.Proofs.Ytglgkcfgjaoabaa.Sy
