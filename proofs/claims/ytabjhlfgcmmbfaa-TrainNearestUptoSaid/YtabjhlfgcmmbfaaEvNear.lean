/- The nearest train: what the program and the reference both compute. -/
import Derived.Test.YtabjhlfgcmmbfaaEvTrP
set_option linter.unusedSimpArgs false
set_option linter.unusedVariables false
namespace Go.Proofs.Ytabjhlfgcmmbfaa.Sy
open Go.RowKit
set_option maxRecDepth 100000

theorem fold_map {X Y σ τ : Type} {f : X → σ → Option (Nat × σ)} {F : Y → τ → Option (Nat × τ)} {g : Y → X} {e : σ → τ} : ∀ (L : List Y) (y y' : σ), (∀ x ∈ L, ∀ y y1, f (g x) y = some (0, y1) → F x (e y) = some (0, e y1)) →
    foldG f (L.map g) y = some y' → foldG F L (e y) = some (e y') := by
  intro L
  induction L with
  | nil => intro y y' _ h; cases h; rfl
  | cons x L ih =>
    intro y y' hF h
    rw [List.map_cons] at h
    simp only [foldG] at h
    cases hfy : f (g x) y with
    | none => rw [hfy] at h; cases h
    | some r =>
      rw [hfy] at h
      obtain ⟨a, b⟩ := r
      cases a with
      | zero =>
        rw [foldG_cons (hF x (by simp) y b hfy)]
        exact ih b y' (fun z hz => hF z (by simp [hz])) h
      | succ a => cases h
theorem fold_flat {X Y σ τ : Type} {f : X → σ → Option (Nat × σ)} {F : Y → τ → Option (Nat × τ)} {g : Y → List X} {e : σ → τ} : ∀ (L : List Y) (y y' : σ), (∀ x ∈ L, ∀ y y1, foldG f (g x) y = some y1 → F x (e y) = some (0, e y1)) →
    foldG f (L.flatMap g) y = some y' → foldG F L (e y) = some (e y') := by
  intro L
  induction L with
  | nil => intro y y' _ h; cases h; rfl
  | cons x L ih =>
    intro y y' hF h
    rw [List.flatMap_cons] at h
    obtain ⟨y1, h1, h2⟩ := foldG_append _ _ _ _ h
    rw [foldG_cons (hF x (by simp) y y1 h1)]
    exact ih y1 y' (fun z hz => hF z (by simp [hz])) h2
/-- how far a train is from a ratio -/
def farP (r : Int × Int) (w p : List Int) : Int := max (prodL w * r.2 - prodL p * r.1) (0 - (prodL w * r.2 - prodL p * r.1))
def itemP (r : Int × Int) (w p : List Int) : List Int × List Int × Int × Int := (w, p, farP r w p, prodL p)
/-- all trains with so many pairs -/
def allK (W P : List Int) (k : Nat) : List (List Int × List Int) := (chP k W).flatMap fun w => (chP k P).map fun p => (w, p)
def allU (W P : List Int) : Nat → Nat → List (List Int × List Int)
  | 0, _ => []
  | d + 1, k => allK W P k ++ allU W P d (k + 1)
theorem far_bound {r : Int × Int} (hr : (1 ≤ r.1 ∧ r.1 ≤ 1000000) ∧ (1 ≤ r.2 ∧ r.2 ≤ 1000000)) {x y : Int} (hx : 1 ≤ x ∧ x ≤ 160000) (hy : 1 ≤ y ∧ y ≤ 160000) :
    (1 ≤ x * r.2 ∧ x * r.2 ≤ 160000000000) ∧ (1 ≤ y * r.1 ∧ y * r.1 ≤ 160000000000) := ⟨mul_bound hx hr.2, mul_bound hy hr.1⟩
theorem chP_small {k : Nat} {l w : List Int} (hk : k ≤ 2) (hl : ∀ x ∈ l, 6 ≤ x ∧ x ≤ 400) (hw : w ∈ chP k l) : (1 ≤ prodL w ∧ prodL w ≤ 160000) ∧ w.length = k ∧ ∀ x ∈ w, 1 ≤ x ∧ x ≤ 400 := by
  obtain ⟨h1, h2, h3⟩ := chP_prod (by omega) hl hw
  have h4 := prodL_bound w h3
  have : (400 : Int) ^ w.length ≤ 160000 := by
    rw [h2]
    have : ∀ j : Fin 3, (400 : Int) ^ j.1 ≤ 160000 := by decide
    exact this ⟨k, by omega⟩
  exact ⟨by omega, h2, h3⟩
theorem ev_trains {σ : Type} {f : (List Int × List Int × Int × Int) → σ → Option (Nat × σ)} {n : Nat} (hn : 110 < n) {W P : List Int} (hW : OkCut W) (hP : OkCut P) {r : Int × Int} (hr : (1 ≤ r.1 ∧ r.1 ≤ 1000000) ∧ (1 ≤ r.2 ∧ r.2 ≤ 1000000)) {most : Nat} (hm : most ≤ 2) {y y' : σ}
    (hf : foldG f ((allU W P most 1).map fun x => itemP r x.1 x.2) y = some y') : ev_train_search_trains_1 (loopStep f) n (y, 0) (most : Int) W P r.1 r.2 = some (y', 0) := by
  have l1 := hW.len
  have l2 := hP.len
  have key : ∀ (d q k : Nat) (y : σ), k + d = most → d < q → foldG f ((allU W P d (k + 1)).map fun x => itemP r x.1 x.2) y = some y' → ev_train_search_trains_1_l0 (loopStep f) n (most : Int) q (k : Int) r.1 r.2 W P (y, 0) = some (y', 0) := by
    intro d
    induction d with
    | zero =>
      intro q k y hk hq h
      obtain ⟨q, rfl⟩ : ∃ q', q = q' + 1 := ⟨q - 1, by omega⟩
      rw [ev_train_search_trains_1_l0, cond_if, if_neg (by simp; omega)]
      cases h; rfl
    | succ d ih =>
      intro q k y hk hq h
      obtain ⟨q, rfl⟩ : ∃ q', q = q' + 1 := ⟨q - 1, by omega⟩
      rw [allU, List.map_append] at h
      obtain ⟨y1, h1, h2⟩ := foldG_append _ _ _ _ h
      have e1 : ((k : Int) + 1) = ((k + 1 : Nat) : Int) := by omega
      have inner : ∀ w ∈ chP (k + 1) W, ∀ y y1, foldG f ((chP (k + 1) P).map fun p => itemP r w p) y = some y1 → ev_train_search_trains_1_r1 (loopStep f) n (k : Int) P r.2 r.1 (w, prodL w) (y, 0) = some (0, (y1, 0)) := by
        intro w hw y y1 h
        obtain ⟨w1, w2, w3⟩ := chP_small (by omega) hW.ok hw
        have hfold := fold_map (f := f) (F := ev_train_search_trains_1_r2 (loopStep f) n (w, prodL w) r.2 r.1) (g := fun x : List Int × Int => itemP r w x.1) (e := fun y => (y, 0)) ((chP (k + 1) P).map fun p => (p, prodL p)) y y1 (by
          intro x hx y y1 hxy
          obtain ⟨p, hp, rfl⟩ := List.mem_map.1 hx
          obtain ⟨p1, p2, p3⟩ := chP_small (by omega) hP.ok hp
          obtain ⟨b1, b2⟩ := far_bound hr w1 p1
          rw [ev_train_search_trains_1_r2]
          dsimp only
          rw [chk_of (in64_of (by omega)), chk_of (in64_of (by omega)), chk_of (in64_of (by omega)), chk_of (in64_of (by omega))]
          have hl : loopStep f (w, p, max (prodL w * r.2 - prodL p * r.1) (0 - (prodL w * r.2 - prodL p * r.1)), prodL p) (y, 0) = some (true, (y1, 0)) := loopStep_of (r := (0, y1)) hxy
          rw [bind_of hl]
          rfl) (by rw [List.map_map]; exact h)
        have hc := ev_choose (n := n) (k := k + 1) hn (show P.length ≤ 100 by omega) (by omega) (fun x hx => by have := hP.ok x hx; omega) hfold
        rw [ev_train_search_trains_1_r1, chk_of (in64_of (by omega)), e1, ev_train_choose, bind_of rfl]
        dsimp only
        rw [bind_of hc, cond_if, if_pos (by rfl)]
      have hfold := fold_flat (f := f) (F := ev_train_search_trains_1_r1 (loopStep f) n (k : Int) P r.2 r.1) (g := fun x : List Int × Int => (chP (k + 1) P).map fun p => itemP r x.1 p) (e := fun y => (y, 0)) ((chP (k + 1) W).map fun w => (w, prodL w)) y y1 (by
        intro x hx y y1 hxy
        obtain ⟨w, hw, rfl⟩ := List.mem_map.1 hx
        exact inner w hw y y1 hxy) (by
        refine Eq.trans ?_ h1
        congr 1
        unfold allK
        rw [List.flatMap_map, List.map_flatMap]
        simp [List.map_map, Function.comp_def])
      have hc := ev_choose (n := n) (k := k + 1) hn (show W.length ≤ 100 by omega) (by omega) (fun x hx => by have := hW.ok x hx; omega) hfold
      rw [ev_train_search_trains_1_l0, cond_if, if_pos (decide_eq_true (by omega)), chk_of (in64_of (by omega)), e1, ev_train_choose, bind_of rfl]
      dsimp only
      rw [bind_of hc, cond_if, if_pos (by rfl), chk_of (in64_of (by omega))]
      exact ih q (k + 1) y1 (by omega) (by omega) h2
  rw [ev_train_search_trains_1]
  exact key most n 0 y (by omega) (by omega) hf
/-- the nearer one of two -/
def nearB (r : Int × Int) (x y : List Int × List Int) : Bool := decide (farP r x.1 x.2 * prodL y.2 < farP r y.1 y.2 * prodL x.2)
def stepN (r : Int × Int) (y x : List Int × List Int) : List Int × List Int := if y.1.length = 0 ∨ nearB r x y = true then x else y
def encN (r : Int × Int) (y : List Int × List Int) : List Int × List Int × Int × Int := if y.1.length = 0 then ([], [], 0, 0) else (y.2, y.1, farP r y.1 y.2, prodL y.2)
/-- a train that is tried -/
structure Tr (W P : List Int) (x : List Int × List Int) : Prop where
  small : (1 ≤ prodL x.1 ∧ prodL x.1 ≤ 160000) ∧ (1 ≤ prodL x.2 ∧ prodL x.2 ≤ 160000)
  len : 1 ≤ x.1.length ∧ x.1.length ≤ 2 ∧ x.2.length = x.1.length
  ok1 : ∀ z ∈ x.1, 1 ≤ z ∧ z ≤ 400
  ok2 : ∀ z ∈ x.2, 1 ≤ z ∧ z ≤ 400
theorem mem_allK {W P : List Int} {k : Nat} {x : List Int × List Int} : x ∈ allK W P k ↔ x.1 ∈ chP k W ∧ x.2 ∈ chP k P := by
  unfold allK
  rw [List.mem_flatMap]
  constructor
  · rintro ⟨w, hw, h⟩
    obtain ⟨p, hp, rfl⟩ := List.mem_map.1 h
    exact ⟨hw, hp⟩
  · rintro ⟨h1, h2⟩
    exact ⟨x.1, h1, List.mem_map.2 ⟨x.2, h2, rfl⟩⟩
theorem mem_allU {W P : List Int} {x : List Int × List Int} : ∀ (d k : Nat), x ∈ allU W P d k ↔ ∃ q, k ≤ q ∧ q < k + d ∧ x ∈ allK W P q := by
  intro d
  induction d with
  | zero => intro k; simp only [allU, List.not_mem_nil, false_iff]; rintro ⟨q, h1, h2, _⟩; omega
  | succ d ih =>
    intro k
    rw [allU, List.mem_append, ih]
    constructor
    · rintro (h | ⟨q, h1, h2, h3⟩)
      · exact ⟨k, by omega, by omega, h⟩
      · exact ⟨q, by omega, by omega, h3⟩
    · rintro ⟨q, h1, h2, h3⟩
      rcases Nat.lt_or_ge k q with h | h
      · exact .inr ⟨q, by omega, by omega, h3⟩
      · have : q = k := by omega
        subst this; exact .inl h3
theorem tr_of {W P : List Int} (hW : ∀ x ∈ W, 6 ≤ x ∧ x ≤ 400) (hP : ∀ x ∈ P, 6 ≤ x ∧ x ≤ 400) {most : Nat} (hm : most ≤ 2) {x : List Int × List Int} (h : x ∈ allU W P most 1) : Tr W P x := by
  obtain ⟨q, h1, h2, h3⟩ := (mem_allU most 1).1 h
  obtain ⟨h4, h5⟩ := mem_allK.1 h3
  obtain ⟨a1, a2, a3⟩ := chP_small (by omega) hW h4
  obtain ⟨b1, b2, b3⟩ := chP_small (by omega) hP h5
  exact ⟨⟨a1, b1⟩, by omega, a3, b3⟩
theorem near_bound {W P : List Int} {r : Int × Int} (hr : (1 ≤ r.1 ∧ r.1 ≤ 1000000) ∧ (1 ≤ r.2 ∧ r.2 ≤ 1000000)) {x y : List Int × List Int} (hx : Tr W P x) (hy : Tr W P y) : 0 ≤ farP r x.1 x.2 ∧ farP r x.1 x.2 ≤ 160000000000 ∧ 0 ≤ farP r x.1 x.2 * prodL y.2 ∧ farP r x.1 x.2 * prodL y.2 ≤ 25600000000000000 := by
  obtain ⟨b1, b2⟩ := far_bound hr hx.small.1 hx.small.2
  have h0 : 0 ≤ farP r x.1 x.2 ∧ farP r x.1 x.2 ≤ 160000000000 := by unfold farP; omega
  have hy2 := hy.small.2
  have h1 := Int.mul_nonneg h0.1 (show 0 ≤ prodL y.2 by omega)
  have h2 := Int.mul_le_mul h0.2 hy2.2 (by omega) (by omega)
  omega
theorem fold_near {n : Nat} {W P : List Int} {r : Int × Int} (hr : (1 ≤ r.1 ∧ r.1 ≤ 1000000) ∧ (1 ≤ r.2 ∧ r.2 ≤ 1000000)) : ∀ (L : List (List Int × List Int)) (y : List Int × List Int), (∀ x ∈ L, Tr W P x) → (y = ([], []) ∨ Tr W P y) →
    foldG (ev_train_Near_r0 n) (L.map fun x => itemP r x.1 x.2) (encN r y) = some (encN r (L.foldl (stepN r) y)) := by
  intro L
  induction L with
  | nil => intro y _ _; rfl
  | cons x L ih =>
    intro y hL hy
    have hx := hL x (by simp)
    have hxl := hx.len
    rw [List.map_cons, List.foldl_cons]
    have hnext : stepN r y x = ([], []) ∨ Tr W P (stepN r y x) := by
      unfold stepN; split
      · exact .inr hx
      · exact hy
    refine Eq.trans (foldG_cons ?_) (ih (stepN r y x) (fun z hz => hL z (by simp [hz])) hnext)
    have encx : encN r x = (x.2, x.1, farP r x.1 x.2, prodL x.2) := by unfold encN; rw [if_neg (by omega)]
    rw [ev_train_Near_r0]
    rcases hy with rfl | hy
    · unfold stepN encN
      simp only [itemP, List.length_nil, true_or, if_true, cond_if]
      rw [if_pos (by rfl), if_neg (by omega)]
    · have hyl := hy.len
      have ency : encN r y = (y.2, y.1, farP r y.1 y.2, prodL y.2) := by unfold encN; rw [if_neg (by omega)]
      have hyp := hy.small.2
      obtain ⟨_, _, b1, b2⟩ := near_bound hr hx hy
      obtain ⟨_, _, b3, b4⟩ := near_bound hr hy hx
      rw [ency]
      unfold itemP
      dsimp only
      rw [cond_if, if_neg (by rw [beq_iff_eq]; omega), chk_of (in64_of (by omega)), chk_of (in64_of (by omega)), cond_if]
      unfold stepN nearB
      by_cases h : farP r x.1 x.2 * prodL y.2 < farP r y.1 y.2 * prodL x.2
      · rw [if_pos (decide_eq_true h), if_pos (.inr (decide_eq_true h)), encx]
      · rw [if_neg (by simpa using h), if_neg (by
          rintro (h1 | h1)
          · omega
          · exact h (of_decide_eq_true h1)), ency]
/-- the nearest -/
def nearP (W P : List Int) (r : Int × Int) (most : Nat) : List Int × List Int := (allU W P most 1).foldl (stepN r) ([], [])
theorem foldl_inv {α β : Type} {Q : β → Prop} {f : β → α → β} : ∀ (L : List α) (y : β), Q y → (∀ x ∈ L, ∀ y, Q y → Q (f y x)) → Q (L.foldl f y)
  | [], _, h, _ => h
  | x :: L, y, h, hf => foldl_inv L (f y x) (hf x (by simp) y h) fun z hz => hf z (by simp [hz])
theorem near_tr {W P : List Int} {r : Int × Int} : ∀ (L : List (List Int × List Int)) (y : List Int × List Int), (∀ x ∈ L, Tr W P x) → (y = ([], []) ∨ Tr W P y) → (L.foldl (stepN r) y = ([], []) ∨ Tr W P (L.foldl (stepN r) y)) := fun L y hL hy =>
  foldl_inv (Q := fun y => y = ([], []) ∨ Tr W P y) L y hy fun x hx y hy => by
    unfold stepN; split
    · exact .inr (hL x hx)
    · exact hy
theorem ev_Near {n : Nat} (hn : 1000 < n) {W P : List Int} (hW : OkCut W) (hP : OkCut P) {a b : Int} (ha : 1 ≤ a ∧ a ≤ 1000000) (hb : 1 ≤ b ∧ b ≤ 1000000) {most : Nat} (h1 : 1 ≤ most ∧ most ≤ 2) :
    ev_train_Near n W P a b (most : Int) = some ((nearP W P (lowP a b) most).1, (nearP W P (lowP a b) most).2, 0) := by
  obtain ⟨q1, q2, q3, q4⟩ := lowP_pos ha.1 hb.1
  have hr : (1 ≤ (lowP a b).1 ∧ (lowP a b).1 ≤ 1000000) ∧ (1 ≤ (lowP a b).2 ∧ (lowP a b).2 ≤ 1000000) := by omega
  have hT := fun x hx => tr_of hW.ok hP.ok h1.2 (x := x) hx
  have hf := fold_near (n := n) hr (allU W P most 1) ([], []) hT (.inl rfl)
  have ht := ev_trains (n := n) (by omega) hW hP hr h1.2 hf
  have e0 : encN (lowP a b) ([], []) = ([], [], 0, 0) := rfl
  rw [e0] at ht
  have hw : ev_train_within n 1 2 ([(most : Int)] : List Int) = some true := by rw [wi1_train (by omega)]; congr 1; simp; omega
  rw [ev_train_Near, bind_of (ev_open_ok hn hW hP ha hb), cond_if, if_neg (by simp), bind_of hw, cond_if, if_neg (by decide), ev_train_search_trains, bind_of rfl]
  dsimp only
  rw [bind_of ht, cond_if, if_pos (by rfl)]
  rcases near_tr (r := lowP a b) (allU W P most 1) ([], []) hT (.inl rfl) with h | h
  · unfold nearP; rw [h]; rfl
  · have := h.len
    unfold nearP encN
    rw [if_neg (by omega)]
end Go.Proofs.Ytabjhlfgcmmbfaa.Sy
