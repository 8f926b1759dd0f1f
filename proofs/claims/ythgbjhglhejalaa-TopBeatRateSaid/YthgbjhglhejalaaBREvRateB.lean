/- Regulation, with the rules of chapter 7's example: a level's table is what the levels below it say. -/
import Derived.Test.YthgbjhglhejalaaBREvRateA
set_option linter.unusedSimpArgs false
set_option linter.unusedVariables false
namespace Go.Proofs.Ythgbjhglhejalaa.Sy
open Go.RowKit
set_option maxRecDepth 100000
def actsL : List (Int × Int) := [(-3, -1), (-2, -1), (-1, -1), (0, -1), (1, -1), (2, -1), (3, -1), (0, 0)]
def effA (u : Int) (a : Int × Int) : Option (Int × Int × Int) :=
  if a.2 = -1 then some (min (8 * a.1) (10 * a.1), max (8 * a.1) (10 * a.1), u) else if u = 0 then some (4, 6, 1) else none
def runA {σ : Type} (yb : (Int × Int) → σ → Option (Bool × σ)) : List (Int × Int) → σ → Option σ
  | [], y => some y
  | a :: l, y => (yb a y).bind fun r => cond (!r.1) (some r.2) (runA yb l r.2)
theorem acts_ev {σ : Type} {yb : (Int × Int) → σ → Option (Bool × σ)} {n : Nat} (hn : 10 < n) (y : σ) : ev_p_rate_shop_acts yb n 5 1 8 10 3 [(4, 6)] y = runA yb actsL y := by
  obtain ⟨m, rfl⟩ : ∃ m, n = m + 11 := ⟨n - 11, by omega⟩;unfold ev_p_rate_shop_acts;rw [chk_t (by decide), chk_t (by decide)]
  rfl
theorem shift_ev {n : Nat} (hn : 4 < n) {u : Int} (hu : u = 0 ∨ u = 1) {a : Int × Int} (ha : a ∈ actsL) : ev_p_rate_shop_shift n 5 1 8 10 3 [(4, 6)] a.1 a.2 u = some (match effA u a with | some b => (b.1, b.2.1, true) | none => (0, 0, false)) := by
  obtain ⟨m, rfl⟩ : ∃ m, n = m + 5 := ⟨n - 5, by omega⟩;simp only [actsL, List.mem_cons, List.not_mem_nil, or_false] at ha;rcases hu with rfl | rfl <;> rcases ha with rfl | rfl | rfl | rfl | rfl | rfl | rfl | rfl <;> rfl
theorem eff_mem {u : Int} (hu : u = 0 ∨ u = 1) {a : Int × Int} (ha : a ∈ actsL) {b : Int × Int × Int} (h : effA u a = some b) :
    (-30 ≤ b.1 ∧ b.1 ≤ 30) ∧ (-30 ≤ b.2.1 ∧ b.2.1 ≤ 30) ∧ b.1 ≤ b.2.1 ∧ (b.2.2 = 0 ∨ b.2.2 = 1) := by
  simp only [actsL, List.mem_cons, List.not_mem_nil, or_false] at ha;rcases hu with rfl | rfl <;> rcases ha with rfl | rfl | rfl | rfl | rfl | rfl | rfl | rfl <;> simp [effA] at h <;> subst h <;> decide
theorem with_ev {n : Nat} {u : Int} (hu : u = 0 ∨ u = 1) {a : Int × Int} (ha : a ∈ actsL) {b : Int × Int × Int} (h : effA u a = some b) (h2 : a.2 ≠ -1) : ev_rate_set_with n u a.2 = some b.2.2 := by
  simp only [actsL, List.mem_cons, List.not_mem_nil, or_false] at ha;rcases hu with rfl | rfl <;> rcases ha with rfl | rfl | rfl | rfl | rfl | rfl | rfl | rfl <;> first | exact absurd rfl h2 | (simp [effA] at h; try (subst h; rfl))
theorem eff_same {u : Int} {a : Int × Int} {b : Int × Int × Int} (h : effA u a = some b) (h2 : a.2 = -1) : b.2.2 = u := by
  simp [effA, h2] at h; subst h; rfl
def addI (st : Int → Int) (b : Int × Int × Int) (r x : Int) : Int :=
  if -300 ≤ r + b.1 ∧ r + b.1 ≤ 300 then max x (min (imR st 2 300 (300 - (r + b.1)).toNat - b.2.1) 300) else x
def stepS (s : Int → Int → Int) (u r : Int) (x : Int) (a : Int × Int) : Int := match effA u a with
  | some b => addI (s b.2.2) b r x
  | none => x
def stF : Nat → Int → Int → Int
  | 0, _, r => goodF r
  | v + 1, u, r => actsL.foldl (stepS (stF v) u r) (goodF r)
def tabF (v : Nat) (u : Int) (j : Nat) : Int := if j < 601 then stF v u ((j : Int) - 300) else imR (stF v u) 2 300 (1201 - j)
def tabOf (v : Nat) (u : Int) : List Int := tb (tabF v u)
theorem good_bd {r : Int} (h0 : -300 ≤ r) (h1 : r ≤ 300) : r - 1 ≤ goodF r ∧ goodF r ≤ 300 := by unfold goodF; split <;> omega
theorem step_bd {s : Int → Int → Int} {u r x : Int} {a : Int × Int} (h : r - 1 ≤ x ∧ x ≤ 300) : r - 1 ≤ stepS s u r x a ∧ stepS s u r x a ≤ 300 := by
  unfold stepS
  split
  · unfold addI; split <;> omega
  · exact h
theorem fold_bd {s : Int → Int → Int} {u r : Int} : ∀ (l : List (Int × Int)) {x : Int}, (r - 1 ≤ x ∧ x ≤ 300) → r - 1 ≤ l.foldl (stepS s u r) x ∧ l.foldl (stepS s u r) x ≤ 300
  | [], x, h => h
  | a :: l, x, h => fold_bd l (step_bd h)
theorem st_bd (v : Nat) (u : Int) {r : Int} (h0 : -300 ≤ r) (h1 : r ≤ 300) : r - 1 ≤ stF v u r ∧ stF v u r ≤ 300 := by
  cases v with
  | zero => exact good_bd h0 h1
  | succ v => exact fold_bd _ (good_bd h0 h1)
theorem im_bd (v : Nat) (u : Int) : ∀ k : Nat, k ≤ 600 → -301 ≤ imR (stF v u) 2 300 k ∧ imR (stF v u) 2 300 k ≤ 300 := by
  intro k
  induction k with
  | zero => intro _; have := st_bd v u (r := 300) (by omega) (by omega); unfold imR; split <;> omega
  | succ k ih =>
    intro hk;have h := ih (by omega);have := st_bd v u (r := 300 - ((k : Int) + 1)) (by omega) (by omega);unfold imR
    split <;> omega
theorem tab_bd (v : Nat) (u : Int) {j : Nat} (hj : j < 1202) : -1000 ≤ tabF v u j ∧ tabF v u j ≤ 1000 := by
  unfold tabF
  by_cases h : j < 601
  · rw [if_pos h]; have := st_bd v u (r := (j : Int) - 300) (by omega) (by omega); omega
  · rw [if_neg h]; have := im_bd v u (1201 - j) (by omega); omega
theorem add_I {v : Nat} {b : Int × Int × Int} {j : Nat} (hj : j < 601) (x : Int) (hb : -100 ≤ b.1 ∧ b.1 ≤ 100) : addF (tabF v b.2.2) b.1 b.2.1 j x = addI (stF v b.2.2) b ((j : Int) - 300) x := by
  unfold addF addI
  by_cases h : -300 ≤ (j : Int) - 300 + b.1 ∧ (j : Int) - 300 + b.1 ≤ 300
  · rw [if_pos h, if_pos h];have e : tabF v b.2.2 (601 + ((j : Int) - 300 + b.1 + 300).toNat) = imR (stF v b.2.2) 2 300 (300 - ((j : Int) - 300 + b.1)).toNat := by
      unfold tabF;rw [if_neg (by omega)]
      congr 1
      omega
    rw [e]
  · rw [if_neg h, if_neg h]
def TInv (s : Tabs) : Prop := ∀ (v : Nat) (u : Int) (xs : List Int), mlook s ((v : Int), u) = some xs → xs = tabOf v u
theorem tinv_nil : TInv [] := fun v u xs h => by simp [mlook_nil] at h
theorem tinv_put {s : Tabs} (h : TInv s) (v : Nat) (u : Int) : TInv (mput s ((v : Int), u) (tabOf v u)) := by
  intro v' u' xs hx;rw [mlook_put] at hx
  split at hx
  · rename_i e
    have e' := eq_of_beq e;have e1 : v = v' := by have h9 : (v : Int) = (v' : Int) := congrArg Prod.fst e'; omega
    have e2 : u = u' := congrArg Prod.snd e';subst e1; subst e2;exact (Option.some.inj hx).symm
  · exact h _ _ _ hx
def GoodSelf (self : SelfT) (v : Nat) : Prop := ∀ (u : Int) (s : Tabs), (u = 0 ∨ u = 1) → TInv s → ∃ s', self 5 1 8 10 3 [(4, 6)] s (v : Int) u = some (tabOf v u, s') ∧ TInv s'
def addT (v : Nat) (u : Int) (F : Nat → Int) (a : Int × Int) (j : Nat) : Int := if j < 601 then stepS (stF v) u ((j : Int) - 300) (F j) a else F j
theorem add_ev {n : Nat} {self : SelfT} {v : Nat} (hn : 700 < n) (hv : v ≤ 100) (hs : GoodSelf self v) {u : Int} (hu : u = 0 ∨ u = 1) {a : Int × Int} (ha : a ∈ actsL) (F : Nat → Int) {s : Tabs} (ht : TInv s) :
    ∃ s', ev_p_rate_shop_add self n 5 1 8 10 3 [(4, 6)] s (tb F) ((v : Int) + 1) u a.1 a.2 = some (s', tb (addT v u F a)) ∧ TInv s' := by
  unfold ev_p_rate_shop_add;rw [shift_ev (by omega) hu ha, Option.bind_some]
  cases he : effA u a with
  | none =>
    refine ⟨s, ?_, ht⟩;simp only [Bool.not_false, cond_true];have : tb (addT v u F a) = tb F := tb_congr fun i _ => by unfold addT stepS; rw [he]; split <;> rfl
    rw [this]
  | some b =>
    obtain ⟨hb1, hb2, hb3, hb4⟩ := eff_mem hu ha he;obtain ⟨s', h1, h2⟩ := hs b.2.2 s hb4 ht;simp only [Bool.not_true, cond_false];have ev : (v : Int) + 1 - 1 = (v : Int) := by omega
    rw [chk_t (i64ok (by omega) (by omega)), ev];have key : ev_p_rate_shop_add_j0 self n 5 1 8 10 3 (tb F) b.1 b.2.1 (v : Int) b.2.2 s [(4, 6)] = some (s', tb (addT v u F a)) := by
      unfold ev_p_rate_shop_add_j0;rw [h1, Option.bind_some];have e0 : (-300 : Int) = 301 - ((601 : Nat) : Int) := by omega
      rw [e0];refine (addl_ev (G := tabF v b.2.2) (by omega) (fun j hj => tab_bd v b.2.2 hj) (by omega) (by omega) s' 601 n F (by omega) (by omega)).trans ?_;refine congrArg (fun l => some (s', l)) (tb_congr fun i _ => ?_)
      unfold addT stepS;rw [he]
      by_cases h : i < 601
      · rw [if_pos ⟨by omega, h⟩, if_pos h]; exact add_I h _ (by omega)
      · rw [if_neg (by omega), if_neg h]
    refine ⟨s', ?_, h2⟩
    by_cases hw : a.2 = -1
    · have : (a.2 != -1) = false := by rw [hw]; rfl
      rw [this];have e := eff_same he hw;rw [e] at key;exact key
    · have : (a.2 != -1) = true := by simp [hw]
      rw [this, cond_true, with_ev hu ha he hw, Option.bind_some];exact key
theorem runT_ev {n : Nat} {self : SelfT} {v : Nat} (hn : 700 < n) (hv : v ≤ 100) (hs : GoodSelf self v) {u : Int} (hu : u = 0 ∨ u = 1) : ∀ (l : List (Int × Int)), (∀ a ∈ l, a ∈ actsL) → ∀ (F : Nat → Int) (s : Tabs), TInv s →
    ∃ s', runA (loopStep (ev_p_rate_shop_table_r1 n 5 1 8 10 3 [(4, 6)] ((v : Int) + 1) u self)) l ((tb F, s), 0) = some ((tb (l.foldl (addT v u) F), s'), 0) ∧ TInv s' := by
  intro l
  induction l with
  | nil => intro _ F s ht; exact ⟨s, rfl, ht⟩
  | cons a l ih =>
    intro hl F s ht;obtain ⟨s1, h1, h2⟩ := add_ev hn hv hs hu (hl a (List.mem_cons_self ..)) F ht;obtain ⟨s', h3, h4⟩ := ih (fun a ha => hl a (List.mem_cons_of_mem _ ha)) (addT v u F a) s1 h2;refine ⟨s', ?_, h4⟩;have hr : loopStep (ev_p_rate_shop_table_r1 n 5 1 8 10 3 [(4, 6)] ((v : Int) + 1) u self) a ((tb F, s), 0) = some (true, ((tb (addT v u F a), s1), 0)) := by
      simp only [loopStep, ev_p_rate_shop_table_r1, h1, Option.bind_some, if_true, beq_self_eq_true]
    rw [runA, hr, Option.bind_some];exact h3
theorem fold_T {v : Nat} {u : Int} : ∀ (l : List (Int × Int)) (F : Nat → Int) (j : Nat), l.foldl (addT v u) F j = if j < 601 then l.foldl (stepS (stF v) u ((j : Int) - 300)) (F j) else F j
  | [], F, j => by simp
  | a :: l, F, j => by
    rw [List.foldl_cons, fold_T l, List.foldl_cons];unfold addT
    by_cases h : j < 601
    · simp [h]
    · simp [h]
theorem j2_ev {n : Nat} {v : Nat} {u : Int} (hn : 700 < n) (F : Nat → Int) (hF : ∀ j, j < 601 → F j = stF v u ((j : Int) - 300)) (h0 : ∀ j, 601 ≤ j → F j = 0) {s : Tabs} (ht : TInv s) :
    ∃ s', ev_p_rate_shop_table_j2 n (v : Int) u 5 1 8 10 3 (tb F) [(4, 6)] s = some (tabOf v u, s') ∧ TInv s' := by
  have e : ev_p_rate_shop_fill n 5 1 8 10 3 [(4, 6)] (tb F) = some (tabOf v u) := by
    unfold ev_p_rate_shop_fill;have e0 : (300 : Int) = ((601 : Nat) : Int) - 301 := by omega
    refine (congrArg (fun i => ev_p_rate_shop_fill_l0 n n i 5 1 8 10 3 (tb F) [(4, 6)]) e0).trans ((fill_ev (st := stF v u) (fun r h0 h1 => by have := st_bd v u h0 h1; omega) 601 n F (by omega) (by omega) hF (fun j hj hj2 => by omega)).trans ?_)
    refine congrArg some (tb_congr fun i _ => ?_)
    unfold tabF
    by_cases h : i < 601
    · rw [if_pos h, if_pos h, hF i h]
    · rw [if_neg h, if_neg h]
  refine ⟨_, ?_, tinv_put ht v u⟩;unfold ev_p_rate_shop_table_j2;rw [e]
  rfl
theorem table_ev : ∀ (v n : Nat) (u : Int) (s : Tabs), (u = 0 ∨ u = 1) → v ≤ 100 → 702 + v < n → TInv s → ∃ s', ev_p_rate_shop_table n 5 1 8 10 3 [(4, 6)] s (v : Int) u = some (tabOf v u, s') ∧ TInv s' := by
  intro v
  induction v with
  | zero =>
    intro n u s hu _ hn ht;obtain ⟨n, rfl⟩ : ∃ q, n = q + 1 := ⟨n - 1, by omega⟩;rw [ev_p_rate_shop_table]
    cases hl : mlook s (((0 : Nat) : Int), u) with
    | some xs => exact ⟨s, by rw [ht _ _ _ hl]; rfl, ht⟩
    | none =>
      have e0 : (-300 : Int) = 301 - ((601 : Nat) : Int) := by omega
      show ∃ s', ev_p_rate_shop_table_l0 n _ n (-300) _ _ 5 1 8 10 3 _ _ s = _ ∧ _;rw [tb_zero, e0, tabl_ev (by omega) _ _ _ 601 n _ (by omega) (by omega), ev_p_rate_shop_table_l0];obtain ⟨s', h1, h2⟩ := j2_ev (n := n) (v := 0) (u := u) (by omega) (fun j => if 601 - 601 ≤ j ∧ j < 601 then goodF ((j : Int) - 300) else 0) (fun j hj => by rw [if_pos ⟨by omega, hj⟩]; rfl) (fun j hj => by rw [if_neg (by omega)]) ht;exact ⟨s', h1, h2⟩
  | succ v ih =>
    intro n u s hu hv hn ht;obtain ⟨n, rfl⟩ : ∃ q, n = q + 1 := ⟨n - 1, by omega⟩;rw [ev_p_rate_shop_table]
    cases hl : mlook s (((v + 1 : Nat) : Int), u) with
    | some xs => exact ⟨s, by rw [ht _ _ _ hl]; rfl, ht⟩
    | none =>
      have e0 : (-300 : Int) = 301 - ((601 : Nat) : Int) := by omega
      have hgs : GoodSelf (ev_p_rate_shop_table n) v := fun u s hu ht => ih n u s hu (by omega) (by omega) ht
      show ∃ s', ev_p_rate_shop_table_l0 n _ n (-300) _ _ 5 1 8 10 3 _ _ s = _ ∧ _;rw [tb_zero, e0, tabl_ev (by omega) _ _ _ 601 n _ (by omega) (by omega), ev_p_rate_shop_table_l0];have hd1 : decide ((301 : Int) ≤ 300) = false := by decide
      have hd2 : decide ((0 : Int) < ((v + 1 : Nat) : Int)) = true := decide_eq_true (by omega);rw [hd1, hd2, acts_ev (by omega)];simp only [cond_false, cond_true];obtain ⟨s1, h1, h2⟩ := runT_ev (n := n) (by omega) (by omega) hgs hu actsL (fun a h => h) (fun j => if 601 - 601 ≤ j ∧ j < 601 then goodF ((j : Int) - 300) else 0) s ht;have ec : (((v + 1 : Nat) : Int)) = (v : Int) + 1 := by omega
      rw [ec, h1, Option.bind_some];simp only [beq_self_eq_true, cond_true];obtain ⟨s', h3, h4⟩ := j2_ev (n := n) (v := v + 1) (u := u) (by omega) (actsL.foldl (addT v u) fun j => if 601 - 601 ≤ j ∧ j < 601 then goodF ((j : Int) - 300) else 0) (fun j hj => by
        rw [fold_T, if_pos hj, if_pos ⟨by omega, hj⟩]; rfl) (fun j hj => by rw [fold_T, if_neg (by omega), if_neg (by omega)]) h2
      rw [ec] at h3;exact ⟨s', h3, h4⟩
end Go.Proofs.Ythgbjhglhejalaa.Sy
