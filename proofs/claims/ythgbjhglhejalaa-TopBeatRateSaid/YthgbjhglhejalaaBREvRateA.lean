/- Regulation, with the rules of chapter 7's example: what the tables of the levels hold. -/
import Derived.Test.YthgbjhglhejalaaBRGRate
import Derived.Test.YthgbjhglhejalaaBRSpRateA
import Derived.Test.YthgbjhglhejalaaBRPlRate
import Derived.Test.YthgbjhglhejalaaBREvL
import Derived.Test.YthgbjhglhejalaaBREvMap
set_option linter.unusedSimpArgs false
set_option linter.unusedVariables false
namespace Go.Proofs.Ythgbjhglhejalaa.Sy
open Go.RowKit
set_option maxRecDepth 100000
def tb (F : Nat → Int) : List Int := (List.range 1202).map F
theorem tb_get {F : Nat → Int} {k : Nat} (h : k < 1202) : (tb F)[k]? = some (F k) := by simp [tb, h]
theorem tb_congr {F G : Nat → Int} (h : ∀ i, i < 1202 → F i = G i) : tb F = tb G := List.map_congr_left fun i hi => h i (List.mem_range.1 hi)
theorem tb_set (F : Nat → Int) (k : Nat) (v : Int) : (tb F).set k v = tb (fun i => if i = k then v else F i) := by
  apply List.ext_getElem?;intro q;rw [List.getElem?_set]
  by_cases hq : q < 1202
  · rw [tb_get hq, tb_get hq]
    by_cases e : k = q
    · subst e; simp [tb, hq]
    · have e' : ¬ q = k := fun h => e h.symm
      simp [e, e']
  · have h1 : ∀ G : Nat → Int, (tb G)[q]? = none := fun G => by simp [tb, hq]
    rw [h1, h1]
    by_cases e : k = q
    · subst e; simp [tb, hq]
    · simp [e]
theorem tb_zero : List.replicate 1202 (0 : Int) = tb fun _ => 0 := by
  apply List.ext_getElem?;intro q
  by_cases hq : q < 1202
  · rw [tb_get hq, List.getElem?_replicate, if_pos hq]
  · rw [List.getElem?_replicate, if_neg hq]; simp [tb, hq]
theorem idx_tb {β : Type} {F : Nat → Int} {k : Nat} (h : k < 1202) (f : Int → Option β) : idx (tb F) ((k : Nat) : Int) f = f (F k) := by
  simp only [idx, chk, Int.toNat_natCast, tb_get h, Option.bind_some];simp
theorem chk_t {β : Type} {b : Bool} (hb : b = true) (k : Option β) : chk b k = k := by subst hb; rfl
theorem i64ok {z : Int} (h0 : -1000000 ≤ z) (h1 : z ≤ 1000000) : in64 z = true := in64_iff.2 ⟨by omega, by omega⟩
theorem at_ev {n : Nat} {r : Int} (h0 : -300 ≤ r) (h1 : r ≤ 300) : ev_p_rate_list_at n r = some () := by
  unfold ev_p_rate_list_at;rw [chk_t (i64ok (by omega) (by omega)), chk_t (by simp; omega)]
def goodF (r : Int) : Int := if -5 ≤ r ∧ r ≤ 5 then 5 else r - 1
theorem good_ev {n : Nat} {r : Int} (hn : 1 < n) (h0 : -1000 ≤ r) (h1 : r ≤ 1000) : ev_p_rate_shop_good n 5 1 8 10 3 [(4, 6)] r = some (goodF r) := by
  unfold ev_p_rate_shop_good;rw [chk_t (by decide), wi1_rate hn, Option.bind_some, chk_t (i64ok (by omega) (by omega))];unfold goodF
  by_cases h : -5 ≤ r ∧ r ≤ 5
  · simp [h.1, h.2]
  · rw [if_neg h];have : (decide ((0 : Int) - 5 ≤ r) && decide (r ≤ 5)) = false := by
      rw [Bool.and_eq_false_iff, decide_eq_false_iff_not, decide_eq_false_iff_not]; omega
    rw [this]; rfl
abbrev Tabs : Type := List ((Int × Int) × (List Int))
abbrev SelfT : Type := Int → Int → Int → Int → Int → (List (Int × Int)) → Tabs → Int → Int → Option ((List Int) × Tabs)
theorem tabl_ev {n : Nat} {self : SelfT} (hn : 1 < n) (v u : Int) (s7 : Tabs) : ∀ (k m : Nat) (F : Nat → Int), k ≤ 601 → k < m →
    ev_p_rate_shop_table_l0 n self m (301 - (k : Int)) v u 5 1 8 10 3 (tb F) [(4, 6)] s7 = ev_p_rate_shop_table_l0 n self 1 301 v u 5 1 8 10 3 (tb fun j => if 601 - k ≤ j ∧ j < 601 then goodF ((j : Int) - 300) else F j) [(4, 6)] s7 := by
  intro k
  induction k with
  | zero =>
    intro m F _ hm;obtain ⟨m, rfl⟩ : ∃ q, m = q + 1 := ⟨m - 1, by omega⟩;have : (tb fun j => if 601 - 0 ≤ j ∧ j < 601 then goodF ((j : Int) - 300) else F j) = tb F := tb_congr fun i _ => by rw [if_neg (by omega)]
    rw [this]
    rfl
  | succ k ih =>
    intro m F hk hm;obtain ⟨m, rfl⟩ : ∃ q, m = q + 1 := ⟨m - 1, by omega⟩;have e : (301 - ((k + 1 : Nat) : Int)) = 300 - (k : Int) := by omega
    rw [e, ev_p_rate_shop_table_l0, at_ev (by omega) (by omega)];have ec : (0 + ((300 - (k : Int) + 300) : Int).toNat * 1) = 600 - k := by omega
    have hd : decide ((300 - (k : Int)) ≤ 300) = true := decide_eq_true (by omega);rw [hd, ec];simp only [cond_true, Option.bind_some];rw [idx_tb (by omega), good_ev hn (by omega) (by omega), Option.bind_some, chk_t (i64ok (by omega) (by omega)), tb_set];have e2 : (300 - (k : Int) + 1) = 301 - (k : Int) := by omega
    rw [e2, ih m _ (by omega) (by omega)];refine congrArg (fun l => ev_p_rate_shop_table_l0 n self 1 301 v u 5 1 8 10 3 l [(4, 6)] s7) (tb_congr fun i hi => ?_)
    by_cases h1 : i = 600 - k
    · subst h1;rw [if_neg (by omega), if_pos rfl, if_pos (by omega)]
      congr 1; omega
    · by_cases h2 : 601 - k ≤ i ∧ i < 601
      · rw [if_pos h2, if_pos (by omega)]
      · rw [if_neg h2, if_neg h1, if_neg (by omega)]
def addF (G : Nat → Int) (lo hi : Int) (j : Nat) (x : Int) : Int :=
  if -300 ≤ (j : Int) - 300 + lo ∧ (j : Int) - 300 + lo ≤ 300 then max x (min (G (601 + ((j : Int) - 300 + lo + 300).toNat) - hi) 300) else x
theorem addl_ev {n : Nat} {self : SelfT} (hn : 1 < n) {lo hi : Int} {G : Nat → Int} (hG : ∀ j, j < 1202 → -1000 ≤ G j ∧ G j ≤ 1000) (hlo : -100 ≤ lo ∧ lo ≤ 100) (hhi : -100 ≤ hi ∧ hi ≤ 100) (s7 : Tabs) : ∀ (k m : Nat) (F : Nat → Int), k ≤ 601 → k < m →
    ev_p_rate_shop_add_l1 self n m (301 - (k : Int)) (tb F) lo hi (tb G) s7 = some (s7, tb fun j => if 601 - k ≤ j ∧ j < 601 then addF G lo hi j (F j) else F j) := by
  intro k
  induction k with
  | zero =>
    intro m F _ hm;obtain ⟨m, rfl⟩ : ∃ q, m = q + 1 := ⟨m - 1, by omega⟩;have : (tb fun j => if 601 - 0 ≤ j ∧ j < 601 then addF G lo hi j (F j) else F j) = tb F := tb_congr fun i _ => by rw [if_neg (by omega)]
    rw [this]
    rfl
  | succ k ih =>
    intro m F hk hm;obtain ⟨m, rfl⟩ : ∃ q, m = q + 1 := ⟨m - 1, by omega⟩;have e : (301 - ((k + 1 : Nat) : Int)) = 300 - (k : Int) := by omega
    rw [e, ev_p_rate_shop_add_l1];have hd : decide ((300 - (k : Int)) ≤ 300) = true := decide_eq_true (by omega);have ec : (0 + ((300 - (k : Int) + 300) : Int).toNat * 1) = 600 - k := by omega
    have e2 : (300 - (k : Int) + 1) = 301 - (k : Int) := by omega
    have e3 : ((600 - k : Nat) : Int) - 300 = 300 - (k : Int) := by omega
    rw [hd, ec, wi1_rate hn, chk_t (i64ok (by omega) (by omega))];simp only [cond_true, Option.bind_some]
    by_cases hr : -300 ≤ 300 - (k : Int) + lo ∧ 300 - (k : Int) + lo ≤ 300
    · have hb : (decide ((-300 : Int) ≤ 300 - (k : Int) + lo) && decide (300 - (k : Int) + lo ≤ 300)) = true := by simp [hr.1, hr.2]
      rw [hb, at_ev (by omega) (by omega), at_ev hr.1 hr.2];simp only [cond_true, Option.bind_some];have hp : 601 + (300 - (k : Int) + lo + 300).toNat * 1 < 1202 := by omega
      have hg := hG _ hp;rw [idx_tb (by omega), idx_tb hp, chk_t (i64ok (by omega) (by omega)), chk_t (i64ok (by omega) (by omega)), tb_set, e2, ih m _ (by omega) (by omega)];refine congrArg (fun l => some (s7, l)) (tb_congr fun i hi => ?_)
      by_cases h1 : i = 600 - k
      · subst h1;rw [if_neg (by omega), if_pos rfl, if_pos (by omega), addF, e3, if_pos hr, Nat.mul_one]
      · by_cases h2 : 601 - k ≤ i ∧ i < 601
        · rw [if_pos h2, if_neg h1, if_pos (by omega)]
        · rw [if_neg h2, if_neg h1, if_neg (by omega)]
    · have hb : (decide ((-300 : Int) ≤ 300 - (k : Int) + lo) && decide (300 - (k : Int) + lo ≤ 300)) = false := by
        rw [Bool.and_eq_false_iff, decide_eq_false_iff_not, decide_eq_false_iff_not]; omega
      rw [hb];simp only [cond_false];rw [chk_t (i64ok (by omega) (by omega)), e2, ih m _ (by omega) (by omega)];refine congrArg (fun l => some (s7, l)) (tb_congr fun i hi => ?_)
      by_cases h1 : i = 600 - k
      · subst h1;rw [if_neg (by omega), if_pos (by omega), addF, e3, if_neg hr]
      · by_cases h2 : 601 - k ≤ i ∧ i < 601
        · rw [if_pos h2, if_pos (by omega)]
        · rw [if_neg h2, if_neg (by omega)]
theorem fill_ev {n : Nat} {st : Int → Int} (hst : ∀ r : Int, -300 ≤ r → r ≤ 300 → -1000 ≤ st r ∧ st r ≤ 1000) : ∀ (k m : Nat) (F : Nat → Int), k ≤ 601 → k < m → (∀ j, j < 601 → F j = st ((j : Int) - 300)) → (∀ j, 601 + k ≤ j → j < 1202 → F j = imR st 2 300 (1201 - j)) →
    ev_p_rate_shop_fill_l0 n m ((k : Int) - 301) 5 1 8 10 3 (tb F) [(4, 6)] = some (tb fun j => if j < 601 then F j else imR st 2 300 (1201 - j)) := by
  intro k
  induction k with
  | zero =>
    intro m F _ hm h1 h2;obtain ⟨m, rfl⟩ : ∃ q, m = q + 1 := ⟨m - 1, by omega⟩;have : (tb fun j => if j < 601 then F j else imR st 2 300 (1201 - j)) = tb F := tb_congr fun i hi => by
      by_cases h : i < 601
      · rw [if_pos h]
      · rw [if_neg h, h2 i (by omega) hi]
    rw [this]
    rfl
  | succ k ih =>
    intro m F hk hm h1 h2;obtain ⟨m, rfl⟩ : ∃ q, m = q + 1 := ⟨m - 1, by omega⟩;have e : (((k + 1 : Nat) : Int) - 301) = (k : Int) - 300 := by omega
    rw [e, ev_p_rate_shop_fill_l0];have hd : decide ((-300 : Int) ≤ (k : Int) - 300) = true := decide_eq_true (by omega);have ec : (0 + ((k : Int) - 300 + 300).toNat * 1) = k := by omega
    have ed : (601 + ((k : Int) - 300 + 300).toNat * 1) = 601 + k := by omega
    have ee : (601 + ((k : Int) - 300 + 1 + 300).toNat * 1) = 602 + k := by omega
    have hw : ev_p_rate_shop_window n 5 1 8 10 3 [(4, 6)] = some 2 := rfl;have e2 : (k : Int) - 300 - 1 = (k : Int) - 301 := by omega
    have hs := hst ((k : Int) - 300) (by omega) (by omega);have step : ∀ z : Int, z = imR st 2 300 (600 - k) →
        ev_p_rate_shop_fill_j1 n ((k : Int) - 300) (tb F) 5 1 8 10 3 [(4, 6)] (fun i9q i10q i11q i12q i13q i14q l15q l16q => ev_p_rate_shop_fill_l0 n m i9q i10q i11q i12q i13q i14q l15q l16q) z = some (tb fun j => if j < 601 then F j else imR st 2 300 (1201 - j)) := by
      intro z hz;unfold ev_p_rate_shop_fill_j1;rw [at_ev (by omega) (by omega), Option.bind_some, ed, idx_tb (by omega), chk_t (i64ok (by omega) (by omega)), tb_set, e2];refine (ih m _ (by omega) (by omega) (fun j hj => by rw [if_neg (by omega)]; exact h1 j hj) (fun j hj hj2 => by
        by_cases q : j = 601 + k
        · subst q; rw [if_pos rfl, hz]; congr 1; omega
        · rw [if_neg q]; exact h2 j (by omega) hj2)).trans ?_
      refine congrArg some (tb_congr fun i hi => ?_)
      by_cases h : i < 601
      · rw [if_pos h, if_pos h, if_neg (by omega)]
      · rw [if_neg h, if_neg h]
    rw [hd, at_ev (by omega) (by omega), hw, ec, ee];simp only [cond_true, Option.bind_some];rw [idx_tb (by omega), chk_t (i64ok (by omega) (by omega)), h1 k (by omega)]
    by_cases hc : (k : Int) - 300 + 2 ≤ st ((k : Int) - 300)
    · rw [decide_eq_true hc];simp only [cond_true]
      by_cases h300 : k = 600
      · subst h300;have : decide (((600 : Nat) : Int) - 300 < 300) = false := by decide
        rw [this];simp only [cond_false];refine step _ ?_;have hc' : (300 : Int) + 2 ≤ st 300 := by simpa using hc
        show _ = imR st 2 300 0;rw [imR, if_pos hc']; rfl
      · have : decide ((k : Int) - 300 < 300) = true := decide_eq_true (by omega);rw [this];simp only [cond_true];rw [chk_t (i64ok (by omega) (by omega)), at_ev (by omega) (by omega), Option.bind_some, idx_tb (by omega), h2 _ (by omega) (by omega)];refine step _ ?_;obtain ⟨q, hq⟩ : ∃ q, 600 - k = q + 1 := ⟨599 - k, by omega⟩;have hq2 : (1201 - (602 + k)) = q := by omega
        have hq3 : (300 : Int) - ((q : Int) + 1) = (k : Int) - 300 := by omega
        rw [hq, hq2, imR, hq3, if_pos hc]
    · rw [decide_eq_false hc];simp only [cond_false];refine step _ ?_
      by_cases h300 : k = 600
      · subst h300;have hc' : ¬ (300 : Int) + 2 ≤ st 300 := by simpa using hc
        show _ = imR st 2 300 0;rw [imR, if_neg hc']; rfl
      · obtain ⟨q, hq⟩ : ∃ q, 600 - k = q + 1 := ⟨599 - k, by omega⟩;have hq3 : (300 : Int) - ((q : Int) + 1) = (k : Int) - 300 := by omega
        rw [hq, imR, hq3, if_neg hc]
end Go.Proofs.Ythgbjhglhejalaa.Sy
