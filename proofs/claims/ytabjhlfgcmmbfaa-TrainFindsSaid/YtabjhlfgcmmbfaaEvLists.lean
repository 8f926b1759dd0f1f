/- All lists of counts, and all trains with a ratio: the reference does as the program. -/
import Derived.Test.YtabjhlfgcmmbfaaEvShop
set_option linter.unusedSimpArgs false
set_option linter.unusedVariables false
namespace Go.Proofs.Ytabjhlfgcmmbfaa.Sy
open Go.RowKit
set_option maxRecDepth 100000

theorem chS_len (k : Nat) : ∀ (l : List Int) (L : Nat), l.length ≤ L → (chS (chP k) l).length ≤ l.length * L ^ k := by
  intro l
  induction l with
  | nil => intro L _; simp [chS]
  | cons x tl iht =>
    intro L hL
    have h1 := chP_len k (x :: tl)
    have h2 := iht L (by simp at hL; omega)
    have h3 : (x :: tl).length ^ k ≤ L ^ k := Nat.pow_le_pow_left hL k
    simp only [chS, List.length_append, List.length_map]
    rw [List.length_cons, Nat.succ_mul]
    omega
theorem ref_L1 {n : Nat} {i : Nat} {l : List Int} {x : Int} {r : List (List Int)} {K : Int → List Int → List (List Int) → Option (List (List Int))} (hx : l[i]? = some x) (hr : ∀ w ∈ r, w.length ≤ 100) (hrl : r.length ≤ 1000000) (hi : i ≤ 100) : ∀ (d m j : Nat) (acc : List (List Int)), j + d = r.length → d < m → acc.length + d ≤ 1000000 →
    ev_ref01_Lists_l1 n (i : Int) K m (j : Int) l acc r = K ((i + 1 : Nat) : Int) l (acc ++ (r.drop j).map (x :: ·)) := by
  intro d
  induction d with
  | zero =>
    intro m j acc hj hm hl
    obtain ⟨m, rfl⟩ : ∃ m', m = m' + 1 := ⟨m - 1, by omega⟩
    rw [ev_ref01_Lists_l1, cond_if, if_neg (by simp; omega), chk_of (in64_of (by omega)), List.drop_eq_nil_of_le (by omega), List.map_nil, List.append_nil]; rfl
  | succ d ih =>
    intro m j acc hj hm hl
    obtain ⟨m, rfl⟩ : ∃ m', m = m' + 1 := ⟨m - 1, by omega⟩
    have hlt : j < r.length := by omega
    have hrl2 := hr _ (List.getElem_mem hlt)
    have e2 : ([x] : List Int).length = 1 := rfl
    have e3 : ([([x] : List Int) ++ r[j]] : List (List Int)).length = 1 := rfl
    have hx2 := ih m (j + 1) (acc ++ [[x] ++ r[j]]) (by omega) (by omega) (by rw [List.length_append]; omega)
    rw [ev_ref01_Lists_l1, cond_if, if_pos (decide_eq_true (by omega)), idx_nat hx, idx_nat (List.getElem?_eq_getElem hlt), chk_of (room_iff.2 (by omega)), chk_of (room_iff.2 (by omega)), chk_of (in64_of (by omega))]
    refine hx2.trans ?_
    rw [List.drop_eq_getElem_cons hlt, List.map_cons, List.append_assoc, List.singleton_append, List.singleton_append]
theorem ref_Lists : ∀ (k n : Nat) (l : List Int), l.length ≤ 12 → k ≤ 4 → 21000 + k < n → ev_ref01_Lists n l (k : Int) = some (chP k l) := by
  intro k
  induction k with
  | zero =>
    intro n l _ _ hn
    obtain ⟨n, rfl⟩ : ∃ n', n = n' + 1 := ⟨n - 1, by omega⟩
    rw [ev_ref01_Lists, cond_if, if_pos (by rfl)]; rfl
  | succ k ihk =>
    intro n l hl hk hn
    obtain ⟨n, rfl⟩ : ∃ n', n = n' + 1 := ⟨n - 1, by omega⟩
    rw [ev_ref01_Lists, cond_if, if_neg (by rw [beq_iff_eq]; omega)]
    have hP : 12 ^ (k + 1) ≤ 20736 := by
      have : 12 ^ (k + 1) ≤ 12 ^ 4 := Nat.pow_le_pow_right (by decide) hk
      omega
    have key : ∀ (d m i : Nat) (acc : List (List Int)), i + d = l.length → d < m → acc.length + (chS (chP k) (l.drop i)).length ≤ 1000000 → ev_ref01_Lists_l0 n ((k + 1 : Nat) : Int) (ev_ref01_Lists n) m (i : Int) l acc = some (acc ++ chS (chP k) (l.drop i)) := by
      intro d
      induction d with
      | zero =>
        intro m i acc hi hm _
        obtain ⟨m, rfl⟩ : ∃ m', m = m' + 1 := ⟨m - 1, by omega⟩
        rw [ev_ref01_Lists_l0, cond_if, if_neg (by simp; omega), List.drop_eq_nil_of_le (by omega), chS, List.append_nil]
      | succ d ih =>
        intro m i acc hi hm hacc
        obtain ⟨m, rfl⟩ : ∃ m', m = m' + 1 := ⟨m - 1, by omega⟩
        have hlt : i < l.length := by omega
        have e1 : (((k + 1 : Nat) : Int) - 1) = (k : Int) := by omega
        have e2 : List.drop ((i : Int)).toNat (List.take ((l.length : Int)).toNat l) = l.drop i := by rw [Int.toNat_natCast, Int.toNat_natCast, List.take_length]
        have hcons : l.drop i = l[i] :: l.drop (i + 1) := List.drop_eq_getElem_cons hlt
        have hS : chS (chP k) (l.drop i) = (chP k (l.drop i)).map (l[i] :: ·) ++ chS (chP k) (l.drop (i + 1)) := by rw [hcons, chS]
        rw [hS, List.length_append, List.length_map] at hacc
        have hkl : (chP k (l.drop i)).length ≤ 20736 := by
          have h1 := chP_len k (l.drop i)
          have h2 : (l.drop i).length ^ k ≤ 12 ^ k := Nat.pow_le_pow_left (by rw [List.length_drop]; omega) k
          have h3 : 12 ^ k ≤ 12 ^ 4 := Nat.pow_le_pow_right (by decide) (by omega)
          omega
        rw [ev_ref01_Lists_l0, cond_if, if_pos (decide_eq_true (by omega)), chk_of (by simp; omega), chk_of (in64_of (by omega)), e1, e2, bind_of (ihk n (l.drop i) (by rw [List.length_drop]; omega) (by omega) (by omega))]
        have hi1 := ref_L1 (n := n) (i := i) (l := l) (x := l[i]) (r := chP k (l.drop i)) (K := fun i3q l4q l5q => ev_ref01_Lists_l0 n ((k + 1 : Nat) : Int) (ev_ref01_Lists n) m i3q l4q l5q) (List.getElem?_eq_getElem hlt) (fun w hw => by have := (mem_chP k _ w hw).1; omega) (by omega) (by omega) (chP k (l.drop i)).length n 0 acc (by omega) (by omega) (by omega)
        refine hi1.trans ?_
        rw [List.drop_zero]
        refine (ih m (i + 1) _ (by omega) (by omega) (by rw [List.length_append, List.length_map]; omega)).trans ?_
        rw [hS, List.append_assoc]
    have h1 := chS_len k l 12 hl
    have h2 : l.length * 12 ^ k ≤ 12 * 12 ^ k := Nat.mul_le_mul_right _ hl
    have h3 : 12 * 12 ^ k = 12 ^ (k + 1) := by rw [Nat.pow_succ, Nat.mul_comm]
    have := key l.length n 0 [] (by omega) (by omega) (by rw [List.drop_zero, List.length_nil]; omega)
    rw [List.drop_zero, List.nil_append] at this
    exact this
theorem ref_Product {n : Nat} {l : List Int} (hn : 10 < n) (hl : l.length ≤ 4) (h : ∀ x ∈ l, 1 ≤ x ∧ x ≤ 400) : ev_ref01_Product n l = some (prodL l) := by
  have key : ∀ (d m i : Nat) (p : Int), i + d = l.length → d < m → 1 ≤ p ∧ p ≤ 400 ^ i → ev_ref01_Product_l0 n l m p (i : Int) = some (p * prodL (l.drop i)) := by
    intro d
    induction d with
    | zero =>
      intro m i p hi hm _
      obtain ⟨m, rfl⟩ : ∃ m', m = m' + 1 := ⟨m - 1, by omega⟩
      rw [ev_ref01_Product_l0, cond_if, if_neg (by simp; omega), List.drop_eq_nil_of_le (by omega), prodL, Int.mul_one]
    | succ d ih =>
      intro m i p hi hm hp
      obtain ⟨m, rfl⟩ : ∃ m', m = m' + 1 := ⟨m - 1, by omega⟩
      have hlt : i < l.length := by omega
      have hb := mul_bound hp (h _ (List.getElem_mem hlt))
      have h4 := pow5_le (i := i + 1) (by omega)
      have hs : (400 : Int) ^ (i + 1) = 400 ^ i * 400 := by rw [Int.pow_succ]
      rw [ev_ref01_Product_l0, cond_if, if_pos (decide_eq_true (by omega)), idx_nat (List.getElem?_eq_getElem hlt), chk_of (in64_of (by omega)), chk_of (in64_of (by omega))]
      refine (ih m (i + 1) _ (by omega) (by omega) (by omega)).trans ?_
      rw [List.drop_eq_getElem_cons hlt, prodL, Int.mul_assoc]
  have := key l.length n 0 1 (by omega) (by omega) (by simp)
  rw [List.drop_zero, Int.one_mul] at this
  exact this
theorem chP_prod {k : Nat} {l w : List Int} (hk : k ≤ 4) (hl : ∀ x ∈ l, 6 ≤ x ∧ x ≤ 400) (hw : w ∈ chP k l) : (1 ≤ prodL w ∧ prodL w ≤ 25600000000) ∧ w.length = k ∧ ∀ x ∈ w, 1 ≤ x ∧ x ≤ 400 := by
  obtain ⟨h1, h2⟩ := mem_chP k l w hw
  have h0 : ∀ x ∈ w, 1 ≤ x ∧ x ≤ 400 := fun x hx => by have := hl x (h2 x hx); omega
  have h3 := prodL_bound w h0
  have h4 := pow5_le (i := w.length) (by omega)
  exact ⟨by omega, h1, h0⟩
/-- all trains with a ratio, as the reference tries them -/
def trW (P : List (List Int)) (r : Int × Int) (w : List Int) : List (List Int × List Int) := (P.filter fun p => lowP (prodL w) (prodL p) == r).map fun p => (w, p)
def trP (W P : List Int) (r : Int × Int) (k : Nat) : List (List Int × List Int) := (chP k W).flatMap (trW (chP k P) r)
theorem ref_T1 {n k i : Nat} {W P : List Int} {r : Int × Int} {w : List Int} {K : Int → Int → Int → List (List Int × List Int) → List (List Int) → List (List Int) → Option (List (List Int × List Int))} (hn : 200 < n) (hk : k ≤ 4) (hW : ∀ x ∈ W, 6 ≤ x ∧ x ≤ 400) (hP : ∀ x ∈ P, 6 ≤ x ∧ x ≤ 400)
    (hw : (chP k W)[i]? = some w) (hi : i ≤ 1000000) (hPl : (chP k P).length ≤ 1000000) : ∀ (d m j : Nat) (acc : List (List Int × List Int)), j + d = (chP k P).length → d < m → acc.length + d ≤ 1000000000 →
    ev_ref01_Trains_l1 n (i : Int) K m (j : Int) r.1 r.2 acc (chP k W) (chP k P) = K ((i + 1 : Nat) : Int) r.1 r.2 (acc ++ trW ((chP k P).drop j) r w) (chP k W) (chP k P) := by
  obtain ⟨w1, w2, w3⟩ := chP_prod hk hW (List.mem_of_getElem? hw)
  intro d
  induction d with
  | zero =>
    intro m j acc hj hm _
    obtain ⟨m, rfl⟩ : ∃ m', m = m' + 1 := ⟨m - 1, by omega⟩
    rw [ev_ref01_Trains_l1, cond_if, if_neg (by simp; omega), chk_of (in64_of (by omega)), List.drop_eq_nil_of_le (by omega)]
    simp [trW]
  | succ d ih =>
    intro m j acc hj hm hacc
    obtain ⟨m, rfl⟩ : ∃ m', m = m' + 1 := ⟨m - 1, by omega⟩
    have hlt : j < (chP k P).length := by omega
    obtain ⟨p1, p2, p3⟩ := chP_prod hk hP (List.getElem_mem hlt)
    rw [ev_ref01_Trains_l1, cond_if, if_pos (decide_eq_true (by omega)), idx_nat hw, bind_of (ref_Product (by omega) (by omega) w3), idx_nat (List.getElem?_eq_getElem hlt), bind_of (ref_Product (by omega) (by omega) p3), refLow_eq, bind_of (ev_lowest hn (by omega) (by omega)), cond_if]
    have hs : ∀ b, (lowP (prodL w) (prodL (chP k P)[j]) == r) = b → trW ((chP k P).drop j) r w = (if b = true then [(w, (chP k P)[j])] else []) ++ trW ((chP k P).drop (j + 1)) r w := by
      intro b hb
      unfold trW
      rw [List.drop_eq_getElem_cons hlt]
      cases b with
      | true => rw [List.filter_cons_of_pos (by simpa using hb)]; rfl
      | false => rw [List.filter_cons_of_neg (by simp [hb])]; rfl
    have eb : ((lowP (prodL w) (prodL (chP k P)[j])).1 == r.1 && (lowP (prodL w) (prodL (chP k P)[j])).2 == r.2) = (lowP (prodL w) (prodL (chP k P)[j]) == r) := rfl
    rw [eb]
    cases hb : (lowP (prodL w) (prodL (chP k P)[j]) == r) with
    | true =>
      have e1 : ([(w, (chP k P)[j])] : List (List Int × List Int)).length = 1 := rfl
      rw [if_pos rfl, chk_of (room_iff.2 (by omega)), chk_of (in64_of (by omega)), hs true hb]
      refine (ih m (j + 1) _ (by omega) (by omega) (by rw [List.length_append]; omega)).trans ?_
      rw [if_pos rfl, List.append_assoc]
    | false =>
      rw [if_neg (by decide), chk_of (in64_of (by omega)), hs false hb, if_neg (by decide), List.nil_append]
      exact ih m (j + 1) _ (by omega) (by omega) (by omega)
theorem ref_Trains {n k : Nat} {W P : List Int} {a b : Int} (hn : 30000 < n) (hk : k ≤ 4) (hW : OkCut W) (hP : OkCut P) (ha : 1 ≤ a ∧ a ≤ 1000000) (hb : 1 ≤ b ∧ b ≤ 1000000) : ev_ref01_Trains n W P a b (k : Int) = some (trP W P (lowP a b) k) := by
  have l1 := hW.len
  have l2 := hP.len
  have lenb : ∀ l : List Int, l.length ≤ 12 → (chP k l).length ≤ 20736 := fun l hl => by
    have h1 := chP_len k l
    have h2 : l.length ^ k ≤ 12 ^ k := Nat.pow_le_pow_left hl k
    have h3 : 12 ^ k ≤ 12 ^ 4 := Nat.pow_le_pow_right (by decide) hk
    omega
  have hWl := lenb W (by omega)
  have hPl := lenb P (by omega)
  have key : ∀ (d m i : Nat) (acc : List (List Int × List Int)), i + d = (chP k W).length → d < m → acc.length ≤ i * 20736 → ev_ref01_Trains_l0 n m (i : Int) (lowP a b).1 (lowP a b).2 acc (chP k W) (chP k P) = some (acc ++ ((chP k W).drop i).flatMap (trW (chP k P) (lowP a b))) := by
    intro d
    induction d with
    | zero =>
      intro m i acc hi hm _
      obtain ⟨m, rfl⟩ : ∃ m', m = m' + 1 := ⟨m - 1, by omega⟩
      rw [ev_ref01_Trains_l0, cond_if, if_neg (by simp; omega), List.drop_eq_nil_of_le (by omega)]
      simp
    | succ d ih =>
      intro m i acc hi hm hacc
      obtain ⟨m, rfl⟩ : ∃ m', m = m' + 1 := ⟨m - 1, by omega⟩
      have hlt : i < (chP k W).length := by omega
      rw [ev_ref01_Trains_l0, cond_if, if_pos (decide_eq_true (by omega))]
      have h1 := ref_T1 (n := n) (k := k) (i := i) (W := W) (P := P) (r := lowP a b) (w := (chP k W)[i]) (K := fun i9q i10q i11q l12q l13q l14q => ev_ref01_Trains_l0 n m i9q i10q i11q l12q l13q l14q) (by omega) hk hW.ok hP.ok (List.getElem?_eq_getElem hlt) (by omega) (by omega) (chP k P).length n 0 acc (by omega) (by omega) (by omega)
      refine h1.trans ?_
      rw [List.drop_zero]
      have hwl : (trW (chP k P) (lowP a b) (chP k W)[i]).length ≤ (chP k P).length := by
        unfold trW; rw [List.length_map]; exact List.length_filter_le _ _
      refine (ih m (i + 1) _ (by omega) (by omega) (by rw [List.length_append]; omega)).trans ?_
      rw [List.append_assoc, List.drop_eq_getElem_cons hlt, List.flatMap_cons]
  rw [ev_ref01_Trains, bind_of (ref_Lists k n W (by omega) hk (by omega)), bind_of (ref_Lists k n P (by omega) hk (by omega)), refLow_eq, bind_of (ev_lowest (by omega) (by omega) (by omega))]
  have := key (chP k W).length n 0 [] (by omega) (by omega) (by simp)
  rw [List.drop_zero, List.nil_append] at this
  exact this
/-- a ratio in lowest terms -/
structure Low (r : Int × Int) : Prop where
  pos : 1 ≤ r.1 ∧ 1 ≤ r.2
  one : Int.gcd r.1 r.2 = 1
theorem low_Low {a b : Int} (ha : 1 ≤ a) (hb : 1 ≤ b) : Low (lowP a b) := by
  obtain ⟨q1, q2, q3, q4⟩ := lowP_pos ha hb
  refine ⟨⟨q1, q3⟩, ?_⟩
  have hg := gcd_pos (b := b) ha
  exact Int.gcd_ediv_gcd_ediv_gcd (by omega)
theorem Low.self {r : Int × Int} (h : Low r) : lowP r.1 r.2 = r := by
  unfold lowP; rw [h.one]; simp
theorem low_iff {r : Int × Int} (h : Low r) {x y : Int} (hx : 1 ≤ x) (hy : 1 ≤ y) : lowP x y = r ↔ x % r.1 = 0 ∧ y = x / r.1 * r.2 := by
  have hr := h.pos
  obtain ⟨e1, e2⟩ := lowP_mul (a := x) (b := y) hx
  have hg := gcd_pos (a := x) (b := y) hx
  constructor
  · intro e
    rw [e] at e1 e2
    refine ⟨?_, ?_⟩
    · rw [← e1]; exact Int.mul_emod_right _ _
    · have : x / r.1 = (Int.gcd x y : Nat) := by rw [← e1]; rw [e1]; exact Int.ediv_eq_of_eq_mul_right (by omega) e1.symm
      rw [this, Int.mul_comm]; exact e2.symm
  · rintro ⟨h1, h2⟩
    have h3 : x = x / r.1 * r.1 := (Int.ediv_mul_cancel (Int.dvd_of_emod_eq_zero h1)).symm
    have hq : 1 ≤ x / r.1 := by
      have h4 : 0 ≤ x / r.1 := Int.ediv_nonneg (by omega) (by omega)
      rcases Int.lt_or_le 0 (x / r.1) with h5 | h5
      · omega
      · have : x / r.1 = 0 := by omega
        rw [this] at h3; omega
    rw [h2]
    have : lowP x (x / r.1 * r.2) = lowP (x / r.1 * r.1) (x / r.1 * r.2) := by rw [← h3]
    rw [this, lowP_scale hq hr.1, h.self]
theorem exact_tr {W P : List Int} {r : Int × Int} {k : Nat} (hk : k ≤ 4) (hr : Low r) (hW : ∀ x ∈ W, 6 ≤ x ∧ x ≤ 400) (hP : ∀ x ∈ P, 6 ≤ x ∧ x ≤ 400) : exactP W P r.1 r.2 k = trP W P r k := by
  unfold exactP trP
  refine flatMap_congr' fun w hw => ?_
  unfold trW
  obtain ⟨w1, _, _⟩ := chP_prod hk hW hw
  have hf : ∀ p ∈ chP k P, (lowP (prodL w) (prodL p) == r) = (decide (prodL w % r.1 = 0) && (prodL p == prodL w / r.1 * r.2)) := fun p hp => by
    obtain ⟨p1, _, _⟩ := chP_prod hk hP hp
    rw [Bool.eq_iff_iff, beq_iff_eq, Bool.and_eq_true, decide_eq_true_eq, beq_iff_eq]
    exact low_iff hr w1.1 p1.1
  rw [List.filter_congr hf]
  by_cases h : prodL w % r.1 = 0
  · rw [if_pos h]; simp [h]
  · rw [if_neg h]; simp [h]
/-- the reference's fewest -/
def fewR (W P : List Int) (r : Int × Int) : Nat → Nat → List (List Int × List Int)
  | 0, _ => []
  | d + 1, k => if 0 < (trP W P r k).length then trP W P r k else fewR W P r d (k + 1)
theorem ref_Fewest {n : Nat} {W P : List Int} {a b : Int} (hn : 30000 < n) (hW : OkCut W) (hP : OkCut P) (ha : 1 ≤ a ∧ a ≤ 1000000) (hb : 1 ≤ b ∧ b ≤ 1000000) : ev_ref01_Fewest n W P a b = some (fewR W P (lowP a b) 4 1) := by
  have key : ∀ (d m k : Nat), k + d = 5 → d < m → ev_ref01_Fewest_l0 n W P a b m (k : Int) = some (fewR W P (lowP a b) d k) := by
    intro d
    induction d with
    | zero =>
      intro m k hk hm
      obtain ⟨m, rfl⟩ : ∃ m', m = m' + 1 := ⟨m - 1, by omega⟩
      rw [ev_ref01_Fewest_l0, cond_if, if_neg (by simp; omega)]; rfl
    | succ d ih =>
      intro m k hk hm
      obtain ⟨m, rfl⟩ : ∃ m', m = m' + 1 := ⟨m - 1, by omega⟩
      rw [ev_ref01_Fewest_l0, cond_if, if_pos (decide_eq_true (by omega)), bind_of (ref_Trains hn (by omega) hW hP ha hb), cond_if, fewR]
      by_cases h : 0 < (trP W P (lowP a b) k).length
      · rw [if_pos (decide_eq_true (by omega)), if_pos h]
      · rw [if_neg (fun e => h (by have := of_decide_eq_true e; omega)), if_neg h, chk_of (in64_of (by omega))]
        exact ih m (k + 1) (by omega) (by omega)
  exact key 4 n 1 (by omega) (by omega)
theorem few_eq {W P : List Int} {r : Int × Int} (hr : Low r) (hW : ∀ x ∈ W, 6 ≤ x ∧ x ≤ 400) (hP : ∀ x ∈ P, 6 ≤ x ∧ x ≤ 400) : ∀ (d i : Nat), i + d = 4 → fewG W P r d i = if (fewR W P r d (i + 1)).length = 0 then ([], 7) else if 2000 < (fewR W P r d (i + 1)).length then ([], 5) else (fewR W P r d (i + 1), 0) := by
  intro d
  induction d with
  | zero => intro i _; rfl
  | succ d ih =>
    intro i hi
    rw [fewG, fewR, exact_tr (by omega) hr hW hP]
    by_cases h : 0 < (trP W P r (i + 1)).length
    · simp only [if_pos h]
      rw [if_neg (show ¬ (trP W P r (i + 1)).length = 0 by omega)]
    · rw [if_neg h, if_neg (by omega), if_neg h]
      exact ih (i + 1) (by omega)
end Go.Proofs.Ytabjhlfgcmmbfaa.Sy
