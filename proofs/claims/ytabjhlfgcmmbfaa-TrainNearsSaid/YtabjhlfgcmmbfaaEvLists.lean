/- All lists of counts, and all trains with a ratio: the reference does as the program. -/
import Derived.Test.YtabjhlfgcmmbfaaEvShop
import Derived.Test.YtabjhlfgcmmbfaaEvTrP
set_option linter.unusedSimpArgs false
set_option linter.unusedVariables false
namespace Go.Proofs.Ytabjhlfgcmmbfaa.Sy
open Go.RowKit
set_option maxRecDepth 100000

theorem chS_len (k : Nat) : ∀ (l : List Int) (L : Nat), l.length ≤ L → (chS (chP k) l).length ≤ l.length * L ^ k := by
  intro l
  induction l with
  | nil => intro L _; simp [chS]
  | cons x tl iht =>
    intro L hL
    have h1 := chP_len k (x :: tl)
    have h2 := iht L (by simp at hL; omega)
    have h3 : (x :: tl).length ^ k ≤ L ^ k := Nat.pow_le_pow_left hL k
    simp only [chS, List.length_append, List.length_map]
    rw [List.length_cons, Nat.succ_mul]
    omega
theorem ref_L1 {n : Nat} {i : Nat} {l : List Int} {x : Int} {r : List (List Int)} {K : Int → List Int → List (List Int) → Option (List (List Int))} (hx : l[i]? = some x) (hr : ∀ w ∈ r, w.length ≤ 100) (hrl : r.length ≤ 1000000) (hi : i ≤ 100) : ∀ (d m j : Nat) (acc : List (List Int)), j + d = r.length → d < m → acc.length + d ≤ 1000000 →
    ev_ref01_Lists_l1 n (i : Int) K m (j : Int) l acc r = K ((i + 1 : Nat) : Int) l (acc ++ (r.drop j).map (x :: ·)) := by
  intro d
  induction d with
  | zero =>
    intro m j acc hj hm hl
    obtain ⟨m, rfl⟩ : ∃ m', m = m' + 1 := ⟨m - 1, by omega⟩
    rw [ev_ref01_Lists_l1, cond_if, if_neg (by simp; omega), chk_of (in64_of (by omega)), List.drop_eq_nil_of_le (by omega), List.map_nil, List.append_nil]; rfl
  | succ d ih =>
    intro m j acc hj hm hl
    obtain ⟨m, rfl⟩ : ∃ m', m = m' + 1 := ⟨m - 1, by omega⟩
    have hlt : j < r.length := by omega
    have hrl2 := hr _ (List.getElem_mem hlt)
    have e2 : ([x] : List Int).length = 1 := rfl
    have e3 : ([([x] : List Int) ++ r[j]] : List (List Int)).length = 1 := rfl
    have hx2 := ih m (j + 1) (acc ++ [[x] ++ r[j]]) (by omega) (by omega) (by rw [List.length_append]; omega)
    rw [ev_ref01_Lists_l1, cond_if, if_pos (decide_eq_true (by omega)), idx_nat hx, idx_nat (List.getElem?_eq_getElem hlt), chk_of (room_iff.2 (by omega)), chk_of (room_iff.2 (by omega)), chk_of (in64_of (by omega))]
    refine hx2.trans ?_
    rw [List.drop_eq_getElem_cons hlt, List.map_cons, List.append_assoc, List.singleton_append, List.singleton_append]
theorem ref_Lists : ∀ (k n : Nat) (l : List Int), l.length ≤ 12 → k ≤ 4 → 21000 + k < n → ev_ref01_Lists n l (k : Int) = some (chP k l) := by
  intro k
  induction k with
  | zero =>
    intro n l _ _ hn
    obtain ⟨n, rfl⟩ : ∃ n', n = n' + 1 := ⟨n - 1, by omega⟩
    rw [ev_ref01_Lists, cond_if, if_pos (by rfl)]; rfl
  | succ k ihk =>
    intro n l hl hk hn
    obtain ⟨n, rfl⟩ : ∃ n', n = n' + 1 := ⟨n - 1, by omega⟩
    rw [ev_ref01_Lists, cond_if, if_neg (by rw [beq_iff_eq]; omega)]
    have hP : 12 ^ (k + 1) ≤ 20736 := by
      have : 12 ^ (k + 1) ≤ 12 ^ 4 := Nat.pow_le_pow_right (by decide) hk
      omega
    have key : ∀ (d m i : Nat) (acc : List (List Int)), i + d = l.length → d < m → acc.length + (chS (chP k) (l.drop i)).length ≤ 1000000 → ev_ref01_Lists_l0 n ((k + 1 : Nat) : Int) (ev_ref01_Lists n) m (i : Int) l acc = some (acc ++ chS (chP k) (l.drop i)) := by
      intro d
      induction d with
      | zero =>
        intro m i acc hi hm _
        obtain ⟨m, rfl⟩ : ∃ m', m = m' + 1 := ⟨m - 1, by omega⟩
        rw [ev_ref01_Lists_l0, cond_if, if_neg (by simp; omega), List.drop_eq_nil_of_le (by omega), chS, List.append_nil]
      | succ d ih =>
        intro m i acc hi hm hacc
        obtain ⟨m, rfl⟩ : ∃ m', m = m' + 1 := ⟨m - 1, by omega⟩
        have hlt : i < l.length := by omega
        have e1 : (((k + 1 : Nat) : Int) - 1) = (k : Int) := by omega
        have e2 : List.drop ((i : Int)).toNat (List.take ((l.length : Int)).toNat l) = l.drop i := by rw [Int.toNat_natCast, Int.toNat_natCast, List.take_length]
        have hcons : l.drop i = l[i] :: l.drop (i + 1) := List.drop_eq_getElem_cons hlt
        have hS : chS (chP k) (l.drop i) = (chP k (l.drop i)).map (l[i] :: ·) ++ chS (chP k) (l.drop (i + 1)) := by rw [hcons, chS]
        rw [hS, List.length_append, List.length_map] at hacc
        have hkl : (chP k (l.drop i)).length ≤ 20736 := by
          have h1 := chP_len k (l.drop i)
          have h2 : (l.drop i).length ^ k ≤ 12 ^ k := Nat.pow_le_pow_left (by rw [List.length_drop]; omega) k
          have h3 : 12 ^ k ≤ 12 ^ 4 := Nat.pow_le_pow_right (by decide) (by omega)
          omega
        rw [ev_ref01_Lists_l0, cond_if, if_pos (decide_eq_true (by omega)), chk_of (by simp; omega), chk_of (in64_of (by omega)), e1, e2, bind_of (ihk n (l.drop i) (by rw [List.length_drop]; omega) (by omega) (by omega))]
        have hi1 := ref_L1 (n := n) (i := i) (l := l) (x := l[i]) (r := chP k (l.drop i)) (K := fun i3q l4q l5q => ev_ref01_Lists_l0 n ((k + 1 : Nat) : Int) (ev_ref01_Lists n) m i3q l4q l5q) (List.getElem?_eq_getElem hlt) (fun w hw => by have := (mem_chP k _ w hw).1; omega) (by omega) (by omega) (chP k (l.drop i)).length n 0 acc (by omega) (by omega) (by omega)
        refine hi1.trans ?_
        rw [List.drop_zero]
        refine (ih m (i + 1) _ (by omega) (by omega) (by rw [List.length_append, List.length_map]; omega)).trans ?_
        rw [hS, List.append_assoc]
    have h1 := chS_len k l 12 hl
    have h2 : l.length * 12 ^ k ≤ 12 * 12 ^ k := Nat.mul_le_mul_right _ hl
    have h3 : 12 * 12 ^ k = 12 ^ (k + 1) := by rw [Nat.pow_succ, Nat.mul_comm]
    have := key l.length n 0 [] (by omega) (by omega) (by rw [List.drop_zero, List.length_nil]; omega)
    rw [List.drop_zero, List.nil_append] at this
    exact this
theorem ref_Product {n : Nat} {l : List Int} (hn : 10 < n) (hl : l.length ≤ 4) (h : ∀ x ∈ l, 1 ≤ x ∧ x ≤ 400) : ev_ref01_Product n l = some (prodL l) := by
  have key : ∀ (d m i : Nat) (p : Int), i + d = l.length → d < m → 1 ≤ p ∧ p ≤ 400 ^ i → ev_ref01_Product_l0 n l m p (i : Int) = some (p * prodL (l.drop i)) := by
    intro d
    induction d with
    | zero =>
      intro m i p hi hm _
      obtain ⟨m, rfl⟩ : ∃ m', m = m' + 1 := ⟨m - 1, by omega⟩
      rw [ev_ref01_Product_l0, cond_if, if_neg (by simp; omega), List.drop_eq_nil_of_le (by omega), prodL, Int.mul_one]
    | succ d ih =>
      intro m i p hi hm hp
      obtain ⟨m, rfl⟩ : ∃ m', m = m' + 1 := ⟨m - 1, by omega⟩
      have hlt : i < l.length := by omega
      have hb := mul_bound hp (h _ (List.getElem_mem hlt))
      have h4 := pow5_le (i := i + 1) (by omega)
      have hs : (400 : Int) ^ (i + 1) = 400 ^ i * 400 := by rw [Int.pow_succ]
      rw [ev_ref01_Product_l0, cond_if, if_pos (decide_eq_true (by omega)), idx_nat (List.getElem?_eq_getElem hlt), chk_of (in64_of (by omega)), chk_of (in64_of (by omega))]
      refine (ih m (i + 1) _ (by omega) (by omega) (by omega)).trans ?_
      rw [List.drop_eq_getElem_cons hlt, prodL, Int.mul_assoc]
  have := key l.length n 0 1 (by omega) (by omega) (by simp)
  rw [List.drop_zero, Int.one_mul] at this
  exact this
theorem ref_T1 {n k i : Nat} {W P : List Int} {r : Int × Int} {w : List Int} {K : Int → Int → Int → List (List Int × List Int) → List (List Int) → List (List Int) → Option (List (List Int × List Int))} (hn : 200 < n) (hk : k ≤ 4) (hW : ∀ x ∈ W, 6 ≤ x ∧ x ≤ 400) (hP : ∀ x ∈ P, 6 ≤ x ∧ x ≤ 400)
    (hw : (chP k W)[i]? = some w) (hi : i ≤ 1000000) (hPl : (chP k P).length ≤ 1000000) : ∀ (d m j : Nat) (acc : List (List Int × List Int)), j + d = (chP k P).length → d < m → acc.length + d ≤ 1000000000 →
    ev_ref01_Trains_l1 n (i : Int) K m (j : Int) r.1 r.2 acc (chP k W) (chP k P) = K ((i + 1 : Nat) : Int) r.1 r.2 (acc ++ trW ((chP k P).drop j) r w) (chP k W) (chP k P) := by
  obtain ⟨w1, w2, w3⟩ := chP_prod hk hW (List.mem_of_getElem? hw)
  intro d
  induction d with
  | zero =>
    intro m j acc hj hm _
    obtain ⟨m, rfl⟩ : ∃ m', m = m' + 1 := ⟨m - 1, by omega⟩
    rw [ev_ref01_Trains_l1, cond_if, if_neg (by simp; omega), chk_of (in64_of (by omega)), List.drop_eq_nil_of_le (by omega)]
    simp [trW]
  | succ d ih =>
    intro m j acc hj hm hacc
    obtain ⟨m, rfl⟩ : ∃ m', m = m' + 1 := ⟨m - 1, by omega⟩
    have hlt : j < (chP k P).length := by omega
    obtain ⟨p1, p2, p3⟩ := chP_prod hk hP (List.getElem_mem hlt)
    rw [ev_ref01_Trains_l1, cond_if, if_pos (decide_eq_true (by omega)), idx_nat hw, bind_of (ref_Product (by omega) (by omega) w3), idx_nat (List.getElem?_eq_getElem hlt), bind_of (ref_Product (by omega) (by omega) p3), refLow_eq, bind_of (ev_lowest hn (by omega) (by omega)), cond_if]
    have hs : ∀ b, (lowP (prodL w) (prodL (chP k P)[j]) == r) = b → trW ((chP k P).drop j) r w = (if b = true then [(w, (chP k P)[j])] else []) ++ trW ((chP k P).drop (j + 1)) r w := by
      intro b hb
      unfold trW
      rw [List.drop_eq_getElem_cons hlt]
      cases b with
      | true => rw [List.filter_cons_of_pos (by simpa using hb)]; rfl
      | false => rw [List.filter_cons_of_neg (by simp [hb])]; rfl
    have eb : ((lowP (prodL w) (prodL (chP k P)[j])).1 == r.1 && (lowP (prodL w) (prodL (chP k P)[j])).2 == r.2) = (lowP (prodL w) (prodL (chP k P)[j]) == r) := rfl
    rw [eb]
    cases hb : (lowP (prodL w) (prodL (chP k P)[j]) == r) with
    | true =>
      have e1 : ([(w, (chP k P)[j])] : List (List Int × List Int)).length = 1 := rfl
      rw [if_pos rfl, chk_of (room_iff.2 (by omega)), chk_of (in64_of (by omega)), hs true hb]
      refine (ih m (j + 1) _ (by omega) (by omega) (by rw [List.length_append]; omega)).trans ?_
      rw [if_pos rfl, List.append_assoc]
    | false =>
      rw [if_neg (by decide), chk_of (in64_of (by omega)), hs false hb, if_neg (by decide), List.nil_append]
      exact ih m (j + 1) _ (by omega) (by omega) (by omega)
theorem ref_Trains {n k : Nat} {W P : List Int} {a b : Int} (hn : 30000 < n) (hk : k ≤ 4) (hW : OkCut W) (hP : OkCut P) (ha : 1 ≤ a ∧ a ≤ 1000000) (hb : 1 ≤ b ∧ b ≤ 1000000) : ev_ref01_Trains n W P a b (k : Int) = some (trP W P (lowP a b) k) := by
  have l1 := hW.len
  have l2 := hP.len
  have lenb : ∀ l : List Int, l.length ≤ 12 → (chP k l).length ≤ 20736 := fun l hl => by
    have h1 := chP_len k l
    have h2 : l.length ^ k ≤ 12 ^ k := Nat.pow_le_pow_left hl k
    have h3 : 12 ^ k ≤ 12 ^ 4 := Nat.pow_le_pow_right (by decide) hk
    omega
  have hWl := lenb W (by omega)
  have hPl := lenb P (by omega)
  have key : ∀ (d m i : Nat) (acc : List (List Int × List Int)), i + d = (chP k W).length → d < m → acc.length ≤ i * 20736 → ev_ref01_Trains_l0 n m (i : Int) (lowP a b).1 (lowP a b).2 acc (chP k W) (chP k P) = some (acc ++ ((chP k W).drop i).flatMap (trW (chP k P) (lowP a b))) := by
    intro d
    induction d with
    | zero =>
      intro m i acc hi hm _
      obtain ⟨m, rfl⟩ : ∃ m', m = m' + 1 := ⟨m - 1, by omega⟩
      rw [ev_ref01_Trains_l0, cond_if, if_neg (by simp; omega), List.drop_eq_nil_of_le (by omega)]
      simp
    | succ d ih =>
      intro m i acc hi hm hacc
      obtain ⟨m, rfl⟩ : ∃ m', m = m' + 1 := ⟨m - 1, by omega⟩
      have hlt : i < (chP k W).length := by omega
      rw [ev_ref01_Trains_l0, cond_if, if_pos (decide_eq_true (by omega))]
      have h1 := ref_T1 (n := n) (k := k) (i := i) (W := W) (P := P) (r := lowP a b) (w := (chP k W)[i]) (K := fun i9q i10q i11q l12q l13q l14q => ev_ref01_Trains_l0 n m i9q i10q i11q l12q l13q l14q) (by omega) hk hW.ok hP.ok (List.getElem?_eq_getElem hlt) (by omega) (by omega) (chP k P).length n 0 acc (by omega) (by omega) (by omega)
      refine h1.trans ?_
      rw [List.drop_zero]
      have hwl : (trW (chP k P) (lowP a b) (chP k W)[i]).length ≤ (chP k P).length := by
        unfold trW; rw [List.length_map]; exact List.length_filter_le _ _
      refine (ih m (i + 1) _ (by omega) (by omega) (by rw [List.length_append]; omega)).trans ?_
      rw [List.append_assoc, List.drop_eq_getElem_cons hlt, List.flatMap_cons]
  rw [ev_ref01_Trains, bind_of (ref_Lists k n W (by omega) hk (by omega)), bind_of (ref_Lists k n P (by omega) hk (by omega)), refLow_eq, bind_of (ev_lowest (by omega) (by omega) (by omega))]
  have := key (chP k W).length n 0 [] (by omega) (by omega) (by simp)
  rw [List.drop_zero, List.nil_append] at this
  exact this
theorem ref_Fewest {n : Nat} {W P : List Int} {a b : Int} (hn : 30000 < n) (hW : OkCut W) (hP : OkCut P) (ha : 1 ≤ a ∧ a ≤ 1000000) (hb : 1 ≤ b ∧ b ≤ 1000000) : ev_ref01_Fewest n W P a b = some (fewR W P (lowP a b) 4 1) := by
  have key : ∀ (d m k : Nat), k + d = 5 → d < m → ev_ref01_Fewest_l0 n W P a b m (k : Int) = some (fewR W P (lowP a b) d k) := by
    intro d
    induction d with
    | zero =>
      intro m k hk hm
      obtain ⟨m, rfl⟩ : ∃ m', m = m' + 1 := ⟨m - 1, by omega⟩
      rw [ev_ref01_Fewest_l0, cond_if, if_neg (by simp; omega)]; rfl
    | succ d ih =>
      intro m k hk hm
      obtain ⟨m, rfl⟩ : ∃ m', m = m' + 1 := ⟨m - 1, by omega⟩
      rw [ev_ref01_Fewest_l0, cond_if, if_pos (decide_eq_true (by omega)), bind_of (ref_Trains hn (by omega) hW hP ha hb), cond_if, fewR]
      by_cases h : 0 < (trP W P (lowP a b) k).length
      · rw [if_pos (decide_eq_true (by omega)), if_pos h]
      · rw [if_neg (fun e => h (by have := of_decide_eq_true e; omega)), if_neg h, chk_of (in64_of (by omega))]
        exact ih m (k + 1) (by omega) (by omega)
  exact key 4 n 1 (by omega) (by omega)
theorem law_large {n : Nat} {a b : List Int} : ev_law01_large n a b = some (decide ((5 < max a.length b.length ∧ max a.length b.length ≤ 12) ∨ 15 < max a.length b.length)) := by
  have e : max (a.length : Int) (b.length : Int) = ((max a.length b.length : Nat) : Int) := by omega
  rw [ev_law01_large, e, cond_if, cond_if]
  generalize max a.length b.length = m
  by_cases h1 : 5 < m
  · by_cases h2 : m ≤ 12
    · rw [if_pos (decide_eq_true (by omega)), if_pos (decide_eq_true (by omega))]; simp [h1, h2]
    · rw [if_pos (decide_eq_true (by omega)), if_neg (by simp; omega)]
      congr 1
      rw [decide_eq_decide]; omega
  · rw [if_neg (by simp; omega)]
    congr 1
    rw [decide_eq_decide]; omega
theorem ref_Equal {n : Nat} {a b : List Int} (ha : a.length < n) (hb : b.length < n) (ha2 : a.length ≤ 1000) (hb2 : b.length ≤ 1000) : ev_ref01_Equal n a b a b = some true := by
  rw [ev_ref01_Equal, bind_of (ref_Same ha (by omega)), cond_if, if_pos (by simp), bind_of (ref_Same hb (by omega))]; simp
/-- the error of a shop and a ratio -/
theorem chk_ok {W P : List Int} (h : chkS W P = 0) : OkCut W ∧ OkCut P := by
  unfold chkS at h
  have hle : ¬ (12 < W.length ∨ 12 < P.length) := fun h' => by rw [if_pos h'] at h; cases h
  rw [if_neg hle] at h
  have hcut : cutB W = true ∧ cutB P = true := Classical.byContradiction fun h' => by rw [if_neg h'] at h; cases h
  exact ⟨cutB_ok hcut.1 (by omega), cutB_ok hcut.2 (by omega)⟩
theorem chkS_vals (W P : List Int) : chkS W P = 0 ∨ chkS W P = 2 ∨ chkS W P = 5 := by
  unfold chkS; split
  · exact .inr (.inr rfl)
  · split
    · exact .inl rfl
    · exact .inr (.inl rfl)
end Go.Proofs.Ytabjhlfgcmmbfaa.Sy
