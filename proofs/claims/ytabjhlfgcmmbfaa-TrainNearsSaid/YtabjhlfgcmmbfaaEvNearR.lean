/- The nearest train: the reference. -/
import Derived.Test.YtabjhlfgcmmbfaaEvLists
import Derived.Test.YtabjhlfgcmmbfaaEvNear
set_option linter.unusedSimpArgs false
set_option linter.unusedVariables false
namespace Go.Proofs.Ytabjhlfgcmmbfaa.Sy
open Go.RowKit
set_option maxRecDepth 100000

theorem ref_Off {n : Nat} (hn : 10 < n) {W P : List Int} {r : Int × Int} (hr : (1 ≤ r.1 ∧ r.1 ≤ 1000000) ∧ (1 ≤ r.2 ∧ r.2 ≤ 1000000)) {x : List Int × List Int} (hx : Tr W P x) : ev_ref01_Off n x.1 x.2 r.1 r.2 = some (farP r x.1 x.2, prodL x.2 * r.2) := by
  have hl := hx.len
  obtain ⟨b1, b2⟩ := far_bound hr hx.small.1 hx.small.2
  have b3 := mul_bound hx.small.2 hr.2
  rw [ev_ref01_Off, bind_of (ref_Product hn (by omega) hx.ok1), chk_of (in64_of (by omega)), bind_of (ref_Product hn (by omega) hx.ok2), chk_of (in64_of (by omega)), chk_of (in64_of (by omega)), chk_of (in64_of (by omega)), bind_of (ref_Product hn (by omega) hx.ok2), chk_of (in64_of (by omega))]
  rfl
theorem ref_Nearer {n : Nat} (hn : 10 < n) {W P : List Int} {r : Int × Int} (hr : (1 ≤ r.1 ∧ r.1 ≤ 1000000) ∧ (1 ≤ r.2 ∧ r.2 ≤ 1000000)) {x y : List Int × List Int} (hx : Tr W P x) (hy : Tr W P y) : ev_ref01_Nearer n x.1 x.2 y.1 y.2 r.1 r.2 = some (nearB r x y) := by
  have hxl := hx.len
  have hyl := hy.len
  obtain ⟨_, _, b1, b2⟩ := near_bound hr hx hy
  obtain ⟨_, _, b3, b4⟩ := near_bound hr hy hx
  rw [ev_ref01_Nearer, bind_of (ref_Off hn hr hx), bind_of (ref_Off hn hr hy), bind_of (ref_Product hn (by omega) hy.ok2)]
  dsimp only
  rw [chk_of (in64_of (by omega)), bind_of (ref_Product hn (by omega) hx.ok2), chk_of (in64_of (by omega))]
  rfl
theorem ref_N2 {n k i : Nat} {W P : List Int} {r : Int × Int} (hr : (1 ≤ r.1 ∧ r.1 ≤ 1000000) ∧ (1 ≤ r.2 ∧ r.2 ≤ 1000000)) {w : List Int} {K : Int → Int → Int → List (List Int) → List (List Int) → List Int → List Int → List Int → List Int → List Int → List Int → Option (List Int × List Int)} (hn : 200 < n) (hT : ∀ x ∈ allK W P k, Tr W P x)
    (hw : (chP k W)[i]? = some w) (hi : i ≤ 1000000) (hPl : (chP k P).length ≤ 1000000) : ∀ (d m j : Nat) (y : List Int × List Int), j + d = (chP k P).length → d < m → (y = ([], []) ∨ Tr W P y) →
    ev_ref01_Near_l2 n (i : Int) K m (j : Int) r.1 r.2 (chP k W) (chP k P) W P [] [] y.1 y.2 =
      K ((i + 1 : Nat) : Int) r.1 r.2 (chP k W) (chP k P) W P [] [] (((((chP k P).drop j).map fun p => (w, p)).foldl (stepN r) y).1) (((((chP k P).drop j).map fun p => (w, p)).foldl (stepN r) y).2) := by
  intro d
  induction d with
  | zero =>
    intro m j y hj hm _
    obtain ⟨m, rfl⟩ : ∃ m', m = m' + 1 := ⟨m - 1, by omega⟩
    rw [ev_ref01_Near_l2, cond_if, if_neg (by simp; omega), chk_of (in64_of (by omega)), List.drop_eq_nil_of_le (by omega)]
    rfl
  | succ d ih =>
    intro m j y hj hm hy
    obtain ⟨m, rfl⟩ : ∃ m', m = m' + 1 := ⟨m - 1, by omega⟩
    have hlt : j < (chP k P).length := by omega
    have hx : Tr W P (w, (chP k P)[j]) := hT _ (mem_allK.2 ⟨List.mem_of_getElem? hw, List.getElem_mem hlt⟩)
    rw [ev_ref01_Near_l2, cond_if, if_pos (decide_eq_true (by omega)), idx_nat hw, idx_nat (List.getElem?_eq_getElem hlt), cond_if, List.drop_eq_getElem_cons hlt, List.map_cons, List.foldl_cons]
    have go : ∀ z, (z = ([], []) ∨ Tr W P z) → chk (in64 ((j : Int) + 1)) (ev_ref01_Near_l2 n (i : Int) K m ((j : Int) + 1) r.1 r.2 (chP k W) (chP k P) W P [] [] z.1 z.2) = K ((i + 1 : Nat) : Int) r.1 r.2 (chP k W) (chP k P) W P [] [] (((((chP k P).drop (j + 1)).map fun p => (w, p)).foldl (stepN r) z).1) (((((chP k P).drop (j + 1)).map fun p => (w, p)).foldl (stepN r) z).2) := by
      intro z hz
      rw [chk_of (in64_of (by omega))]
      exact ih m (j + 1) z (by omega) (by omega) hz
    by_cases hy0 : y.1.length = 0
    · rw [if_pos (by rw [hy0]; rfl), show stepN r y (w, (chP k P)[j]) = (w, (chP k P)[j]) by unfold stepN; rw [if_pos (.inl hy0)]]
      exact go (w, (chP k P)[j]) (.inr hx)
    · have hyT : Tr W P y := hy.resolve_left fun e => hy0 (by rw [e]; rfl)
      have hN := ref_Nearer (n := n) (by omega) hr hx hyT
      dsimp only at hN
      rw [if_neg (by rw [beq_iff_eq]; omega), bind_of hN, cond_if]
      cases hb : nearB r (w, (chP k P)[j]) y with
      | true =>
        rw [if_pos rfl, show stepN r y (w, (chP k P)[j]) = (w, (chP k P)[j]) by unfold stepN; rw [if_pos (.inr hb)]]
        exact go (w, (chP k P)[j]) (.inr hx)
      | false =>
        rw [if_neg (by decide), show stepN r y (w, (chP k P)[j]) = y by unfold stepN; rw [if_neg (by rw [hb]; simp [hy0])]]
        exact go y hy
theorem ref_N1 {n k : Nat} {W P : List Int} {r : Int × Int} (hr : (1 ≤ r.1 ∧ r.1 ≤ 1000000) ∧ (1 ≤ r.2 ∧ r.2 ≤ 1000000)) {K : Int → Int → Int → List Int → List Int → List Int → List Int → List Int → List Int → Option (List Int × List Int)} (hn : 30000 < n) (hT : ∀ x ∈ allK W P k, Tr W P x) (hk : k ≤ 2)
    (hWl : (chP k W).length ≤ 20736) (hPl : (chP k P).length ≤ 20736) : ∀ (d m i : Nat) (y : List Int × List Int), i + d = (chP k W).length → d < m → (y = ([], []) ∨ Tr W P y) →
    ev_ref01_Near_l1 n (k : Int) K m (i : Int) r.1 r.2 (chP k W) (chP k P) W P [] [] y.1 y.2 =
      K ((k + 1 : Nat) : Int) r.1 r.2 [] [] (((((chP k W).drop i).flatMap fun w => (chP k P).map fun p => (w, p)).foldl (stepN r) y).1) (((((chP k W).drop i).flatMap fun w => (chP k P).map fun p => (w, p)).foldl (stepN r) y).2) W P := by
  intro d
  induction d with
  | zero =>
    intro m i y hi hm _
    obtain ⟨m, rfl⟩ : ∃ m', m = m' + 1 := ⟨m - 1, by omega⟩
    rw [ev_ref01_Near_l1, cond_if, if_neg (by simp; omega), chk_of (in64_of (by omega)), List.drop_eq_nil_of_le (by omega)]
    rfl
  | succ d ih =>
    intro m i y hi hm hy
    obtain ⟨m, rfl⟩ : ∃ m', m = m' + 1 := ⟨m - 1, by omega⟩
    have hlt : i < (chP k W).length := by omega
    rw [ev_ref01_Near_l1, cond_if, if_pos (decide_eq_true (by omega))]
    have h2 := ref_N2 (n := n) (k := k) (i := i) (W := W) (P := P) hr (w := (chP k W)[i]) (K := fun i18q i19q i20q l21q l22q l23q l24q l25q l26q l27q l28q => ev_ref01_Near_l1 n (k : Int) K m i18q i19q i20q l21q l22q l23q l24q l25q l26q l27q l28q) (by omega) hT (List.getElem?_eq_getElem hlt) (by omega) (by omega) (chP k P).length n 0 y (by omega) (by omega) hy
    refine h2.trans ?_
    rw [List.drop_zero]
    have hnext := near_tr (W := W) (P := P) (r := r) ((chP k P).map fun p => ((chP k W)[i], p)) y (fun x hx => by
      obtain ⟨p, hp, rfl⟩ := List.mem_map.1 hx
      exact hT _ (mem_allK.2 ⟨List.getElem_mem hlt, hp⟩)) hy
    refine (ih m (i + 1) _ (by omega) (by omega) hnext).trans ?_
    rw [List.drop_eq_getElem_cons hlt, List.flatMap_cons, List.foldl_append]
theorem ref_Near {n : Nat} (hn : 30000 < n) {W P : List Int} (hW : OkCut W) (hP : OkCut P) {a b : Int} (ha : 1 ≤ a ∧ a ≤ 1000000) (hb : 1 ≤ b ∧ b ≤ 1000000) {most : Nat} (h1 : 1 ≤ most ∧ most ≤ 2) : ev_ref01_Near n W P a b (most : Int) = some (nearP W P (lowP a b) most) := by
  obtain ⟨q1, q2, q3, q4⟩ := lowP_pos ha.1 hb.1
  have l1 := hW.len
  have l2 := hP.len
  have hr : (1 ≤ (lowP a b).1 ∧ (lowP a b).1 ≤ 1000000) ∧ (1 ≤ (lowP a b).2 ∧ (lowP a b).2 ≤ 1000000) := by omega
  have key : ∀ (d m k : Nat) (y : List Int × List Int), k + d = most + 1 → 1 ≤ k → d < m → (y = ([], []) ∨ Tr W P y) → ev_ref01_Near_l0 n (most : Int) m (k : Int) (lowP a b).1 (lowP a b).2 [] [] y.1 y.2 W P = some ((allU W P d k).foldl (stepN (lowP a b)) y) := by
    intro d
    induction d with
    | zero =>
      intro m k y hk _ hm _
      obtain ⟨m, rfl⟩ : ∃ m', m = m' + 1 := ⟨m - 1, by omega⟩
      rw [ev_ref01_Near_l0, cond_if, if_neg (by simp; omega)]; rfl
    | succ d ih =>
      intro m k y hk hk1 hm hy
      obtain ⟨m, rfl⟩ : ∃ m', m = m' + 1 := ⟨m - 1, by omega⟩
      have lenb : ∀ l : List Int, l.length ≤ 12 → (chP k l).length ≤ 20736 := fun l hl => by
        have h1 := chP_len k l
        have h2 : l.length ^ k ≤ 12 ^ k := Nat.pow_le_pow_left hl k
        have h3 : 12 ^ k ≤ 12 ^ 4 := Nat.pow_le_pow_right (by decide) (by omega)
        omega
      have hT : ∀ x ∈ allK W P k, Tr W P x := fun x hx => tr_of hW.ok hP.ok h1.2 ((mem_allU most 1).2 ⟨k, hk1, by omega, hx⟩)
      rw [ev_ref01_Near_l0, cond_if, if_pos (decide_eq_true (by omega)), bind_of (ref_Lists k n W (by omega) (by omega) (by omega)), bind_of (ref_Lists k n P (by omega) (by omega) (by omega))]
      have h2 := ref_N1 (n := n) (k := k) (W := W) (P := P) hr (K := fun i7q i8q i9q l10q l11q l12q l13q l14q l15q => ev_ref01_Near_l0 n (most : Int) m i7q i8q i9q l10q l11q l12q l13q l14q l15q) hn hT (by omega) (lenb W (by omega)) (lenb P (by omega)) (chP k W).length n 0 y (by omega) (by have := lenb W (by omega); omega) hy
      refine h2.trans ?_
      rw [List.drop_zero]
      refine (ih m (k + 1) _ (by omega) (by omega) (by omega) (near_tr (allK W P k) y hT hy)).trans ?_
      rw [allU, List.foldl_append]
  rw [ev_ref01_Near, refLow_eq, bind_of (ev_lowest (by omega) (by omega) (by omega))]
  exact key most n 1 ([], []) (by omega) (by omega) (by omega) (.inl rfl)
end Go.Proofs.Ytabjhlfgcmmbfaa.Sy
