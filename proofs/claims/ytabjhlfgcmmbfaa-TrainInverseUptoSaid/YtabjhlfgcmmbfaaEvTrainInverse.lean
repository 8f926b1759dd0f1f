/- The other way round: the trains of the inverse ratio are the same ones, exchanged; more cutters keep all trains. -/
import Derived.Test.YtabjhlfgcmmbfaaGTrainInverse
import Derived.Test.YtabjhlfgcmmbfaaEvWider
set_option linter.unusedSimpArgs false
set_option linter.unusedVariables false
namespace Go.Proofs.Ytabjhlfgcmmbfaa.Sy
open Go.RowKit
set_option maxRecDepth 100000

theorem chP1_len : ∀ l : List Int, (chP 1 l).length = l.length
  | [] => rfl
  | x :: l => by
    show (chS (chP 0) (x :: l)).length = _
    rw [chS, List.length_append, List.length_map]
    have : (chS (chP 0) l).length = l.length := chP1_len l
    rw [this]
    simp [chP]; omega
theorem chP2_len : ∀ l : List Int, 2 * (chP 2 l).length = l.length * (l.length + 1)
  | [] => rfl
  | x :: l => by
    show 2 * (chS (chP 1) (x :: l)).length = _
    rw [chS, List.length_append, List.length_map, chP1_len, Nat.mul_add]
    have : 2 * (chS (chP 1) l).length = l.length * (l.length + 1) := chP2_len l
    rw [this]
    simp only [List.length_cons]
    have e : (l.length + 1) * (l.length + 1 + 1) = l.length * (l.length + 1) + 2 * (l.length + 1) := by
      rw [Nat.mul_comm (l.length + 1) (l.length + 1 + 1), Nat.add_mul (l.length + 1) 1, Nat.add_mul l.length 1 (l.length + 1)]; omega
    omega
theorem chP_le {l : List Int} {k m : Nat} (hk : 1 ≤ k ∧ k ≤ 2) (hl : l.length ≤ m) : 2 * (chP k l).length ≤ m * (m + 1) ∨ (chP k l).length ≤ m := by
  have : k = 1 ∨ k = 2 := by omega
  rcases this with rfl | rfl
  · right; rw [chP1_len]; exact hl
  · left; rw [chP2_len]; exact Nat.mul_le_mul hl (by omega)
theorem flat_len_le {α β : Type} {f : α → List β} {b : Nat} : ∀ l : List α, (∀ x ∈ l, (f x).length ≤ b) → (l.flatMap f).length ≤ l.length * b
  | [], _ => by simp
  | x :: l, h => by
    rw [List.flatMap_cons, List.length_append, List.length_cons, Nat.succ_mul]
    have h1 := h x (by simp)
    have h2 := flat_len_le l fun y hy => h y (by simp [hy])
    omega
theorem trP_len {W P : List Int} {r : Int × Int} {k : Nat} : (trP W P r k).length ≤ (chP k W).length * (chP k P).length :=
  flat_len_le _ fun w _ => by unfold trW; rw [List.length_map]; exact List.length_filter_le _ _
theorem trP_small {W P : List Int} {r : Int × Int} {k : Nat} (hk : 1 ≤ k ∧ k ≤ 2) (hW : W.length ≤ 10) (hP : P.length ≤ 6) : (trP W P r k).length ≤ 2000 := by
  have h1 : (chP k W).length ≤ 55 := by rcases chP_le hk hW with h | h <;> omega
  have h2 : (chP k P).length ≤ 21 := by rcases chP_le hk hP with h | h <;> omega
  have h3 := Nat.mul_le_mul h1 h2
  have h4 := trP_len (W := W) (P := P) (r := r) (k := k)
  omega
theorem trP_small' {W P : List Int} {r : Int × Int} {k : Nat} (hk : 1 ≤ k ∧ k ≤ 2) (hW : W.length ≤ 6) (hP : P.length ≤ 6) : (trP W P r k).length ≤ 2000 := trP_small hk (by omega) hP
theorem swap_low {x y : Int} : lowP y x = ((lowP x y).2, (lowP x y).1) := by
  unfold lowP; rw [Int.gcd_comm y x]
theorem mem_swap {W P : List Int} {r : Int × Int} {k : Nat} {x : List Int × List Int} : x ∈ trP W P r k ↔ (x.2, x.1) ∈ trP P W (r.2, r.1) k := by
  rw [mem_trP, mem_trP]
  constructor
  · rintro ⟨h1, h2, h3⟩
    exact ⟨h2, h1, by rw [swap_low, h3]⟩
  · rintro ⟨h1, h2, h3⟩
    refine ⟨h2, h1, ?_⟩
    rw [swap_low] at h3
    obtain ⟨e1, e2⟩ := Prod.mk.inj h3
    exact Prod.ext e2 e1
theorem swap_len {W P : List Int} {r : Int × Int} {k : Nat} (hW : W.Pairwise (· < ·)) (hP : P.Pairwise (· < ·)) : (trP P W (r.2, r.1) k).length = (trP W P r k).length := by
  have n1 : ((trP W P r k).map fun x => (x.2, x.1)).Nodup := List.Pairwise.map _ (fun a b h e => h (Prod.ext (Prod.mk.inj e).2 (Prod.mk.inj e).1)) (nodup_trP hW hP)
  have p := (List.perm_ext_iff_of_nodup n1 (nodup_trP (r := (r.2, r.1)) (k := k) hP hW)).2 fun y => by
    rw [List.mem_map]
    constructor
    · rintro ⟨x, hx, rfl⟩; exact mem_swap.1 hx
    · intro hy; exact ⟨(y.2, y.1), mem_swap.2 hy, rfl⟩
  have := p.length_eq
  rw [List.length_map] at this
  exact this.symm
theorem wide_sub {W W' P : List Int} {r : Int × Int} {k : Nat} (hW : W.Pairwise (· < ·)) (hW' : W'.Pairwise (· < ·)) (hs : ∀ x ∈ W, x ∈ W') {x : List Int × List Int} (h : x ∈ trP W P r k) : x ∈ trP W' P r k := by
  rw [mem_trP] at h ⊢
  obtain ⟨h1, h2, h3⟩ := h
  rw [mem_chP_iff k W hW] at h1
  exact ⟨(mem_chP_iff k W' hW' _).2 ⟨h1.1, h1.2.1, fun z hz => hs z (h1.2.2 z hz)⟩, h2, h3⟩
/-- Fewest, where there is a train of few pairs -/
theorem few_at {n : Nat} (hn : 41000 < n) {W P : List Int} (hW : OkCut W) (hP : OkCut P) {r : Int × Int} (hL : Low r) (hr : r.1 ≤ 1000000 ∧ r.2 ≤ 1000000) {pairs : Nat} (hp : 1 ≤ pairs ∧ pairs ≤ 2) {t : List Int × List Int} (ht : t ∈ trP W P r pairs) (hlen : ∀ k, 1 ≤ k → k ≤ 2 → (trP W P r k).length ≤ 2000) :
    ∃ q, 1 ≤ q ∧ q ≤ pairs ∧ ev_train_Fewest n W P r.1 r.2 = some (trP W P r q, 0) ∧ 0 < (trP W P r q).length ∧ ∀ j, 1 ≤ j → j < q → trP W P r j = [] := by
  have hpos := hL.pos
  have l2 := hP.len
  have hpow : P.length ^ 4 < n := by
    have : P.length ^ 4 ≤ 12 ^ 4 := Nat.pow_le_pow_left (by omega) 4
    omega
  have hF := ev_Fewest (n := n) (by omega) hW hP (a := r.1) (b := r.2) (by omega) (by omega) hpow
  rw [hL.self, few_eq hL hW.ok hP.ok 4 0 rfl, show (0 : Nat) + 1 = 1 from rfl] at hF
  rcases fewR_spec (W := W) (P := P) (r := r) 4 1 rfl (by omega) with ⟨e, hq⟩ | ⟨q, q1, q2, q3, q4, q5⟩
  · rw [hq pairs (by omega) (by omega)] at ht; simp at ht
  · have hqp : q ≤ pairs := by
      rcases Nat.lt_or_ge pairs q with h | h
      · rw [q5 pairs (by omega) h] at ht; simp at ht
      · exact h
    have := hlen q q1 (by omega)
    rw [q3, if_neg (by omega), if_neg (by omega)] at hF
    exact ⟨q, q1, hqp, hF, q4, q5⟩
theorem inv_l3 {n : Nat} {A L : List (List Int × List Int)} {i : Nat} {K : Int → Option Bool} {x : List Int × List Int} (hn : 10000 < n) (hA : A.length ≤ 2000) (hi : L[i]? = some x) (hi2 : i ≤ 3000) (hx : x.1.length = x.2.length ∧ x.1.length ≤ 4) (hK : K ((i : Int) + 1) = some true) :
    ∀ (d m j : Nat) (b : Bool), j + d = A.length → d < m → (b = true ∨ ∃ q, j ≤ q ∧ A[q]? = some x) → ev_law01_TrainInverse_l3 n (A, 0) (L, 0) (i : Int) true K m b (j : Int) = some true := by
  intro d
  induction d with
  | zero =>
    intro m j b hj hm hb
    obtain ⟨m, rfl⟩ : ∃ m', m = m' + 1 := ⟨m - 1, by omega⟩
    have hb : b = true := hb.resolve_right fun ⟨q, h1, h2⟩ => by have := (List.getElem?_eq_some_iff.1 h2).1; omega
    rw [ev_law01_TrainInverse_l3, cond_if, if_neg (by simp; omega), cond_if, if_neg (by decide), cond_if, if_neg (by rw [hb]; decide), chk_of (in64_of (by omega)), hK]
  | succ d ih =>
    intro m j b hj hm hb
    obtain ⟨m, rfl⟩ : ∃ m', m = m' + 1 := ⟨m - 1, by omega⟩
    have hlt : j < A.length := by omega
    rw [ev_law01_TrainInverse_l3, cond_if, if_pos (decide_eq_true (by simp only; omega)), cond_if]
    cases b with
    | true => rw [if_pos rfl, chk_of (in64_of (by omega))]; exact ih m (j + 1) true (by omega) (by omega) (.inl rfl)
    | false =>
      obtain ⟨q, h1, h2⟩ := hb.resolve_left (by decide)
      rw [if_neg (by decide), idx_nat hi, idx_nat (List.getElem?_eq_getElem hlt), bind_of (law_equal (by omega) hx.1 hx.2), chk_of (in64_of (by omega))]
      refine ih m (j + 1) _ (by omega) (by omega) ?_
      by_cases hq : q = j
      · subst hq
        rw [List.getElem?_eq_getElem hlt] at h2
        left; rw [Option.some.inj h2]; simp
      · exact .inr ⟨q, by omega, h2⟩
theorem inv_l2 {n : Nat} {A L B : List (List Int × List Int)} {i : Nat} {K : Int → Option Bool} {x x24 x25 : List Int × List Int} (hn : 10000 < n) (hA : A.length ≤ 2000) (hB : B.length ≤ 2000) (hi : L[i]? = some x) (hi2 : i ≤ 3000) (hx : x.1.length = x.2.length ∧ x.1.length ≤ 4) (hK : K ((i : Int) + 1) = some true)
    (hkept : x24.1.length < x25.1.length ∨ x ∈ A) : ∀ (d m j : Nat) (b : Bool), j + d = B.length → d < m → (b = true ∨ ∃ q, j ≤ q ∧ B[q]? = some (x.2, x.1)) → ev_law01_TrainInverse_l2 n (B, 0) (L, 0) (i : Int) (A, 0) x24 x25 K m b (j : Int) = some true := by
  intro d
  induction d with
  | zero =>
    intro m j b hj hm hb
    obtain ⟨m, rfl⟩ : ∃ m', m = m' + 1 := ⟨m - 1, by omega⟩
    have hb : b = true := hb.resolve_right fun ⟨q, h1, h2⟩ => by have := (List.getElem?_eq_some_iff.1 h2).1; omega
    rw [ev_law01_TrainInverse_l2, cond_if, if_neg (by simp; omega), hb]
    refine inv_l3 hn hA hi hi2 hx hK A.length n 0 _ (by omega) (by omega) ?_
    rcases hkept with h | h
    · left; rw [decide_eq_true_eq]; omega
    · right
      obtain ⟨q, hq⟩ := List.mem_iff_getElem?.1 h
      exact ⟨q, by omega, hq⟩
  | succ d ih =>
    intro m j b hj hm hb
    obtain ⟨m, rfl⟩ : ∃ m', m = m' + 1 := ⟨m - 1, by omega⟩
    have hlt : j < B.length := by omega
    rw [ev_law01_TrainInverse_l2, cond_if, if_pos (decide_eq_true (by simp only; omega)), cond_if]
    cases b with
    | true => rw [if_pos rfl, chk_of (in64_of (by omega))]; exact ih m (j + 1) true (by omega) (by omega) (.inl rfl)
    | false =>
      obtain ⟨q, h1, h2⟩ := hb.resolve_left (by decide)
      rw [if_neg (by decide), idx_nat hi, idx_nat (List.getElem?_eq_getElem hlt), bind_of (law_equal (by omega) hx.1 hx.2), chk_of (in64_of (by omega))]
      refine ih m (j + 1) _ (by omega) (by omega) ?_
      by_cases hq : q = j
      · subst hq
        rw [List.getElem?_eq_getElem hlt] at h2
        left; rw [Option.some.inj h2]; simp
      · exact .inr ⟨q, by omega, h2⟩
theorem trainInverse_evx {c1 : List Int} {c2 : List Int} {by_3 : List Int} {more4 : List Int} (h0 : (c1.length ≤ maxLen ∧ ∀ el5 ∈ c1, (Lit.int .u8 el5).wf = true) ∧ (c2.length ≤ maxLen ∧ ∀ el5 ∈ c2, (Lit.int .u8 el5).wf = true)) (h1 : (by_3.length ≤ maxLen ∧ ∀ el5 ∈ by_3, (Lit.int .u8 el5).wf = true)) (h2 : (more4.length ≤ maxLen ∧ ∀ el5 ∈ more4, (Lit.int .u8 el5).wf = true)) (b0 : c1.length ≤ 1048576) (b1 : c2.length ≤ 1048576) (b2 : by_3.length ≤ 1048576) (b3 : more4.length ≤ 1048576) :
    ∃ n, ev_law01_TrainInverse n c1 c2 by_3 more4 = some true := by
  obtain ⟨⟨l1, g1⟩, l2, g2⟩ := h0
  obtain ⟨l3, g3⟩ := h1
  obtain ⟨l4, g4⟩ := h2
  refine ⟨10000000, ?_⟩
  have hnn : 10000000 > 9000000 := by decide
  have hsh := ev_shop (n := 10000000) (c1 := c1) (c2 := c2) (by omega) (by omega) (by omega) (u8_of g1) (u8_of g2)
  have hwi := ev_wider (n := 10000000) (c := c1) (more := more4) (by decide) b0 b3 (u8_of g1) (u8_of g4) (most := 10) (by decide)
  generalize 10000000 = n at hsh hnn hwi ⊢
  have hW := made_ok (c := c1) (lo := 30) (most := 6) (u8_of g1) (by decide) (by decide)
  have hP := made_ok (c := c2) (lo := 6) (most := 6) (u8_of g2) (by decide) (by decide)
  have hW6 : (mdF 6 (vals c1 30) []).length ≤ 6 := (mdF_ok (lo := 30) (most := 6) _ [] (vals_ok (u8_of g1)) ⟨by simp, .nil, by simp⟩).len
  have hP6 : (mdF 6 (vals c2 6) []).length ≤ 6 := (mdF_ok (lo := 6) (most := 6) _ [] (vals_ok (u8_of g2)) ⟨by simp, .nil, by simp⟩).len
  obtain ⟨W', hwe, hW', hW10, hsub⟩ := hwi
  generalize mdF 6 (vals c1 30) [] = W at hsh hW hW6 hsub
  generalize mdF 6 (vals c2 6) [] = P at hsh hP hP6
  rw [show ((10 : Nat) : Int) = 10 from rfl] at hwe
  have w1 := hW.len
  have p1 := hP.len
  obtain ⟨pairs, hpe, hp3⟩ : ∃ pairs : Nat, 1 + Int.tmod (by_3.length : Int) 2 = (pairs : Int) ∧ 1 ≤ pairs ∧ pairs ≤ 2 := by
    have e : Int.tmod (by_3.length : Int) 2 = ((by_3.length % 2 : Nat) : Int) := by rw [Int.tmod_eq_emod_of_nonneg (by omega)]; rfl
    exact ⟨1 + by_3.length % 2, by rw [e]; omega, by omega⟩
  have hK := knownN (n := n) (by omega)
  rw [ev_law01_TrainInverse, bind_of hsh, hpe]
  dsimp only
  rw [chk_of (in64_of (by omega)), bind_of (ev_picked (by omega) (by omega) (by omega) (u8_of g3) (by omega) (by omega))]
  have ht1 := pick_chP (W := W) (by_ := by_3) (k := 0) (pairs := pairs) hW
  have ht2 := pick_chP (W := P) (by_ := by_3) (k := 1) (pairs := pairs) hP
  generalize pkF W by_3 0 pairs = a at ht1
  generalize pkF P by_3 1 pairs = b at ht2
  dsimp only
  obtain ⟨a1, a2, a3⟩ := chP_prod (by omega) hW.ok ht1
  obtain ⟨b1, b2, b3⟩ := chP_prod (by omega) hP.ok ht2
  rw [bind_of (law_product (by omega) (by omega) a3), bind_of (law_product (by omega) (by omega) b3), bind_of (law_lowest (by omega) (by omega) (by omega)), cond_if]
  dsimp only
  have hL := low_Low a1.1 b1.1
  by_cases hok : (decide ((lowP (prodL a) (prodL b)).1 ≤ 1000000) && decide ((lowP (prodL a) (prodL b)).2 ≤ 1000000)) = true
  · rw [if_neg (by rw [hok]; decide)]
    simp only [Bool.and_eq_true, decide_eq_true_eq] at hok
    generalize hr : lowP (prodL a) (prodL b) = r at hL hok ⊢
    have htr : ((a, b) : List Int × List Int) ∈ trP W P r pairs := mem_trP.2 ⟨ht1, ht2, hr⟩
    have hL2 : Low (r.2, r.1) := ⟨⟨hL.pos.2, hL.pos.1⟩, by rw [Int.gcd_comm]; exact hL.one⟩
    obtain ⟨q, q1, q2, qF, q4, q5⟩ := few_at (n := n) (by omega) hW hP hL hok hp3 htr fun k h1 h2 => trP_small' ⟨h1, h2⟩ hW6 hP6
    obtain ⟨q', q1', q2', qF', q4', q5'⟩ := few_at (n := n) (by omega) hP hW hL2 ⟨hok.2, hok.1⟩ hp3 (mem_swap.1 htr) fun k h1 h2 => trP_small' ⟨h1, h2⟩ hP6 hW6
    obtain ⟨e, e1, e2, eF, e4, e5⟩ := few_at (n := n) (by omega) hW' hP hL hok hp3 (wide_sub hW.asc hW'.asc hsub htr) fun k h1 h2 => trP_small ⟨h1, h2⟩ hW10 hP6
    have hqq : q' = q := by
      rcases Nat.lt_trichotomy q' q with h | h | h
      · have h1 := swap_len (r := r) (k := q') hW.asc hP.asc
        rw [q5 q' q1' h] at h1
        simp only [List.length_nil] at h1; omega
      · exact h
      · have h1 := swap_len (r := r) (k := q) hW.asc hP.asc
        rw [q5' q q1 h] at h1
        simp only [List.length_nil] at h1; omega
    subst hqq
    have heq : e ≤ q' := by
      rcases Nat.lt_or_ge q' e with h | h
      · exfalso
        obtain ⟨x, hx⟩ := List.exists_mem_of_length_pos q4
        have := wide_sub hW.asc hW'.asc hsub hx
        rw [e5 q' q1 h] at this
        simp at this
      · exact h
    have sl := swap_len (r := r) (k := q') hW.asc hP.asc
    have nl := trP_small' (W := W) (P := P) (r := r) (k := q') ⟨q1, by omega⟩ hW6 hP6
    have nl2 := trP_small (W := W') (P := P) (r := r) (k := e) ⟨e1, by omega⟩ hW10 hP6
    rw [bind_of (law_copied (by omega) (by omega))]
    dsimp only
    rw [bind_of qF, chk_of (room_iff.2 (by simp; omega)), chk_of (room_iff.2 (by simp; omega)), List.nil_append, List.nil_append]
    dsimp only at qF'
    have w1' := hW'.len
    rw [bind_of qF', bind_of hwe, bind_of (law_copied (by omega) (by omega))]
    dsimp only
    rw [bind_of eF, cond_if, if_neg (by simp), cond_if, if_neg (by simp), cond_if, if_neg (by simp), cond_if, if_neg (by rw [sl]; simp), cond_if, if_neg (by rw [beq_iff_eq]; first | omega | (simp only; omega)), cond_if, if_neg (by rw [beq_iff_eq]; first | omega | (simp only; omega))]
    dsimp only
    have hmem : ∀ x ∈ trP W P r q', x.1.length = q' ∧ x.2.length = q' := fun x hx => ⟨(mem_chP q' _ _ (mem_trP.1 hx).1).1, (mem_chP q' _ _ (mem_trP.1 hx).2.1).1⟩
    have hmemA : ∀ x ∈ trP W' P r e, x.1.length = e := fun x hx => (mem_chP e _ _ (mem_trP.1 hx).1).1
    have hback : ∀ x ∈ trP W P r q', (x.2, x.1) ∈ trP P W (r.2, r.1) q' := fun x hx => mem_swap.1 hx
    have hkeep : ∀ x ∈ trP W P r q', q' = e → x ∈ trP W' P r e := fun x hx h => h ▸ wide_sub hW.asc hW'.asc hsub hx
    generalize hLe : trP W P r q' = L at q4 nl hmem hback hkeep sl
    generalize hAe : trP W' P r e = A at e4 nl2 hmemA hkeep
    generalize trP P W (r.2, r.1) q' = B at hback sl
    obtain ⟨x0, hx0⟩ : ∃ x, L[0]? = some x := ⟨L[0], List.getElem?_eq_getElem q4⟩
    obtain ⟨y0, hy0⟩ : ∃ y, A[0]? = some y := ⟨A[0], List.getElem?_eq_getElem e4⟩
    have hx0l := hmem x0 (List.mem_of_getElem? hx0)
    have hy0l := hmemA y0 (List.mem_of_getElem? hy0)
    rw [idx_of (by decide) (show A[((0 : Int)).toNat]? = some y0 from hy0), idx_of (by decide) (show L[((0 : Int)).toNat]? = some x0 from hx0), cond_if, if_neg (by simp; omega), ev_law01_TrainInverse_j0]
    have key : ∀ (d m i : Nat), i + d = L.length → d < m → ev_law01_TrainInverse_l1 n (L, 0) (A, 0) (B, 0) m (i : Int) = some true := by
      intro d
      induction d with
      | zero =>
        intro m i hi hm
        obtain ⟨m, rfl⟩ : ∃ m', m = m' + 1 := ⟨m - 1, by omega⟩
        rw [ev_law01_TrainInverse_l1, cond_if, if_neg (by simp; omega), bind_of hK]
      | succ d ih =>
        intro m i hi hm
        obtain ⟨m, rfl⟩ : ∃ m', m = m' + 1 := ⟨m - 1, by omega⟩
        have hlt : i < L.length := by omega
        have hxl := hmem _ (List.getElem_mem hlt)
        rw [ev_law01_TrainInverse_l1, cond_if, if_pos (decide_eq_true (by simp only; omega)), idx_of (by decide) (show A[((0 : Int)).toNat]? = some y0 from hy0), idx_of (by decide) (show L[((0 : Int)).toNat]? = some x0 from hx0)]
        refine inv_l2 (by omega) nl2 (by omega) (List.getElem?_eq_getElem hlt) (by omega) (by omega) (ih m (i + 1) (by omega) (by omega)) ?_ B.length n 0 false (by omega) (by omega) (.inr ?_)
        · by_cases h : q' = e
          · exact .inr (hkeep _ (List.getElem_mem hlt) h)
          · left; omega
        · obtain ⟨j, hj⟩ := List.mem_iff_getElem?.1 (hback _ (List.getElem_mem hlt))
          exact ⟨j, by omega, hj⟩
    exact key L.length n 0 (by omega) (by omega)
  · have hok' : (decide ((lowP (prodL a) (prodL b)).1 ≤ 1000000) && decide ((lowP (prodL a) (prodL b)).2 ≤ 1000000)) = false := by simpa using hok
    rw [if_pos (by rw [hok']; decide), bind_of hK]
end Go.Proofs.Ytabjhlfgcmmbfaa.Sy
