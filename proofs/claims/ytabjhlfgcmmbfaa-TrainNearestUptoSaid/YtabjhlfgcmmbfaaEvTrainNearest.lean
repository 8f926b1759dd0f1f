/- The nearest train of a shop. -/
import Derived.Test.YtabjhlfgcmmbfaaGTrainNearest
import Derived.Test.YtabjhlfgcmmbfaaEvWider
set_option linter.unusedSimpArgs false
set_option linter.unusedVariables false
namespace Go.Proofs.Ytabjhlfgcmmbfaa.Sy
open Go.RowKit
set_option maxRecDepth 100000

theorem frac_lt {a b c d e f : Int} (hb : 0 < b) (hd : 0 < d) (hf : 0 < f) (h1 : a * d < c * b) (h2 : c * f ≤ e * d) : a * f < e * b := by
  have k1 : a * d * f < c * b * f := Int.mul_lt_mul_of_pos_right h1 hf
  have k2 : c * f * b ≤ e * d * b := Int.mul_le_mul_of_nonneg_right h2 (by omega)
  have e1 : a * d * f = a * f * d := by rw [Int.mul_assoc, Int.mul_comm d f, ← Int.mul_assoc]
  have e2 : c * b * f = c * f * b := by rw [Int.mul_assoc, Int.mul_comm b f, ← Int.mul_assoc]
  have e3 : e * d * b = e * b * d := by rw [Int.mul_assoc, Int.mul_comm d b, ← Int.mul_assoc]
  refine Int.lt_of_mul_lt_mul_right (a := d) ?_ (by omega)
  omega
theorem frac_le {a b c d e f : Int} (hb : 0 < b) (hd : 0 < d) (hf : 0 < f) (h1 : a * d ≤ c * b) (h2 : c * f ≤ e * d) : a * f ≤ e * b := by
  have k1 : a * d * f ≤ c * b * f := Int.mul_le_mul_of_nonneg_right h1 (by omega)
  have k2 : c * f * b ≤ e * d * b := Int.mul_le_mul_of_nonneg_right h2 (by omega)
  have e1 : a * d * f = a * f * d := by rw [Int.mul_assoc, Int.mul_comm d f, ← Int.mul_assoc]
  have e2 : c * b * f = c * f * b := by rw [Int.mul_assoc, Int.mul_comm b f, ← Int.mul_assoc]
  have e3 : e * d * b = e * b * d := by rw [Int.mul_assoc, Int.mul_comm d b, ← Int.mul_assoc]
  refine Int.le_of_mul_le_mul_right (a := d) ?_ hd
  omega
/-- no farther -/
def leN (r : Int × Int) (y x : List Int × List Int) : Prop := farP r y.1 y.2 * prodL x.2 ≤ farP r x.1 x.2 * prodL y.2
theorem near_iff {r : Int × Int} {x y : List Int × List Int} : nearB r x y = true ↔ ¬ leN r y x := by
  unfold nearB leN; rw [decide_eq_true_eq]; omega
theorem leN_refl (r : Int × Int) (x : List Int × List Int) : leN r x x := Int.le_refl _
theorem leN_trans {W P : List Int} {r : Int × Int} {x y z : List Int × List Int} (hx : 0 < prodL x.2) (hy : 0 < prodL y.2) (hz : 0 < prodL z.2) (h1 : leN r x y) (h2 : leN r y z) : leN r x z := frac_le hx hy hz h1 h2
/-- the first that is nearest -/
structure FirstN (r : Int × Int) (L : List (List Int × List Int)) (z : List Int × List Int) : Prop where
  cut : ∃ L1 L2, L = L1 ++ z :: L2 ∧ ∀ x ∈ L1, ¬ leN r x z
  least : ∀ x ∈ L, leN r z x
theorem fold_first {W P : List Int} {r : Int × Int} : ∀ (L pre : List (List Int × List Int)) (y : List Int × List Int), (∀ x ∈ pre ++ L, Tr W P x) → FirstN r pre y → FirstN r (pre ++ L) (L.foldl (stepN r) y) := by
  intro L
  induction L with
  | nil => intro pre y _ h; rw [List.append_nil]; exact h
  | cons x L ih =>
    intro pre y hT h
    have e : pre ++ x :: L = (pre ++ [x]) ++ L := by simp
    rw [e] at hT ⊢
    rw [List.foldl_cons]
    refine ih (pre ++ [x]) (stepN r y x) hT ?_
    have hx := hT x (by simp)
    obtain ⟨L1, L2, hc, hL1⟩ := h.cut
    have hymem : y ∈ pre := by rw [hc]; simp
    have hy := hT y (by simp [hymem])
    have px := hx.small.2
    have py := hy.small.2
    have hyl := hy.len
    unfold stepN
    by_cases hn : nearB r x y = true
    · rw [if_pos (.inr hn)]
      have hn' := near_iff.1 hn
      refine ⟨⟨pre, [], rfl, fun u hu => ?_⟩, fun u hu => ?_⟩
      · intro hux
        have hU := hT u (by simp [hu])
        have pu := hU.small.2
        exact hn' (leN_trans (W := W) (P := P) (by omega) (by omega) (by omega) (h.least u hu) hux)
      · rcases List.mem_append.1 hu with hu | hu
        · have hU := hT u (by simp [hu])
          have pu := hU.small.2
          have h1 := h.least u hu
          have h2 : leN r x y := by unfold leN at hn' ⊢; omega
          exact leN_trans (W := W) (P := P) (by omega) (by omega) (by omega) h2 h1
        · rw [List.mem_singleton] at hu; subst hu; exact leN_refl r u
    · rw [if_neg (fun h => h.elim (fun h => by omega) hn)]
      refine ⟨⟨L1, L2 ++ [x], by rw [hc]; simp, hL1⟩, fun u hu => ?_⟩
      rcases List.mem_append.1 hu with hu | hu
      · exact h.least u hu
      · rw [List.mem_singleton] at hu; subst hu
        exact Classical.byContradiction fun h => hn (near_iff.2 h)
theorem near_first {W P : List Int} {r : Int × Int} {most : Nat} (hW : OkCut W) (hP : OkCut P) (hm : 1 ≤ most ∧ most ≤ 2) : FirstN r (allU W P most 1) (nearP W P r most) := by
  have hT : ∀ x ∈ allU W P most 1, Tr W P x := fun x hx => tr_of hW.ok hP.ok hm.2 hx
  unfold nearP
  obtain ⟨w0, W', rfl⟩ : ∃ w W', W = w :: W' := by
    have := hW.len.1
    cases W with
    | nil => simp at this
    | cons w W' => exact ⟨w, W', rfl⟩
  obtain ⟨p0, P', rfl⟩ : ∃ p P', P = p :: P' := by
    have := hP.len.1
    cases P with
    | nil => simp at this
    | cons p P' => exact ⟨p, P', rfl⟩
  have hne : allU (w0 :: W') (p0 :: P') most 1 ≠ [] := by
    have : (([w0], [p0]) : List Int × List Int) ∈ allU (w0 :: W') (p0 :: P') most 1 := by
      refine (mem_allU most 1).2 ⟨1, by omega, by omega, mem_allK.2 ⟨?_, ?_⟩⟩
      · exact (mem_chP_iff 1 _ hW.asc _).2 ⟨rfl, by simp, by simp⟩
      · exact (mem_chP_iff 1 _ hP.asc _).2 ⟨rfl, by simp, by simp⟩
    intro e; rw [e] at this; simp at this
  cases hL : allU (w0 :: W') (p0 :: P') most 1 with
  | nil => exact absurd hL hne
  | cons x L =>
    rw [hL] at hT
    rw [List.foldl_cons]
    have hs : stepN r ([], []) x = x := by unfold stepN; rw [if_pos (.inl rfl)]
    rw [hs]
    have := fold_first (W := w0 :: W') (P := p0 :: P') (r := r) L [x] x hT ⟨⟨[], [], rfl, by simp⟩, fun u hu => by rw [List.mem_singleton] at hu; subst hu; exact leN_refl r u⟩
    exact this
theorem FirstN.mem {r : Int × Int} {L : List (List Int × List Int)} {z : List Int × List Int} (h : FirstN r L z) : z ∈ L := by
  obtain ⟨L1, L2, hc, _⟩ := h.cut; rw [hc]; simp
theorem far_zero {r : Int × Int} (hr : Low r) {w p : List Int} (hw : 1 ≤ prodL w) (hp : 1 ≤ prodL p) : (farP r w p == 0) = (lowP (prodL w) (prodL p) == r) := by
  have hpos := hr.pos
  rw [Bool.eq_iff_iff, beq_iff_eq, beq_iff_eq]
  have hf : farP r w p = 0 ↔ prodL w * r.2 = prodL p * r.1 := by unfold farP; omega
  rw [hf]
  constructor
  · intro h
    rw [← lowP_scale (g := r.2) hpos.2 hw, Int.mul_comm r.2 (prodL w), h, Int.mul_comm r.2 (prodL p), lowP_scale hp hpos.1, hr.self]
  · intro h
    obtain ⟨e1, e2⟩ := lowP_mul (a := prodL w) (b := prodL p) hw
    rw [h] at e1 e2
    generalize ((Int.gcd (prodL w) (prodL p) : Nat) : Int) = g at e1 e2
    rw [← e1, ← e2, Int.mul_comm r.1 g, Int.mul_comm (g * r.1) r.2, Int.mul_assoc r.2]
theorem filter_allK {W P : List Int} {r : Int × Int} {k : Nat} (hr : Low r) (hW : ∀ x ∈ W, 6 ≤ x ∧ x ≤ 400) (hP : ∀ x ∈ P, 6 ≤ x ∧ x ≤ 400) (hk : k ≤ 4) : (allK W P k).filter (fun x => farP r x.1 x.2 == 0) = trP W P r k := by
  unfold allK trP
  rw [List.filter_flatMap]
  refine flatMap_congr' fun w hw => ?_
  unfold trW
  rw [List.filter_map]
  congr 1
  refine List.filter_congr fun p hp => ?_
  obtain ⟨a, _, _⟩ := chP_prod hk hW hw
  obtain ⟨b, _, _⟩ := chP_prod hk hP hp
  exact far_zero hr a.1 b.1
theorem filter_allU {W P : List Int} {r : Int × Int} (hr : Low r) (hW : ∀ x ∈ W, 6 ≤ x ∧ x ≤ 400) (hP : ∀ x ∈ P, 6 ≤ x ∧ x ≤ 400) {q : Nat} {x0 : List Int × List Int} {tl : List (List Int × List Int)} (hq : trP W P r q = x0 :: tl) : ∀ (d k : Nat), k + d ≤ 5 → k ≤ q → q < k + d → (∀ j, k ≤ j → j < q → trP W P r j = []) → ((allU W P d k).filter (fun x => farP r x.1 x.2 == 0)).head? = some x0 := by
  intro d
  induction d with
  | zero => intro k _ h1 h2; omega
  | succ d ih =>
    intro k hk h1 h2 h3
    rw [allU, List.filter_append, filter_allK hr hW hP (by omega)]
    by_cases hkq : k = q
    · subst hkq; rw [hq]; rfl
    · rw [h3 k (Nat.le_refl _) (by omega), List.nil_append]
      exact ih (k + 1) (by omega) (by omega) (by omega) fun j a b => h3 j (by omega) b
theorem exact_first {W P : List Int} {r : Int × Int} {most q : Nat} (hr : Low r) (hW : OkCut W) (hP : OkCut P) (hm : 1 ≤ most ∧ most ≤ 2) (hq : 1 ≤ q ∧ q ≤ most) {x0 : List Int × List Int} {tl : List (List Int × List Int)} (ht : trP W P r q = x0 :: tl) (hmin : ∀ j, 1 ≤ j → j < q → trP W P r j = []) : nearP W P r most = x0 := by
  have hF := near_first (r := r) hW hP hm
  have hh := filter_allU hr hW.ok hP.ok ht most 1 (by omega) hq.1 (by omega) hmin
  have hx0 : x0 ∈ allU W P most 1 := by
    have h1 : x0 ∈ trP W P r q := by rw [ht]; simp
    obtain ⟨a, b, _⟩ := mem_trP.1 h1
    exact (mem_allU most 1).2 ⟨q, hq.1, by omega, mem_allK.2 ⟨a, b⟩⟩
  have hT0 := tr_of hW.ok hP.ok hm.2 hx0
  have hTz := tr_of hW.ok hP.ok hm.2 hF.mem
  have f0 : farP r x0.1 x0.2 = 0 := by
    have h1 : x0 ∈ trP W P r q := by rw [ht]; simp
    have := far_zero hr (w := x0.1) (p := x0.2) hT0.small.1.1 hT0.small.2.1
    rw [(mem_trP.1 h1).2.2, beq_self_eq_true] at this
    exact beq_iff_eq.1 this
  have hle := hF.least x0 hx0
  unfold leN at hle
  rw [f0, Int.zero_mul] at hle
  have fz : farP r (nearP W P r most).1 (nearP W P r most).2 = 0 := by
    have h1 : 0 ≤ farP r (nearP W P r most).1 (nearP W P r most).2 := by unfold farP; omega
    have h2 := hT0.small.2
    rcases Int.lt_or_le 0 (farP r (nearP W P r most).1 (nearP W P r most).2) with h3 | h3
    · have := Int.mul_pos h3 (show 0 < prodL x0.2 by omega); omega
    · omega
  obtain ⟨L1, L2, hc, hL1⟩ := hF.cut
  rw [hc, List.filter_append, List.filter_cons_of_pos (by rw [fz]; rfl)] at hh
  have hnil : L1.filter (fun x => farP r x.1 x.2 == 0) = [] := by
    rw [List.filter_eq_nil_iff]
    intro u hu hz
    have hz := beq_iff_eq.1 hz
    apply hL1 u hu
    unfold leN
    rw [hz, fz]; omega
  rw [hnil, List.nil_append] at hh
  exact Option.some.inj hh
theorem law_far {n : Nat} (hn : 10 < n) {W P : List Int} {r : Int × Int} (hr : (1 ≤ r.1 ∧ r.1 ≤ 1000000) ∧ (1 ≤ r.2 ∧ r.2 ≤ 1000000)) {x : List Int × List Int} (hx : Tr W P x) : ev_law01_TrainNearest_1 n x.1 x.2 r.1 r.2 = some (farP r x.1 x.2, prodL x.2) := by
  have hl := hx.len
  obtain ⟨b1, b2⟩ := far_bound hr hx.small.1 hx.small.2
  rw [ev_law01_TrainNearest_1, bind_of (law_product hn (by omega) hx.ok1), chk_of (in64_of (by omega)), bind_of (law_product hn (by omega) hx.ok2), chk_of (in64_of (by omega)), chk_of (in64_of (by omega)), chk_of (in64_of (by omega)), bind_of (law_product hn (by omega) hx.ok2)]
  rfl
theorem nearest_j5 {n : Nat} {W P : List Int} {r : Int × Int} {most : Nat} {u y : List Int × List Int} {W' c1 c2 by_5 : List Int} {K : Int → List Int → Int → Int → Int → Int → List Int → List Int → List Int → List Int → Option Bool} (hn : 41000 < n) (hW : OkCut W) (hP : OkCut P) (hL : Low r) (hr : r.1 ≤ 1000000 ∧ r.2 ≤ 1000000) (hm : 1 ≤ most ∧ most ≤ 2) (hu : Tr W' P u) (hy : Tr W P y) (hle : leN r u y) (hye : y = nearP W P r most)
    (hK : K ((most : Int) + 1) by_5 r.1 r.2 (farP r y.1 y.2) (prodL y.2) c1 c2 W P = some true) :
    ev_law01_TrainNearest_j5 n (u.1, u.2, 0) r.1 r.2 (farP r y.1 y.2, prodL y.2) W P (most : Int) (y.1, y.2, 0) by_5 c1 c2 K = some true := by
  have hpos := hL.pos
  have l1 := hW.len
  have l2 := hP.len
  have hrr : (1 ≤ r.1 ∧ r.1 ≤ 1000000) ∧ (1 ≤ r.2 ∧ r.2 ≤ 1000000) := by omega
  have hyy : Tr W' P y := ⟨hy.small, hy.len, hy.ok1, hy.ok2⟩
  obtain ⟨_, _, b1, b2⟩ := near_bound hrr hu hyy
  obtain ⟨_, _, b3, b4⟩ := near_bound hrr hyy hu
  unfold leN at hle
  have hpow : P.length ^ 4 < n := by
    have : P.length ^ 4 ≤ 12 ^ 4 := Nat.pow_le_pow_left (by omega) 4
    omega
  have hF := ev_Fewest (n := n) (by omega) hW hP (a := r.1) (b := r.2) (by omega) (by omega) hpow
  rw [hL.self, few_eq hL hW.ok hP.ok 4 0 rfl, show (0 : Nat) + 1 = 1 from rfl] at hF
  have go : chk (in64 ((most : Int) + 1)) (K ((most : Int) + 1) by_5 r.1 r.2 (farP r y.1 y.2) (prodL y.2) c1 c2 W P) = some true := by rw [chk_of (in64_of (by omega)), hK]
  have hfar := law_far (n := n) (by omega) hrr hu
  rw [ev_law01_TrainNearest_j5]
  dsimp only
  rw [bind_of hfar, chk_of (in64_of (by simp only; omega)), chk_of (in64_of (by simp only; omega)), cond_if, if_neg (by simp; omega), bind_of (law_copied (by omega) (by omega))]
  dsimp only
  by_cases h0 : (fewR W P r 4 1).length = 0
  · rw [if_pos h0] at hF
    rw [bind_of hF, cond_if, if_neg (by decide)]
    exact go
  · rw [if_neg h0] at hF
    by_cases h2 : 2000 < (fewR W P r 4 1).length
    · rw [if_pos h2] at hF
      rw [bind_of hF, cond_if, if_neg (by decide)]
      exact go
    · rw [if_neg h2] at hF
      rcases fewR_spec (W := W) (P := P) (r := r) 4 1 rfl (by omega) with ⟨e, _⟩ | ⟨q, q1, q2, q3, q4, q5⟩
      · rw [e] at h0; exact absurd rfl h0
      · rw [q3] at hF
        obtain ⟨x0, tl, hx0⟩ : ∃ x0 tl, trP W P r q = x0 :: tl := by
          cases h : trP W P r q with
          | nil => rw [h] at q4; simp at q4
          | cons x tl => exact ⟨x, tl, rfl⟩
        have hlen := (mem_chP q _ _ (mem_trP.1 (show x0 ∈ trP W P r q by rw [hx0]; simp)).1).1
        rw [hx0] at hF
        rw [bind_of hF, cond_if, if_pos (by rfl), cond_if, if_pos (decide_eq_true (by simp only [List.length_cons]; omega)), idx_of (x := x0) (by decide) rfl, cond_if]
        by_cases hqm : q ≤ most
        · have he := exact_first hL hW hP hm ⟨q1, hqm⟩ hx0 q5
          rw [← hye] at he
          rw [if_pos (by simp; omega)]
          subst he
          have hyl := hy.len
          rw [bind_of (law_equal (by omega) (by omega) (by omega)), cond_if, if_neg (by simp)]
          exact go
        · rw [if_neg (by simp; omega)]
          exact go
theorem nearest_main {n : Nat} {W P c1 c2 by_5 : List Int} {r : Int × Int} (hn : 9000000 < n) (hW : OkCut W) (hP : OkCut P) (hL : Low r) (hr : r.1 ≤ 1000000 ∧ r.2 ≤ 1000000) (g3 : ∀ z ∈ by_5, 0 ≤ z ∧ z ≤ 255) (b2 : by_5.length ≤ 1048576)
    (hwi : ∃ W', ev_law01_wider n c1 by_5 30 8 = some W' ∧ OkCut W' ∧ W'.length ≤ 8 ∧ ∀ x ∈ W, x ∈ W') : ev_law01_TrainNearest_j0 n by_5 r.1 r.2 c1 c2 W P = some true := by
  have hpos := hL.pos
  have l1 := hW.len
  have l2 := hP.len
  have hrr : (1 ≤ r.1 ∧ r.1 ≤ 1000000) ∧ (1 ≤ r.2 ∧ r.2 ≤ 1000000) := by omega
  obtain ⟨W', hwe, hW', hW8, hsub⟩ := hwi
  have l1' := hW'.len
  have hK := knownN (n := n) (by omega)
  have hN : ∀ most : Nat, 1 ≤ most ∧ most ≤ 2 → ∀ V : List Int, OkCut V → ev_train_Near n V P r.1 r.2 (most : Int) = some ((nearP V P r most).1, (nearP V P r most).2, 0) := by
    intro most hm V hV
    have := ev_Near (n := n) (by omega) hV hP (a := r.1) (b := r.2) (by omega) (by omega) hm
    rw [hL.self] at this
    exact this
  -- one round
  have round : ∀ (most : Nat) (i23 i24 : Int) (m : Nat), 1 ≤ most ∧ most ≤ 2 → (i23 < 0 ∨ ∃ z ∈ allU W P most 1, i23 = farP r z.1 z.2 ∧ i24 = prodL z.2) →
      ev_law01_TrainNearest_l1 n m ((most : Int) + 1) by_5 r.1 r.2 (farP r (nearP W P r most).1 (nearP W P r most).2) (prodL (nearP W P r most).2) c1 c2 W P = some true →
      ev_law01_TrainNearest_l1 n (m + 1) (most : Int) by_5 r.1 r.2 i23 i24 c1 c2 W P = some true := by
    intro most i23 i24 m hm hlast hnext
    have hF := near_first (r := r) hW hP hm
    have hF' := near_first (r := r) hW' hP hm
    have hNy := hN most hm W hW
    have hNu := hN most hm W' hW'
    obtain ⟨y, hy⟩ : ∃ y, y = nearP W P r most := ⟨_, rfl⟩
    obtain ⟨u, hu⟩ : ∃ u, u = nearP W' P r most := ⟨_, rfl⟩
    rw [← hy] at hF hNy hnext
    rw [← hu] at hF' hNu
    have hTy := tr_of hW.ok hP.ok hm.2 hF.mem
    have hTu := tr_of hW'.ok hP.ok hm.2 hF'.mem
    obtain ⟨k, k1, k2, k3⟩ := (mem_allU most 1).1 hF.mem
    obtain ⟨k', k1', k2', k3'⟩ := (mem_allU most 1).1 hF'.mem
    obtain ⟨y1, y2⟩ := mem_allK.1 k3
    obtain ⟨u1, u2⟩ := mem_allK.1 k3'
    have yl := (mem_chP k _ _ y1).1
    have ul := (mem_chP k' _ _ u1).1
    have ul2 := (mem_chP k' _ _ u2).1
    have hyl := hTy.len
    have sm1 := hTy.small.1
    have sm2 := hTy.small.2
    have hfar := law_far (n := n) (by omega) hrr hTy
    have hle : leN r u y := hF'.least y ((mem_allU most 1).2 ⟨k, k1, k2, mem_allK.2 ⟨(mem_chP_iff k W' hW'.asc _).2 ⟨((mem_chP_iff k W hW.asc _).1 y1).1, ((mem_chP_iff k W hW.asc _).1 y1).2.1, fun x hx => hsub x (((mem_chP_iff k W hW.asc _).1 y1).2.2 x hx)⟩, y2⟩⟩)
    have l4 : ∀ (d q j : Nat), j + d = most + 1 → 1 ≤ j → d < q → ev_law01_TrainNearest_l4 n (most : Int) W P by_5 r.1 r.2 (farP r y.1 y.2, prodL y.2) c1 (y.1, y.2, 0) c2 (fun i19q l20q i21q i22q i23q i24q l25q l26q l27q l28q => ev_law01_TrainNearest_l1 n m i19q l20q i21q i22q i23q i24q l25q l26q l27q l28q) q (j : Int) = some true := by
      intro d
      induction d with
      | zero =>
        intro q j hj h1 hq
        obtain ⟨q, rfl⟩ : ∃ q', q = q' + 1 := ⟨q - 1, by omega⟩
        rw [ev_law01_TrainNearest_l4, cond_if, if_neg (by simp; omega), bind_of hwe, bind_of (law_copied (by omega) (by omega))]
        dsimp only
        rw [bind_of hNu, cond_if, if_neg (by simp), cond_if, if_neg (by simp; omega), cond_if, if_neg (by simp; omega), cond_if, if_neg (by simp; omega)]
        exact nearest_j5 (by omega) hW hP hL hr hm hTu hTy hle hy hnext
      | succ d ih =>
        intro q j hj h1 hq
        obtain ⟨q, rfl⟩ : ∃ q', q = q' + 1 := ⟨q - 1, by omega⟩
        have hpk : ((pkF W by_5 0 j, pkF P by_5 1 j) : List Int × List Int) ∈ allU W P most 1 := (mem_allU most 1).2 ⟨j, h1, by omega, mem_allK.2 ⟨pick_chP hW, pick_chP hP⟩⟩
        have hTp := tr_of hW.ok hP.ok hm.2 hpk
        have hlp := hF.least _ hpk
        unfold leN at hlp
        obtain ⟨_, _, b1, b2'⟩ := near_bound hrr hTp hTy
        obtain ⟨_, _, b3, b4⟩ := near_bound hrr hTy hTp
        have hfp := law_far (n := n) (by omega) hrr hTp
        rw [ev_law01_TrainNearest_l4, cond_if, if_pos (decide_eq_true (by omega)), bind_of (ev_picked (by omega) (by omega) (by omega) g3 (by omega) (by omega)), bind_of hfp]
        dsimp only at b1 b2' b3 b4 hlp ⊢
        rw [chk_of (in64_of (by omega)), chk_of (in64_of (by omega)), cond_if, if_neg (by simp; omega), chk_of (in64_of (by omega))]
        exact ih q (j + 1) (by omega) (by omega) (by omega)
    have j3 : ev_law01_TrainNearest_j3 n (most : Int) W P by_5 r.1 r.2 (farP r y.1 y.2, prodL y.2) c1 (y.1, y.2, 0) c2 (fun i19q l20q i21q i22q i23q i24q l25q l26q l27q l28q => ev_law01_TrainNearest_l1 n m i19q l20q i21q i22q i23q i24q l25q l26q l27q l28q) = some true := by
      rw [ev_law01_TrainNearest_j3]
      exact l4 most n 1 (by omega) (by omega) (by omega)
    have hof := law_of (n := n) (t := y) (r := lowP (prodL y.1) (prodL y.2)) (by omega) hW hP ⟨k1, by omega⟩ y1 y2 rfl
    have e1 : max (1 : Int) (prodL y.1) = prodL y.1 := by omega
    have e2 : max (1 : Int) (prodL y.2) = prodL y.2 := by omega
    rw [ev_law01_TrainNearest_l1, cond_if, if_pos (decide_eq_true (by omega)), bind_of (law_copied (by omega) (by omega))]
    dsimp only
    rw [bind_of hNy]
    dsimp only
    rw [bind_of (law_product (by omega) (by omega) hTy.ok1), bind_of (law_product (by omega) (by omega) hTy.ok2), e1, e2, bind_of (law_lowest (by omega) (by omega) (by omega)), cond_if, if_neg (by simp), cond_if, if_neg (by simp; omega), cond_if, if_neg (by simp; omega)]
    dsimp only
    rw [bind_of hof, cond_if, if_neg (by decide), ev_law01_TrainNearest_j2]
    dsimp only
    rw [bind_of hfar, cond_if]
    rcases hlast with h | ⟨z, hz, rfl, rfl⟩
    · rw [if_neg (by simp; omega)]
      exact j3
    · have hTz := tr_of hW.ok hP.ok hm.2 hz
      have hlz := hF.least z hz
      unfold leN at hlz
      obtain ⟨f0, _, b1, b2'⟩ := near_bound hrr hTz hTy
      obtain ⟨_, _, b3, b4⟩ := near_bound hrr hTy hTz
      rw [if_pos (decide_eq_true f0), chk_of (in64_of (by simp only; omega)), chk_of (in64_of (by simp only; omega)), cond_if, if_neg (by simp; omega)]
      exact j3
  obtain ⟨m, rfl⟩ : ∃ m, n = m + 3 := ⟨n - 3, by omega⟩
  rw [ev_law01_TrainNearest_j0]
  have last : ∀ a b, ev_law01_TrainNearest_l1 (m + 3) (m + 1) (((2 : Nat) : Int) + 1) by_5 r.1 r.2 a b c1 c2 W P = some true := fun a b => by
    rw [ev_law01_TrainNearest_l1, cond_if, if_neg (by decide), bind_of hK]
  have r2 := round 2 (farP r (nearP W P r 1).1 (nearP W P r 1).2) (prodL (nearP W P r 1).2) (m + 1) (by decide) (.inr ⟨nearP W P r 1, by
    obtain ⟨k, k1, k2, k3⟩ := (mem_allU 1 1).1 (near_first (r := r) hW hP (most := 1) (by decide)).mem
    exact (mem_allU 2 1).2 ⟨k, k1, by omega, k3⟩, rfl, rfl⟩) (last _ _)
  exact round 1 (-1) 1 (m + 2) (by decide) (.inl (by decide)) r2
theorem trainNearest_evx {c1 : List Int} {c2 : List Int} {want3 : Int} {want4 : Int} {by_5 : List Int} (h0 : (c1.length ≤ maxLen ∧ ∀ el5 ∈ c1, (Lit.int .u8 el5).wf = true) ∧ (c2.length ≤ maxLen ∧ ∀ el5 ∈ c2, (Lit.int .u8 el5).wf = true)) (h1 : (Lit.int .u16 want3).wf = true ∧ (Lit.int .u16 want4).wf = true) (h2 : (by_5.length ≤ maxLen ∧ ∀ el5 ∈ by_5, (Lit.int .u8 el5).wf = true)) (zc1 : c1.length ≤ 1048576) (zc2 : c2.length ≤ 1048576) (zby_5 : by_5.length ≤ 1048576) :
    ∃ n, ev_law01_TrainNearest n c1 c2 want3 want4 by_5 = some true := by
  obtain ⟨⟨l1, g1⟩, l2, g2⟩ := h0
  obtain ⟨l3, g3⟩ := h2
  have w16 : ∀ z : Int, (Lit.int .u16 z).wf = true → 0 ≤ z ∧ z ≤ 65535 := fun z h => by
    simpa only [Lit.wf, Bool.and_eq_true, decide_eq_true_eq, show IntKind.u16.min = 0 from rfl, show IntKind.u16.max = 65535 from rfl] using h
  have hw3 := w16 _ h1.1
  have hw4 := w16 _ h1.2
  refine ⟨10000000, ?_⟩
  have hnn : 10000000 > 9000000 := by decide
  have hsh := ev_shop (n := 10000000) (c1 := c1) (c2 := c2) (by omega) (by omega) (by omega) (u8_of g1) (u8_of g2)
  have hwi := ev_wider (n := 10000000) (c := c1) (more := by_5) (by decide) zc1 zby_5 (u8_of g1) (u8_of g3) (most := 8) (by decide)
  generalize 10000000 = n at hsh hnn hwi ⊢
  have hW := made_ok (c := c1) (lo := 30) (most := 6) (u8_of g1) (by decide) (by decide)
  have hP := made_ok (c := c2) (lo := 6) (most := 6) (u8_of g2) (by decide) (by decide)
  rw [show ((8 : Nat) : Int) = 8 from rfl] at hwi
  generalize mdF 6 (vals c1 30) [] = W at hsh hW hwi
  generalize mdF 6 (vals c2 6) [] = P at hsh hP
  have w1 := hW.len
  have p1 := hP.len
  have e2 : Int.tmod (by_5.length : Int) 2 = ((by_5.length % 2 : Nat) : Int) := by rw [Int.tmod_eq_emod_of_nonneg (by omega)]; rfl
  obtain ⟨pairs, hpe, hp3⟩ : ∃ pairs : Nat, 1 + Int.tmod (by_5.length : Int) 2 = (pairs : Int) ∧ 1 ≤ pairs ∧ pairs ≤ 2 := ⟨1 + by_5.length % 2, by rw [e2]; omega, by omega⟩
  rw [ev_law01_TrainNearest, bind_of hsh]
  dsimp only
  rw [chk_of (in64_of (by omega)), chk_of (in64_of (by omega)), chk_of (in64_of (by omega)), chk_of (in64_of (by omega)), bind_of (law_lowest (by omega) (by omega) (by omega)), cond_if]
  split
  · rw [hpe, chk_of (in64_of (by omega)), bind_of (ev_picked (by omega) (by omega) (by omega) (u8_of g3) (by omega) (by omega))]
    have ht1 := pick_chP (W := W) (by_ := by_5) (k := 0) (pairs := pairs) hW
    have ht2 := pick_chP (W := P) (by_ := by_5) (k := 1) (pairs := pairs) hP
    generalize pkF W by_5 0 pairs = a at ht1
    generalize pkF P by_5 1 pairs = b at ht2
    dsimp only
    obtain ⟨a1, a2, a3⟩ := chP_small (by omega) hW.ok ht1
    obtain ⟨b1, b2, b3⟩ := chP_small (by omega) hP.ok ht2
    obtain ⟨u1, u2, u3, u4⟩ := lowP_pos a1.1 b1.1
    rw [bind_of (law_product (by omega) (by omega) a3), bind_of (law_product (by omega) (by omega) b3), bind_of (law_lowest (by omega) (by omega) (by omega))]
    exact nearest_main (by omega) hW hP (low_Low a1.1 b1.1) (by omega) (u8_of g3) zby_5 hwi
  · obtain ⟨u1, u2, u3, u4⟩ := lowP_pos (a := 1 + want3) (b := 1 + want4) (by omega) (by omega)
    exact nearest_main (by omega) hW hP (low_Low (by omega) (by omega)) (by omega) (u8_of g3) zby_5 hwi
end Go.Proofs.Ytabjhlfgcmmbfaa.Sy
