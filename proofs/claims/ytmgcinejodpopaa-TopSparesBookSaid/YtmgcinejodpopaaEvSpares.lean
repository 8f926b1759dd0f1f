/- How many spares are bought, in plain terms. -/
import Derived.Test.YtmgcinejodpopaaGPart
import Derived.Test.YtmgcinejodpopaaSpPart
import Derived.Test.YtmgcinejodpopaaEvL
set_option linter.unusedSimpArgs false
set_option linter.unusedVariables false
namespace Go.Proofs.Ytmgcinejodpopaa.Sy
open Go.RowKit
set_option maxRecDepth 100000

abbrev PC := Int × Int × Int
def PCOk (c : PC) : Prop := (0 ≤ c.1 ∧ c.1 ≤ 1000) ∧ (0 ≤ c.2.1 ∧ c.2.1 ≤ c.2.2 ∧ c.2.2 ≤ 200)
/-- how many replacements there can be before a year -/
def mostP (life year : Int) (c : PC) : Int := c.1 * max 0 (Int.tdiv (min year c.2.2 - 1 - c.2.1) life)
def beforeP (life year : Int) (l : List PC) : Int := (l.map (mostP life year)).sum
theorem tdiv_range {a b : Int} (hb : 1 ≤ b) (ha : -1000 ≤ a ∧ a ≤ 1000) : -1000 ≤ Int.tdiv a b ∧ Int.tdiv a b ≤ 1000 := by
  have h1 : (Int.tdiv a b).natAbs ≤ a.natAbs := by rw [Int.natAbs_tdiv]; exact Nat.div_le_self _ _
  omega
theorem mostP_range {life year : Int} (hl : 1 ≤ life) (hy : 0 ≤ year ∧ year ≤ 201) {c : PC} (hc : PCOk c) : 0 ≤ mostP life year c ∧ mostP life year c ≤ 1000000 := by
  obtain ⟨⟨a1, a2⟩, b1, b2, b3⟩ := hc
  have := tdiv_range (a := min year c.2.2 - 1 - c.2.1) hl (by omega)
  refine ⟨Int.mul_nonneg a1 (by omega), ?_⟩
  have h2 : c.1 * max 0 (Int.tdiv (min year c.2.2 - 1 - c.2.1) life) ≤ 1000 * 1000 := Int.mul_le_mul a2 (by omega) (by omega) (by omega)
  simpa [mostP] using h2
theorem ev_most {n : Nat} {life year : Int} (hl : 1 ≤ life) (hy : 0 ≤ year ∧ year ≤ 201) {c : PC} (hc : PCOk c) : ev_part_contract_most n c.1 c.2.1 c.2.2 year life = some (mostP life year c) := by
  have hr := mostP_range hl hy hc
  obtain ⟨⟨a1, a2⟩, b1, b2, b3⟩ := hc
  have := tdiv_range (a := min year c.2.2 - 1 - c.2.1) hl (by omega)
  rw [mostP] at hr
  rw [ev_part_contract_most, chk_of (in64_of (by omega)), chk_of (in64_of (by omega)), chk_of (by simp; omega), chk_of (in64_of (by omega)), chk_of (in64_of (by omega))]
  rfl
theorem beforeP_range {life year : Int} (hl : 1 ≤ life) (hy : 0 ≤ year ∧ year ≤ 201) {l : List PC} (hc : ∀ c ∈ l, PCOk c) : 0 ≤ beforeP life year l ∧ beforeP life year l ≤ 1000000 * (l.length : Int) := by
  induction l with
  | nil => simp [beforeP]
  | cons c l ih =>
    have h1 := ih fun x hx => hc x (List.mem_cons_of_mem _ hx)
    have h2 := mostP_range hl hy (hc c List.mem_cons_self)
    simp only [beforeP, List.map_cons, List.sum_cons, List.length_cons] at h1 ⊢
    omega
theorem tdiv_mono {a b d : Int} (hd : 1 ≤ d) (h : a ≤ b) : max 0 (Int.tdiv a d) ≤ max 0 (Int.tdiv b d) := by
  by_cases ha : 0 ≤ a
  · rw [Int.tdiv_eq_ediv_of_nonneg ha, Int.tdiv_eq_ediv_of_nonneg (by omega)]
    have := Int.ediv_le_ediv (show 0 < d by omega) h
    omega
  · have : Int.tdiv a d ≤ 0 := by
      have := Int.tdiv_nonneg (a := -a) (b := d) (by omega) (by omega)
      rw [Int.neg_tdiv] at this
      omega
    omega
theorem mostP_mono {life y z : Int} (hl : 1 ≤ life) (h : y ≤ z) {c : PC} (hc : PCOk c) : mostP life y c ≤ mostP life z c :=
  Int.mul_le_mul_of_nonneg_left (tdiv_mono hl (by omega)) hc.1.1
theorem beforeP_mono {life y z : Int} (hl : 1 ≤ life) (h : y ≤ z) {l : List PC} (hc : ∀ c ∈ l, PCOk c) : beforeP life y l ≤ beforeP life z l := by
  induction l with
  | nil => simp [beforeP]
  | cons c l ih =>
    have h1 := ih fun x hx => hc x (List.mem_cons_of_mem _ hx)
    have h2 := mostP_mono hl h (hc c List.mem_cons_self)
    simp only [beforeP, List.map_cons, List.sum_cons] at h1 ⊢
    omega
theorem ev_before {n : Nat} {life life2 year : Int} (hl : 1 ≤ life) (hy : 0 ≤ year ∧ year ≤ 201) {l : List PC} (hc : ∀ c ∈ l, PCOk c) (hlen : l.length ≤ 50) (hn : 50 < n) : ev_part_Spares_2 n year l life life2 = some (beforeP life year l) := by
  have key : ∀ (k m i : Nat) (s : Int), i + k = l.length → k < m → (0 ≤ s ∧ s ≤ 1000000 * (i : Int)) → ev_part_Spares_2_l0 n l year m s (i : Int) life life2 l = some (s + beforeP life year (l.drop i)) := by
    intro k
    induction k with
    | zero =>
      intro m i s hi hm hs
      cases m with
      | zero => omega
      | succ m => rw [ev_part_Spares_2_l0, cond_if, if_neg (by simp; omega), List.drop_eq_nil_of_le (by omega)]; simp [beforeP]
    | succ k ih =>
      intro m i s hi hm hs
      cases m with
      | zero => omega
      | succ m =>
        have hlt : i < l.length := by omega
        have hok := hc _ (List.getElem_mem hlt)
        have hr := mostP_range hl hy hok
        rw [ev_part_Spares_2_l0, cond_if, if_pos (by simp; omega), idx_nat (List.getElem?_eq_getElem hlt), bind_of (ev_most hl hy hok), chk_of (in64_of (by omega)), chk_of (in64_of (by omega))]
        have := ih m (i + 1) (s + mostP life year l[i]) (by omega) (by omega) (by omega)
        rw [List.drop_eq_getElem_cons hlt]
        have e : s + beforeP life year (l[i] :: l.drop (i + 1)) = s + mostP life year l[i] + beforeP life year (l.drop (i + 1)) := by simp only [beforeP, List.map_cons, List.sum_cons]; omega
        rw [e, ← this]
        congr 1
  have := key l.length n 0 0 (by omega) (by omega) (by omega)
  rw [ev_part_Spares_2]
  simpa using this
/-- what is bought at each order -/
def buysP (life : Int) (l : List PC) : Int → List Int → List Int
  | _, [] => []
  | b, y :: ys => (beforeP life y l - b) :: buysP life l (beforeP life y l) ys
theorem buysP_length (life : Int) (l : List PC) : ∀ (ys : List Int) (b : Int), (buysP life l b ys).length = ys.length := by
  intro ys
  induction ys with
  | nil => intro b; rfl
  | cons y ys ih => intro b; simp [buysP, ih]
theorem ev_buys {n : Nat} {life life2 : Int} (hl : 1 ≤ life) {l : List PC} (hc : ∀ c ∈ l, PCOk c) (hlen : l.length ≤ 50) (hn : 60 < n) {r : List Int} (hr : r.length ≤ 50) (hys : ∀ y ∈ r, 0 ≤ y ∧ y ≤ 201) : ∀ (k m i : Nat) (b : Int) (out : List Int), i + k = r.length + 1 → k < m → out.length = i → (0 ≤ b ∧ b ≤ 50000000) →
    ev_part_Spares_l1 n r m out b (i : Int) life life2 (r ++ [201]) l = some (out ++ buysP life l b ((r ++ [201]).drop i), 0) := by
  intro k
  induction k with
  | zero =>
    intro m i b out hi hm ho hb
    cases m with
    | zero => omega
    | succ m => rw [ev_part_Spares_l1, cond_if, if_neg (by simp; omega), List.drop_eq_nil_of_le (by simp; omega)]; simp [buysP]
  | succ k ih =>
    intro m i b out hi hm ho hb
    cases m with
    | zero => omega
    | succ m =>
      have hlt : i < (r ++ [(201 : Int)]).length := by simp; omega
      have hy : 0 ≤ (r ++ [(201 : Int)])[i] ∧ (r ++ [(201 : Int)])[i] ≤ 201 := by
        rcases List.mem_append.1 (List.getElem_mem hlt) with h | h
        · exact hys _ h
        · rw [List.mem_singleton] at h; omega
      have hr1 := beforeP_range hl hy hc
      rw [ev_part_Spares_l1, cond_if, if_pos (by simp; omega), idx_nat (List.getElem?_eq_getElem hlt), bind_of (ev_before hl hy hc hlen (by omega)), chk_of (in64_of (by omega)), chk_of (room_iff.2 (by simp; omega)), chk_of (in64_of (by omega))]
      have := ih m (i + 1) (beforeP life (r ++ [201])[i] l) (out ++ [beforeP life (r ++ [201])[i] l - b]) (by omega) (by omega) (by simp; omega) (by omega)
      rw [List.drop_eq_getElem_cons hlt, buysP]
      rw [List.append_assoc, List.singleton_append] at this
      rw [← this]
      congr 1
theorem buysP_sum (life : Int) (l : List PC) : ∀ (ys : List Int) (b y : Int), (buysP life l b (ys ++ [y])).sum = beforeP life y l - b := by
  intro ys
  induction ys with
  | nil => intro b y; simp [buysP]
  | cons z ys ih => intro b y; simp only [List.cons_append, buysP, List.sum_cons, ih]; omega
theorem buysP_nonneg {life : Int} (hl : 1 ≤ life) {l : List PC} (hc : ∀ c ∈ l, PCOk c) : ∀ (ys : List Int) (b y0 : Int), b ≤ beforeP life y0 l → (y0 :: ys).Pairwise (· < ·) → ∀ x ∈ buysP life l b ys, 0 ≤ x := by
  intro ys
  induction ys with
  | nil => intro b y0 _ _ x hx; cases hx
  | cons y ys ih =>
    intro b y0 hb hp x hx
    rw [List.pairwise_cons] at hp
    have hy := hp.1 y List.mem_cons_self
    have h1 : b ≤ beforeP life y l := Int.le_trans hb (beforeP_mono hl (by omega) hc)
    rcases List.mem_cons.1 hx with rfl | hx
    · omega
    · exact ih _ y (Int.le_refl _) hp.2 x hx
theorem ev_areOrders {n : Nat} {l : List Int} (h0 : 0 < l.length) (hlen : l.length ≤ 50) (hn : 60 < n) (hp : l.Pairwise (· < ·)) (hr : ∀ y ∈ l, 0 ≤ y ∧ y ≤ 200) : ev_part_areOrders n l = some true := by
  have key : ∀ (k m i : Nat), i + k = l.length → k < m → ev_part_areOrders_l0 n l m (i : Int) = some true := by
    intro k
    induction k with
    | zero =>
      intro m i hi hm
      cases m with
      | zero => omega
      | succ m =>
        rw [ev_part_areOrders_l0, cond_if, if_neg (by simp; omega), cond_if, if_pos (by simp; omega), bind_of (wi_part (by omega) (by omega))]
        congr 1
        simp only [List.all_eq_true, Bool.and_eq_true, decide_eq_true_eq]
        exact hr
    | succ k ih =>
      intro m i hi hm
      cases m with
      | zero => omega
      | succ m =>
        have hlt : i < l.length := by omega
        rw [ev_part_areOrders_l0, cond_if, if_pos (by simp; omega), idx_nat (List.getElem?_eq_getElem hlt), cond_if]
        have hnext := ih m (i + 1) (by omega) (by omega)
        have hstep : chk (in64 ((i : Int) + 1)) (ev_part_areOrders_l0 n l m ((i : Int) + 1)) = some true := by
          rw [chk_of (in64_of (by omega)), ← hnext]; congr 1
        by_cases hi0 : 0 < i
        · have hlt2 : i - 1 < l.length := by omega
          have hlt3 : l[i - 1] < l[i] := List.pairwise_iff_getElem.1 hp (i - 1) i hlt2 hlt (by omega)
          rw [if_pos (by simp; omega), chk_of (in64_of (by omega)), idx_of (x := l[i - 1]) (by omega) (by rw [show ((i : Int) - 1).toNat = i - 1 by omega, List.getElem?_eq_getElem hlt2]), cond_if, if_neg (by simp; omega)]
          exact hstep
        · rw [if_neg (by simp; omega)]; exact hstep
  have := key l.length n 0 (by omega) (by omega)
  rw [ev_part_areOrders]; exact this
theorem ev_Spares {n : Nat} {life life2 : Int} (hl : 1 ≤ life ∧ life ≤ life2 ∧ life2 ≤ 200) {l : List PC} (hc : ∀ c ∈ l, PCOk c) (hlen : l.length ≤ 50) (hn : 60 < n) {y : Int} {ys : List Int} (hys : (y :: ys).length ≤ 50) (hp : (y :: ys).Pairwise (· < ·)) (hr : ∀ z ∈ y :: ys, 0 ≤ z ∧ z ≤ 200) (hz : beforeP life y l = 0) :
    ev_part_Spares n life life2 l (y :: ys) = some (buysP life l 0 (ys ++ [201]), 0) := by
  have hsp : ev_part_isSpan n life life2 1 200 = some true := by
    rw [ev_part_isSpan, bind_of (wi2_part (by omega)), cond_if, if_pos (by simp; omega)]; congr 1; simp; omega
  have hv : ∀ c ∈ l, ev_part_Spares_1 n c.1 c.2.1 c.2.2 = some false := by
    intro c hcl
    obtain ⟨⟨a1, a2⟩, b1, b2, b3⟩ := hc c hcl
    have : ev_part_contract_isValid n c.1 c.2.1 c.2.2 = some true := by
      rw [ev_part_contract_isValid, bind_of (wi1_part (by omega)), cond_if, if_pos (by simp; omega), bind_of (wi2_part (by omega)), cond_if, if_pos (by simp; omega)]; congr 1; simp; omega
    rw [ev_part_Spares_1, bind_of this]; rfl
  have hcf := cf_Lapi_PartContract_api_PartContract (n := n) (s := l) (f := fun a => ev_part_Spares_1 n a.1 a.2.1 a.2.2) (g := fun _ => false) hv (by omega) (by omega)
  have hcf' : ev_slices_ContainsFunc_Lapi_PartContract_api_PartContract n l (fun a => ev_part_Spares_1 n a.1 a.2.1 a.2.2) = some false := by rw [hcf]; congr 1; simp
  have hysl : ys.length < 50 := by simp only [List.length_cons] at hys; omega
  have htake : List.drop (1 : Int).toNat (List.take ((((y :: ys).length : Int) : Int).toNat) (y :: ys)) = ys := by
    rw [List.take_of_length_le (by simp)]; rfl
  have hclone : ev_slices_Clone_Lint_int n ys = some ys := by
    rw [ev_slices_Clone_Lint_int, chk_of (room_iff.2 (by simp; omega))]; simp
  rw [ev_part_Spares, bind_of hsp, cond_if, if_neg (by simp), cond_if, if_neg (by simp; omega), ev_part_Spares_j0, cond_if, if_neg (by simp; omega), bind_of hcf', cond_if, if_neg (by simp), bind_of (ev_areOrders (by simp) hys hn hp hr), cond_if, if_neg (by simp), idx_of (x := y) (by omega) (by rfl),
    bind_of (ev_before hl.1 (by have := hr y List.mem_cons_self; omega) hc hlen (by omega)), hz, cond_if, if_neg (by simp), chk_of (by simp; omega), htake, bind_of hclone, chk_of (room_iff.2 (by simp; omega))]
  have := ev_buys (n := n) (life2 := life2) hl.1 hc hlen hn (r := ys) (by omega) (fun z hz => by have := hr z (List.mem_cons_of_mem _ hz); omega) (ys.length + 1) n 0 0 [] (by omega) (by omega) rfl (by omega)
  simpa using this
end Go.Proofs.Ytmgcinejodpopaa.Sy
