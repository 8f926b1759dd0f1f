/- Spares on cards. -/
import Derived.Test.YtmgcinejodpopaaGTopSparesBook
import Derived.Test.YtmgcinejodpopaaEvAcc
import Derived.Test.YtmgcinejodpopaaEvSpares
set_option linter.unusedSimpArgs false
set_option linter.unusedVariables false
namespace Go.Proofs.Ytmgcinejodpopaa.Sy
open Go.RowKit
set_option maxRecDepth 100000

theorem pubParts_ev : ev_top_pubParts 2200 = some true := by decide +kernel
theorem pubBookS_ev : ev_top_pubBook 2200 = some true := by decide +kernel
/-- as many replacements as years from y on, each 'low' behind the one before, ahead of 'to' -/
def reps (low to y : Int) : Int := max 0 ((to - 1 - y) / low + 1)
theorem reps_step {low to y : Int} (hl : 1 ≤ low) (h : y < to) : reps low to y = 1 + reps low to (y + low) := by
  have h1 : (to - 1 - y) / low = (to - 1 - (y + low)) / low + 1 := by
    rw [show to - 1 - y = (to - 1 - (y + low)) + 1 * low by omega, Int.add_mul_ediv_right _ _ (by omega)]
  have h2 : 0 ≤ (to - 1 - y) / low := Int.ediv_nonneg (by omega) (by omega)
  unfold reps; omega
theorem reps_none {low to y : Int} (hl : 1 ≤ low) (h : to ≤ y) : reps low to y = 0 := by
  have h2 : (to - 1 - y) / low < 0 := Int.ediv_neg_of_neg_of_pos (by omega) (by omega)
  unfold reps; omega
theorem reps_nonneg (low to y : Int) : 0 ≤ reps low to y := by unfold reps; omega
theorem reps_most {low fr to : Int} (hl : 1 ≤ low) (h : fr ≤ to) (h2 : to ≤ 201) {cl : Int} : mostP low 201 (cl, fr, to) = cl * reps low to (fr + low) := by
  unfold mostP reps
  congr 1
  simp only
  rw [Int.min_eq_right h2]
  have h1 : (to - 1 - fr) / low = (to - 1 - (fr + low)) / low + 1 := by
    rw [show to - 1 - fr = (to - 1 - (fr + low)) + 1 * low by omega, Int.add_mul_ediv_right _ _ (by omega)]
  by_cases h3 : fr < to
  · rw [Int.tdiv_eq_ediv_of_nonneg (by omega), h1]
  · rw [show to - 1 - fr = -1 by omega, show to - 1 - (fr + low) = -1 - low by omega]
    have e : Int.tdiv (-1) low ≤ 0 := by
      have := Int.tdiv_nonneg (a := 1) (b := low) (by omega) (by omega)
      rw [show (-1 : Int) = -(1) by rfl, Int.neg_tdiv]; omega
    have e2 : (-1 - low) / low < 0 := Int.ediv_neg_of_neg_of_pos (by omega) (by omega)
    omega
theorem ev_Spares_l1 {n : Nat} {x39 x40 x38 : Int × Int × Int} {v17 : Int} {i20 i21 i22 i23 i24 i25 i26 i27 i28 i29 i30 i31 i32 i33 i34 i35 i36 : Int} {l37 : List (Int × Int × Int)} {k : Int → Int → Int → Int → Int → Int → Int → Int → Int → Int → Int → Int → Int → Int → Int → Int → Int → Int → (List (Int × Int × Int)) → Option Bool}
    {low fr to : Int} (hlow : 1 + Int.tmod v17 20 = low) (hl : 1 ≤ low ∧ low ≤ 100) (hfr : Int.tmod x39.2.1 60 = fr) (hto : Int.tmod x39.2.1 60 + Int.tmod x40.2.2 100 = to) (hr : 0 ≤ to ∧ to ≤ 201) (hcl : 0 ≤ x38.1 ∧ x38.1 ≤ 1000) (hi : 0 ≤ i20 ∧ i20 ≤ 4) :
    ∀ (m : Nat) (w y : Int), (to - y).toNat < m → 0 ≤ y → y ≤ 400 → 0 ≤ w → w + 1000 * (to - y).toNat ≤ 1000000 →
      ev_top_TopSparesBook_l1 n x39 x40 x38 v17 i20 i21 i22 i23 i24 i25 i26 i27 i28 i29 i30 i31 i32 i33 i34 i35 i36 l37 k m w y = k (w + x38.1 * reps low to y) (i20 + 1) i21 i22 i23 i24 i25 i26 i27 i28 i29 i30 i31 i32 i33 i34 i35 i36 (l37 ++ [(x38.1, fr, to)]) := by
  intro m
  induction m with
  | zero => intro w y h; omega
  | succ m ih =>
    intro w y h h0 h400 hw hw2
    rw [ev_top_TopSparesBook_l1, hlow, hto, hfr, cond_if]
    by_cases hy : y < to
    · rw [if_pos (by simpa using hy), chk_of (in64_of (by omega)), chk_of (in64_of (by omega)), ih _ _ (by omega) (by omega) (by omega) (by omega) (by omega), reps_step hl.1 hy, Int.mul_add, Int.mul_one]
      congr 1; omega
    · rw [if_neg (by simpa using hy), chk_of (in64_of (by omega)), reps_none hl.1 (by omega)]; simp
theorem reps_le {low to y : Int} (hl : 1 ≤ low) (hy : 0 ≤ y) (ht : 0 ≤ to) : reps low to y ≤ to := by
  unfold reps
  by_cases h : y < to
  · have := Int.ediv_le_self (a := to - 1 - y) low (by omega)
    omega
  · have h2 : (to - 1 - y) / low < 0 := Int.ediv_neg_of_neg_of_pos (by omega) (by omega)
    omega
/-- one contract -/
theorem ev_Spares_l0 {n : Nat} (hn : 2000 < n) {v17 v18 : Int} {low : Int} (hlow : 1 + Int.tmod v17 20 = low) (hl : 1 ≤ low ∧ low ≤ 100) {i21 i22 i23 i24 i25 i26 i27 i28 i29 i30 i31 i32 i33 i34 i35 i36 : Int} {l37 : List PC} (hlen : l37.length ≤ 4) (m : Nat) {w : Int} (j : Nat) (hj : j < 4) {c f t : Int}
    (hx : ([(i21, i22, i23), (i24, i25, i26), (i27, i28, i29), (i30, i31, i32)] : List (Int × Int × Int))[j]? = some (c, f, t)) (hc : 0 ≤ c ∧ c ≤ 255) (hf : 0 ≤ f ∧ f ≤ 255) (ht : 0 ≤ t ∧ t ≤ 255) (hw : 0 ≤ w ∧ w ≤ 500000) :
    ev_top_TopSparesBook_l0 n v17 v18 (m + 1) w (j : Int) i21 i22 i23 i24 i25 i26 i27 i28 i29 i30 i31 i32 i33 i34 i35 i36 l37 =
    ev_top_TopSparesBook_l0 n v17 v18 m (w + c * reps low (f % 60 + t % 100) (f % 60 + low)) ((j : Int) + 1) i21 i22 i23 i24 i25 i26 i27 i28 i29 i30 i31 i32 i33 i34 i35 i36 (l37 ++ [(c, f % 60, f % 60 + t % 100)]) := by
  have e1 : Int.tmod f 60 = f % 60 := Int.tmod_eq_emod_of_nonneg hf.1
  have e2 : Int.tmod t 100 = t % 100 := Int.tmod_eq_emod_of_nonneg ht.1
  have hg : (decide ((0 : Int) ≤ (j : Int)) && decide ((j : Int) < 4)) = true := by simp; omega
  rw [ev_top_TopSparesBook_l0, cond_if, if_pos (by simp; omega), chk_of hg, idx_nat hx, chk_of (in64_of (by simp only; omega)), chk_of hg, idx_nat hx, chk_of (in64_of (by simp only; omega)), chk_of hg, idx_nat hx, chk_of (in64_of (by simp only; omega))]
  simp only [e1, e2, hlow]
  rw [chk_of (in64_of (by omega)), chk_of (room_iff.2 (by simp; omega)), chk_of (in64_of (by omega))]
  rw [ev_Spares_l1 (low := low) (fr := f % 60) (to := f % 60 + t % 100) hlow hl (by simp only; exact e1) (by simp only; rw [e1, e2]) (by omega) (by simp only; omega) (by omega) n w (f % 60 + low) (by omega) (by omega) (by omega) hw.1 (by omega)]
/-- the cards -/
def cardsP (p : Int) : Nat → List Int → List Int → List Card
  | i, y :: ys, x :: xs => if 0 < x then ((i : Int), 100 * y, 0, x * p) :: cardsP p (i + 1) ys xs else cardsP p (i + 1) ys xs
  | _, _, _ => []
theorem cardsP_num (p : Int) : ∀ (ys xs : List Int) (i : Nat), (∀ c ∈ cardsP p i ys xs, (i : Int) ≤ c.1 ∧ c.1 < i + xs.length) ∧ ((cardsP p i ys xs).map (·.1)).Nodup := by
  intro ys
  induction ys with
  | nil => intro xs i; simp [cardsP]
  | cons y ys ih =>
    intro xs i
    cases xs with
    | nil => simp [cardsP]
    | cons x xs =>
      obtain ⟨h1, h2⟩ := ih xs (i + 1)
      simp only [cardsP, List.length_cons]
      split
      · refine ⟨fun c hc => ?_, ?_⟩
        · rcases List.mem_cons.1 hc with rfl | hc
          · simp only; omega
          · have := h1 c hc; omega
        · rw [List.map_cons, List.nodup_cons]
          refine ⟨fun hm => ?_, h2⟩
          obtain ⟨c, hc, e⟩ := List.mem_map.1 hm
          have := h1 c hc
          simp only at e; omega
      · exact ⟨fun c hc => by have := h1 c hc; omega, h2⟩
theorem cardsP_owed (p : Int) : ∀ (ys xs : List Int) (i : Nat), ys.length = xs.length → (∀ x ∈ xs, 0 ≤ x) → owed (cardsP p i ys xs) = xs.sum * p := by
  intro ys
  induction ys with
  | nil => intro xs i hl _; cases xs with
    | nil => simp [cardsP, owed]
    | cons => simp at hl
  | cons y ys ih =>
    intro xs i hl hx
    cases xs with
    | nil => simp at hl
    | cons x xs =>
      have h1 := ih xs (i + 1) (by simpa using hl) fun z hz => hx z (List.mem_cons_of_mem _ hz)
      have h2 := hx x List.mem_cons_self
      simp only [cardsP, List.sum_cons, Int.add_mul]
      split
      · simp only [owed, List.map_cons, List.sum_cons] at h1 ⊢; omega
      · have : x = 0 := by omega
        subst this; omega
theorem cardsP_ok {p : Int} (hp : 1 ≤ p ∧ p ≤ 9) : ∀ (ys xs : List Int) (i : Nat), (∀ y ∈ ys, 0 ≤ y ∧ y ≤ 200) → (∀ x ∈ xs, x ≤ 500000) → i + xs.length ≤ 400 → ∀ c ∈ cardsP p i ys xs, CardOk c := by
  intro ys
  induction ys with
  | nil => intro xs i _ _ _ c hc; simp [cardsP] at hc
  | cons y ys ih =>
    intro xs i hy hx hi c hc
    cases xs with
    | nil => simp [cardsP] at hc
    | cons x xs =>
      have h1 := ih xs (i + 1) (fun z hz => hy z (List.mem_cons_of_mem _ hz)) (fun z hz => hx z (List.mem_cons_of_mem _ hz)) (by simp at hi; omega) c
      have h2 := hx x List.mem_cons_self
      have h3 := hy y List.mem_cons_self
      simp only [List.length_cons] at hi
      simp only [cardsP] at hc
      split at hc
      · rcases List.mem_cons.1 hc with rfl | hc
        · have h4 : 1 * 1 ≤ x * p := Int.mul_le_mul (by omega) hp.1 (by omega) (by omega)
          have h5 : x * p ≤ 500000 * 9 := Int.mul_le_mul h2 hp.2 (by omega) (by omega)
          exact ⟨by simp only; omega, by simp only; omega, rfl, by simp only; omega, by simp only; omega⟩
        · exact h1 hc
      · exact h1 hc
theorem ev_Spares_l4 {n : Nat} {v18 : Int} {worn p : Int} (hv : -1000 ≤ v18 ∧ v18 ≤ 1000) (hp : 1 + Int.tmod v18 9 = p) (hp2 : 1 ≤ p ∧ p ≤ 9) {ys xs : List Int} (hlen : ys.length = xs.length) (hx6 : xs.length ≤ 50) (hy : ∀ y ∈ ys, 0 ≤ y ∧ y ≤ 200) (hx : ∀ x ∈ xs, 0 ≤ x ∧ x ≤ 500000) (hworn : 0 ≤ worn ∧ worn ≤ 500000)
    (hA : ev_book_Accounts n [0] (cardsP p 0 ys xs) = some ([worn * p], 0, 0)) (hk1 : ev_top_pubParts n = some true) (hk2 : ev_top_pubBook n = some true) : ∀ (k m i : Nat) (acc : List Card), i + k = xs.length → k < m → acc.length ≤ i → acc ++ cardsP p i (ys.drop i) (xs.drop i) = cardsP p 0 ys xs →
    ev_top_TopSparesBook_l4 n v18 worn m (i : Int) ys xs acc = some true := by
  intro k
  induction k with
  | zero =>
    intro m i acc hi hm hal hacc
    cases m with
    | zero => omega
    | succ m =>
      have e : acc = cardsP p 0 ys xs := by rw [← hacc, List.drop_eq_nil_of_le (by omega), List.drop_eq_nil_of_le (by omega)]; simp [cardsP]
      have h5 : worn * p ≤ 500000 * 9 := Int.mul_le_mul hworn.2 hp2.2 (by omega) (by omega)
      have h6 : 0 ≤ worn * p := Int.mul_nonneg hworn.1 (by omega)
      rw [ev_top_TopSparesBook_l4, cond_if, if_neg (by simp; omega), e, bind_of hA, cond_if, if_pos (by rfl), cond_if, if_pos (by rfl), idx_of (x := worn * p) (by decide) (by rfl), chk_of (in64_of (by omega)), hp, chk_of (in64_of (by omega)), chk_of (in64_of (by omega)), cond_if, if_pos (by simp), bind_of hk1, cond_if, if_pos rfl, bind_of hk2]
  | succ k ih =>
    intro m i acc hi hm hal hacc
    cases m with
    | zero => omega
    | succ m =>
      have hlt : i < xs.length := by omega
      have hlty : i < ys.length := by omega
      obtain ⟨x0, x1⟩ := hx _ (List.getElem_mem hlt)
      obtain ⟨y0, y1⟩ := hy _ (List.getElem_mem hlty)
      have hnext : ∀ acc', acc'.length ≤ i + 1 → acc' ++ cardsP p (i + 1) (ys.drop (i + 1)) (xs.drop (i + 1)) = cardsP p 0 ys xs → ev_top_TopSparesBook_l4 n v18 worn m ((i : Int) + 1) ys xs acc' = some true := fun acc' h0 h => by
        rw [← ih m (i + 1) acc' (by omega) (by omega) h0 h]; congr 1
      rw [List.drop_eq_getElem_cons hlt, List.drop_eq_getElem_cons hlty, cardsP] at hacc
      have h5 : xs[i] * p ≤ 500000 * 9 := Int.mul_le_mul x1 hp2.2 (by omega) (by omega)
      have h6 : 0 ≤ xs[i] * p := Int.mul_nonneg x0 (by omega)
      rw [ev_top_TopSparesBook_l4, cond_if, if_pos (by simp; omega), idx_nat (List.getElem?_eq_getElem hlt), cond_if, if_neg (by simp; omega), cond_if]
      by_cases hpos : 0 < xs[i]
      · rw [if_pos (by simpa using hpos), idx_nat (List.getElem?_eq_getElem hlty), chk_of (in64_of (by omega)), chk_of (in64_of (by omega)), hp, chk_of (in64_of (by omega)), chk_of (in64_of (by omega)), chk_of (room_iff.2 (by simp; omega)), chk_of (in64_of (by omega))]
        rw [if_pos hpos] at hacc
        exact hnext _ (by simp; omega) (by rw [← hacc, List.append_assoc, List.singleton_append])
      · rw [if_neg (by simpa using hpos), chk_of (in64_of (by omega))]
        rw [if_neg hpos] at hacc
        exact hnext _ (by omega) hacc
/-- one order -/
theorem ev_Spares_l2 {n : Nat} {v17 v18 worn : Int} (m : Nat) (j : Nat) (hj : j < 4) {i44 i45 i46 i47 : Int} {l48 : List PC} {l49 : List Int} (hlen : l49.length = j + 1) {y o : Int} (hy : l49[j]? = some y) (ho : ([i44, i45, i46, i47] : List Int)[j]? = some o) (hy2 : 0 ≤ y ∧ y ≤ 1000) (ho2 : 0 ≤ o ∧ o ≤ 255) :
    ev_top_TopSparesBook_l2 n v17 v18 worn (m + 1) (j : Int) i44 i45 i46 i47 l48 l49 = ev_top_TopSparesBook_l2 n v17 v18 worn m ((j : Int) + 1) i44 i45 i46 i47 l48 (l49 ++ [y + 1 + o % 40]) := by
  have e1 : Int.tmod o 40 = o % 40 := Int.tmod_eq_emod_of_nonneg ho2.1
  rw [ev_top_TopSparesBook_l2, cond_if, if_pos (by simp; omega), idx_nat hy, chk_of (in64_of (by omega)), chk_of (by simp; omega), idx_nat ho, chk_of (in64_of (by omega)), e1, chk_of (in64_of (by omega)), chk_of (room_iff.2 (by simp; omega)), chk_of (in64_of (by omega))]
theorem mem_of_sum {xs : List Int} (h : ∀ x ∈ xs, 0 ≤ x) : ∀ x ∈ xs, x ≤ xs.sum := by
  induction xs with
  | nil => simp
  | cons y ys ih =>
    have h1 : ∀ x ∈ ys, 0 ≤ x := fun x hx => h x (List.mem_cons_of_mem _ hx)
    have h2 : 0 ≤ ys.sum := by
      clear ih h
      induction ys with
      | nil => simp
      | cons z zs ih => have := h1 z List.mem_cons_self; have := ih fun x hx => h1 x (List.mem_cons_of_mem _ hx); simp only [List.sum_cons]; omega
    intro x hx
    have h3 := h y List.mem_cons_self
    simp only [List.sum_cons]
    rcases List.mem_cons.1 hx with rfl | hx
    · omega
    · have := ih h1 x hx; omega
theorem topSparesBook_ev {a1 a2 a3 b1 b2 b3 c1 c2 c3 d1 d2 d3 o1 o2 o3 o4 v17 v18 : Int} (ha : (0 ≤ a1 ∧ a1 ≤ 255) ∧ (0 ≤ a2 ∧ a2 ≤ 255) ∧ (0 ≤ a3 ∧ a3 ≤ 255)) (hb : (0 ≤ b1 ∧ b1 ≤ 255) ∧ (0 ≤ b2 ∧ b2 ≤ 255) ∧ (0 ≤ b3 ∧ b3 ≤ 255)) (hc : (0 ≤ c1 ∧ c1 ≤ 255) ∧ (0 ≤ c2 ∧ c2 ≤ 255) ∧ (0 ≤ c3 ∧ c3 ≤ 255)) (hd : (0 ≤ d1 ∧ d1 ≤ 255) ∧ (0 ≤ d2 ∧ d2 ≤ 255) ∧ (0 ≤ d3 ∧ d3 ≤ 255))
    (ho : (0 ≤ o1 ∧ o1 ≤ 255) ∧ (0 ≤ o2 ∧ o2 ≤ 255) ∧ (0 ≤ o3 ∧ o3 ≤ 255) ∧ (0 ≤ o4 ∧ o4 ≤ 255)) (hv : (0 ≤ v17 ∧ v17 ≤ 255) ∧ (0 ≤ v18 ∧ v18 ≤ 255)) :
    ev_top_TopSparesBook 2200 a1 a2 a3 b1 b2 b3 c1 c2 c3 d1 d2 d3 o1 o2 o3 o4 v17 v18 = some true := by
  have e1 : Int.tmod v17 20 = v17 % 20 := Int.tmod_eq_emod_of_nonneg hv.1.1
  have e2 : Int.tmod v18 9 = v18 % 9 := Int.tmod_eq_emod_of_nonneg hv.2.1
  obtain ⟨low, hlow⟩ : ∃ low, low = 1 + v17 % 20 := ⟨_, rfl⟩
  obtain ⟨p, hp⟩ : ∃ p, p = 1 + v18 % 9 := ⟨_, rfl⟩
  have hlow' : 1 + Int.tmod v17 20 = low := by rw [e1, hlow]
  have hp' : 1 + Int.tmod v18 9 = p := by rw [e2, hp]
  have hl : 1 ≤ low ∧ low ≤ 20 := by omega
  have hl' : 1 ≤ low ∧ low ≤ 100 := by omega
  have hp2 : 1 ≤ p ∧ p ≤ 9 := by omega
  have hR : ∀ c f t : Int, 0 ≤ c ∧ c ≤ 255 → 0 ≤ f ∧ f ≤ 255 → 0 ≤ t ∧ t ≤ 255 → 0 ≤ c * reps low (f % 60 + t % 100) (f % 60 + low) ∧ c * reps low (f % 60 + t % 100) (f % 60 + low) ≤ 51000 := fun c f t hc hf ht => by
    have h1 := reps_nonneg low (f % 60 + t % 100) (f % 60 + low)
    have h2 := reps_le (low := low) (to := f % 60 + t % 100) (y := f % 60 + low) (by omega) (by omega) (by omega)
    refine ⟨Int.mul_nonneg hc.1 h1, ?_⟩
    have h3 : c * reps low (f % 60 + t % 100) (f % 60 + low) ≤ 255 * 200 := Int.mul_le_mul hc.2 (by omega) h1 (by omega)
    omega
  have ra := hR a1 a2 a3 ha.1 ha.2.1 ha.2.2
  have rb := hR b1 b2 b3 hb.1 hb.2.1 hb.2.2
  have rc := hR c1 c2 c3 hc.1 hc.2.1 hc.2.2
  have rd := hR d1 d2 d3 hd.1 hd.2.1 hd.2.2
  obtain ⟨l, hL⟩ : ∃ l : List PC, l = [(a1, a2 % 60, a2 % 60 + a3 % 100), (b1, b2 % 60, b2 % 60 + b3 % 100), (c1, c2 % 60, c2 % 60 + c3 % 100), (d1, d2 % 60, d2 % 60 + d3 % 100)] := ⟨_, rfl⟩
  have hok : ∀ c ∈ l, PCOk c := by
    rw [hL]
    intro c hc'
    simp only [List.mem_cons, List.not_mem_nil, or_false] at hc'
    rcases hc' with rfl | rfl | rfl | rfl <;> exact ⟨by simp only; omega, by simp only; omega⟩
  obtain ⟨worn, hworn⟩ : ∃ w, w = 0 + a1 * reps low (a2 % 60 + a3 % 100) (a2 % 60 + low) + b1 * reps low (b2 % 60 + b3 % 100) (b2 % 60 + low) + c1 * reps low (c2 % 60 + c3 % 100) (c2 % 60 + low) + d1 * reps low (d2 % 60 + d3 % 100) (d2 % 60 + low) := ⟨_, rfl⟩
  have hall : beforeP low 201 l = worn := by
    rw [hL]
    simp only [beforeP, List.map_cons, List.map_nil, List.sum_cons, List.sum_nil]
    rw [reps_most hl.1 (by omega) (by omega), reps_most hl.1 (by omega) (by omega), reps_most hl.1 (by omega) (by omega), reps_most hl.1 (by omega) (by omega), hworn]
    omega
  have hbef0 : beforeP low 0 l = 0 := by
    have h0 : ∀ c f t : Int, 0 ≤ f → f ≤ t → mostP low 0 (c, f, t) = 0 := fun c f t h1 h2 => by
      unfold mostP
      simp only
      rw [Int.min_eq_left (by omega)]
      have : Int.tdiv (0 - 1 - f) low ≤ 0 := by
        have := Int.tdiv_nonneg (a := 1 + f) (b := low) (by omega) (by omega)
        rw [show (0 : Int) - 1 - f = -(1 + f) by omega, Int.neg_tdiv]; omega
      rw [Int.max_eq_left this]; simp
    rw [hL]
    simp only [beforeP, List.map_cons, List.map_nil, List.sum_cons, List.sum_nil]
    rw [h0 _ _ _ (by omega) (by omega), h0 _ _ _ (by omega) (by omega), h0 _ _ _ (by omega) (by omega), h0 _ _ _ (by omega) (by omega)]; rfl
  obtain ⟨y1, hy1⟩ : ∃ y, y = 0 + 1 + o1 % 40 := ⟨_, rfl⟩
  obtain ⟨y2, hy2⟩ : ∃ y, y = y1 + 1 + o2 % 40 := ⟨_, rfl⟩
  obtain ⟨y3, hy3⟩ : ∃ y, y = y2 + 1 + o3 % 40 := ⟨_, rfl⟩
  obtain ⟨y4, hy4⟩ : ∃ y, y = y3 + 1 + o4 % 40 := ⟨_, rfl⟩
  have hpw : ([0, y1, y2, y3, y4] : List Int).Pairwise (· < ·) := by
    simp only [List.pairwise_cons, List.mem_cons, List.not_mem_nil, or_false, forall_eq_or_imp, forall_eq, List.Pairwise.nil, and_true, false_implies, implies_true]
    omega
  have hpw2 : ([0, y1, y2, y3, y4, 201] : List Int).Pairwise (· < ·) := by
    simp only [List.pairwise_cons, List.mem_cons, List.not_mem_nil, or_false, forall_eq_or_imp, forall_eq, List.Pairwise.nil, and_true, false_implies, implies_true]
    omega
  have hyr : ∀ z ∈ ([0, y1, y2, y3, y4] : List Int), 0 ≤ z ∧ z ≤ 200 := by
    intro z hz
    simp only [List.mem_cons, List.not_mem_nil, or_false] at hz
    omega
  obtain ⟨xs, hxs⟩ : ∃ xs, xs = buysP low l 0 ([y1, y2, y3, y4] ++ [201]) := ⟨_, rfl⟩
  have hsp : ev_part_Spares 2200 low (low + 3) l [0, y1, y2, y3, y4] = some (xs, 0) := by
    rw [hxs]; exact ev_Spares ⟨hl.1, by omega, by omega⟩ hok (by rw [hL]; simp) (by decide) (by simp) hpw hyr hbef0
  have hxl : xs.length = 5 := by rw [hxs, buysP_length]; rfl
  have hsum : xs.sum = worn := by rw [hxs, buysP_sum, hall]; omega
  have hx0 : ∀ x ∈ xs, 0 ≤ x := by
    rw [hxs]; exact buysP_nonneg hl.1 hok _ 0 0 (by rw [hbef0]; omega) hpw2
  have hx1 : ∀ x ∈ xs, x ≤ 500000 := fun x hx => by have := mem_of_sum hx0 x hx; omega
  have hacc : ev_book_Accounts 2200 [0] (cardsP p 0 [0, y1, y2, y3, y4] xs) = some ([worn * p], 0, 0) := by
    have hlc : (cardsP p 0 [0, y1, y2, y3, y4] xs).length ≤ 400 := by
      have : ∀ (ys xs : List Int) (i : Nat), (cardsP p i ys xs).length ≤ ys.length := by
        intro ys
        induction ys with
        | nil => intro xs i; simp [cardsP]
        | cons y ys ih =>
          intro xs i
          cases xs with
          | nil => simp [cardsP]
          | cons x xs =>
            have := ih xs (i + 1)
            simp only [cardsP]
            split <;> simp <;> omega
      have := this [0, y1, y2, y3, y4] xs 0
      simp only [List.length_cons, List.length_nil] at this
      omega
    rw [ev_Accounts1 (by decide) (cardsP_ok hp2 _ _ _ hyr hx1 (by omega)) (cardsP_num p _ _ 0).2 hlc, cardsP_owed p _ _ 0 (by rw [hxl]; rfl) hx0, hsum]
  have hfin := ev_Spares_l4 (n := 2200) (v18 := v18) (worn := worn) (p := p) (by omega) hp' hp2 (ys := [0, y1, y2, y3, y4]) (xs := xs) (by rw [hxl]; rfl) (by omega) hyr (fun x hx => ⟨hx0 x hx, hx1 x hx⟩) (by omega) hacc pubParts_ev pubBookS_ev 5 2200 0 [] (by omega) (by omega) (by simp) (by simp)
  rw [ev_top_TopSparesBook, chk_of (in64_of (by omega)), chk_of (in64_of (by omega))]
  have q0 := ev_Spares_l0 (n := 2200) (by decide) (v17 := v17) (v18 := v18) hlow' hl' (i21 := a1) (i22 := a2) (i23 := a3) (i24 := b1) (i25 := b2) (i26 := b3) (i27 := c1) (i28 := c2) (i29 := c3) (i30 := d1) (i31 := d2) (i32 := d3) (i33 := o1) (i34 := o2) (i35 := o3) (i36 := o4) (l37 := []) (by simp) 2199 (w := 0) 0 (by decide) (c := a1) (f := a2) (t := a3) rfl ha.1 ha.2.1 ha.2.2 (by omega)
  have q1 := ev_Spares_l0 (n := 2200) (by decide) (v17 := v17) (v18 := v18) hlow' hl' (i21 := a1) (i22 := a2) (i23 := a3) (i24 := b1) (i25 := b2) (i26 := b3) (i27 := c1) (i28 := c2) (i29 := c3) (i30 := d1) (i31 := d2) (i32 := d3) (i33 := o1) (i34 := o2) (i35 := o3) (i36 := o4) (l37 := [] ++ [(a1, a2 % 60, a2 % 60 + a3 % 100)]) (by simp) 2198 (w := 0 + a1 * reps low (a2 % 60 + a3 % 100) (a2 % 60 + low)) 1 (by decide) (c := b1) (f := b2) (t := b3) rfl hb.1 hb.2.1 hb.2.2 (by omega)
  have q2 := ev_Spares_l0 (n := 2200) (by decide) (v17 := v17) (v18 := v18) hlow' hl' (i21 := a1) (i22 := a2) (i23 := a3) (i24 := b1) (i25 := b2) (i26 := b3) (i27 := c1) (i28 := c2) (i29 := c3) (i30 := d1) (i31 := d2) (i32 := d3) (i33 := o1) (i34 := o2) (i35 := o3) (i36 := o4) (l37 := [] ++ [(a1, a2 % 60, a2 % 60 + a3 % 100)] ++ [(b1, b2 % 60, b2 % 60 + b3 % 100)]) (by simp) 2197 (w := 0 + a1 * reps low (a2 % 60 + a3 % 100) (a2 % 60 + low) + b1 * reps low (b2 % 60 + b3 % 100) (b2 % 60 + low)) 2 (by decide) (c := c1) (f := c2) (t := c3) rfl hc.1 hc.2.1 hc.2.2 (by omega)
  have q3 := ev_Spares_l0 (n := 2200) (by decide) (v17 := v17) (v18 := v18) hlow' hl' (i21 := a1) (i22 := a2) (i23 := a3) (i24 := b1) (i25 := b2) (i26 := b3) (i27 := c1) (i28 := c2) (i29 := c3) (i30 := d1) (i31 := d2) (i32 := d3) (i33 := o1) (i34 := o2) (i35 := o3) (i36 := o4) (l37 := [] ++ [(a1, a2 % 60, a2 % 60 + a3 % 100)] ++ [(b1, b2 % 60, b2 % 60 + b3 % 100)] ++ [(c1, c2 % 60, c2 % 60 + c3 % 100)]) (by simp) 2196 (w := 0 + a1 * reps low (a2 % 60 + a3 % 100) (a2 % 60 + low) + b1 * reps low (b2 % 60 + b3 % 100) (b2 % 60 + low) + c1 * reps low (c2 % 60 + c3 % 100) (c2 % 60 + low)) 3 (by decide) (c := d1) (f := d2) (t := d3) rfl hd.1 hd.2.1 hd.2.2 (by omega)
  refine q0.trans (q1.trans (q2.trans (q3.trans ?_)))
  have hlst : ([] ++ [(a1, a2 % 60, a2 % 60 + a3 % 100)] ++ [(b1, b2 % 60, b2 % 60 + b3 % 100)] ++ [(c1, c2 % 60, c2 % 60 + c3 % 100)] ++ [(d1, d2 % 60, d2 % 60 + d3 % 100)] : List PC) = l := by rw [hL]; rfl
  rw [hlst, ← hworn, ev_top_TopSparesBook_l0, cond_if, if_neg (by simp)]
  have t0 := ev_Spares_l2 (n := 2200) (v17 := v17) (v18 := v18) (worn := worn) 2199 0 (by decide) (i44 := o1) (i45 := o2) (i46 := o3) (i47 := o4) (l48 := l) (l49 := [0]) rfl (y := 0) (o := o1) rfl rfl (by omega) ho.1
  have t1 := ev_Spares_l2 (n := 2200) (v17 := v17) (v18 := v18) (worn := worn) 2198 1 (by decide) (i44 := o1) (i45 := o2) (i46 := o3) (i47 := o4) (l48 := l) (l49 := [0] ++ [y1]) rfl (y := y1) (o := o2) rfl rfl (by omega) ho.2.1
  have t2 := ev_Spares_l2 (n := 2200) (v17 := v17) (v18 := v18) (worn := worn) 2197 2 (by decide) (i44 := o1) (i45 := o2) (i46 := o3) (i47 := o4) (l48 := l) (l49 := [0] ++ [y1] ++ [y2]) rfl (y := y2) (o := o3) rfl rfl (by omega) ho.2.2.1
  have t3 := ev_Spares_l2 (n := 2200) (v17 := v17) (v18 := v18) (worn := worn) 2196 3 (by decide) (i44 := o1) (i45 := o2) (i46 := o3) (i47 := o4) (l48 := l) (l49 := [0] ++ [y1] ++ [y2] ++ [y3]) rfl (y := y3) (o := o4) rfl rfl (by omega) ho.2.2.2
  rw [← hy1] at t0; rw [← hy2] at t1; rw [← hy3] at t2; rw [← hy4] at t3
  refine t0.trans (t1.trans (t2.trans (t3.trans ?_)))
  have hlst2 : ([0] ++ [y1] ++ [y2] ++ [y3] ++ [y4] : List Int) = [0, y1, y2, y3, y4] := rfl
  have hpsp : ev_top_pubSpan 2200 low (low + 3) = some (low, low + 3) := by rw [ev_top_pubSpan]
  rw [hlst2, ev_top_TopSparesBook_l2, cond_if, if_neg (by simp), hlow', chk_of (in64_of (by omega)), bind_of hpsp, chk_of (room_iff.2 (by simp))]
  have hsp' : ev_part_Spares 2200 low (low + 3) l ([] ++ [0, y1, y2, y3, y4]) = some (xs, 0) := hsp
  rw [bind_of hsp', cond_if, if_neg (by simp), cond_if, if_neg (by simp [hxl]), ev_top_TopSparesBook_j3]
  exact hfin
theorem topSparesBook_evx {contracts1 contracts2 contracts3 contracts4 contracts5 contracts6 contracts7 contracts8 contracts9 contracts10 contracts11 contracts12 orders13 orders14 orders15 orders16 v17 v18 : Int} (h0 : (Lit.int .u8 contracts1).wf = true ∧ (Lit.int .u8 contracts2).wf = true ∧ (Lit.int .u8 contracts3).wf = true ∧ (Lit.int .u8 contracts4).wf = true ∧ (Lit.int .u8 contracts5).wf = true ∧ (Lit.int .u8 contracts6).wf = true ∧ (Lit.int .u8 contracts7).wf = true ∧ (Lit.int .u8 contracts8).wf = true ∧ (Lit.int .u8 contracts9).wf = true ∧ (Lit.int .u8 contracts10).wf = true ∧ (Lit.int .u8 contracts11).wf = true ∧ (Lit.int .u8 contracts12).wf = true) (h1 : (Lit.int .u8 orders13).wf = true ∧ (Lit.int .u8 orders14).wf = true ∧ (Lit.int .u8 orders15).wf = true ∧ (Lit.int .u8 orders16).wf = true) (h2 : (Lit.int .u8 v17).wf = true ∧ (Lit.int .u8 v18).wf = true) : ∃ n, ev_top_TopSparesBook n contracts1 contracts2 contracts3 contracts4 contracts5 contracts6 contracts7 contracts8 contracts9 contracts10 contracts11 contracts12 orders13 orders14 orders15 orders16 v17 v18 = some true := by
  simp only [wf8] at h0 h1 h2
  obtain ⟨g1, g2, g3, g4, g5, g6, g7, g8, g9, g10, g11, g12⟩ := h0
  exact ⟨2200, topSparesBook_ev ⟨g1, g2, g3⟩ ⟨g4, g5, g6⟩ ⟨g7, g8, g9⟩ ⟨g10, g11, g12⟩ h1 h2⟩
end Go.Proofs.Ytmgcinejodpopaa.Sy
