/- A rack: what the law computes is true. -/
import Derived.Test.YtglgkcfgjaoabaaGStrikeRacks
import Derived.Test.YtglgkcfgjaoabaaEvWheel
import Derived.Test.YtglgkcfgjaoabaaEvRefPlay
set_option linter.unusedSimpArgs false
set_option linter.unusedVariables false
namespace Go.Proofs.Ytglgkcfgjaoabaa.Sy
open Go.RowKit
set_option maxRecDepth 100000

theorem canL_one {N q : Nat} (hq : q < N) (v : Int) : canL N (fun k => if k = q then some v else none) = [((q : Int), v)] := by
  refine sorted_uniq (canL_sorted _ _) (List.pairwise_singleton _ _) fun x => ?_
  rw [mem_canL, List.mem_singleton]
  constructor
  · rintro ⟨p, hp, h1, h2⟩
    by_cases e : p = q
    · rw [if_pos e] at h1
      obtain ⟨x1, x2⟩ := x
      simp only [Option.some.injEq] at h1 h2
      rw [h2, ← h1, e]
    · rw [if_neg e] at h1; cases h1
  · rintro rfl
    exact ⟨q, hq, by simp, rfl⟩
/-- a rack goes on, whatever it does -/
theorem rack_after {h : Bool} {q : List (Int × Int)} {slot p v : Int} {hp : Int → Bool} (hpp : 0 ≤ p ∧ p < plN h) (ho : hp (blP h q slot p) = true ∨ hp 0 = true) :
    afterE h true q slot hp [(p, v)] = [((p + 1) % plN h, v + if hp (blP h q slot p) = true then 0 else 1)] := by
  have he := emod_place h (p + 1)
  have hNc := nN_cast h
  obtain ⟨k, hk⟩ : ∃ k : Nat, (k : Int) = (p + 1) % plN h := ⟨((p + 1) % plN h).toNat, by omega⟩
  have hkn : ((p + 1) % plN h).toNat = k := by omega
  unfold afterE
  simp only [List.flatMap_cons, List.flatMap_nil, List.append_nil]
  unfold contr
  simp only [if_true, hkn]
  rw [← hk]
  by_cases h1 : hp (blP h q slot p) = true
  · rw [if_pos h1, if_pos h1]
    by_cases h2 : hp 0 = true
    · rw [if_pos h2]
      refine Eq.trans ?_ (canL_one (show k < nN h by omega) (v + 0))
      congr 1
      funext z
      simp only [List.singleton_append, List.foldl_cons, List.foldl_nil, addC, addF, minO]
      by_cases hz : z = k
      · simp only [hz, if_true, Option.some.injEq]; omega
      · simp only [hz, if_false]
    · rw [if_neg h2]
      refine Eq.trans ?_ (canL_one (show k < nN h by omega) (v + 0))
      congr 1
      funext z
      simp only [List.append_nil, List.foldl_cons, List.foldl_nil, addC, addF, minO, Int.add_zero]
  · have h2 : hp 0 = true := by rcases ho with h | h; exact absurd h h1; exact h
    rw [if_neg h1, if_neg h1, if_pos h2]
    refine Eq.trans ?_ (canL_one (show k < nN h by omega) (v + 1))
    congr 1
theorem succ_mod (h : Bool) (s : Int) : (s % plN h + 1) % plN h = (s + 1) % plN h := Int.emod_add_emod _ _ _
theorem rack_gap {h : Bool} {q : List (Int × Int)} : ∀ (k : Nat) (slot v : Int), gapE h true q k slot [(slot % plN h, v)] = [((slot + k) % plN h, v)] := by
  intro k
  induction k with
  | zero => intro slot v; simp [gapE]
  | succ k ih =>
    intro slot v
    simp only [gapE]
    rw [rack_after (emod_place h slot) (.inl rfl), if_pos rfl, Int.add_zero, succ_mod, ih (slot + 1) v]
    congr 3
    omega
def nextS : List (Int × Int) → Int → Int
  | [], s => s
  | x :: l, _ => nextS l (x.1 + 1)
def missC (h : Bool) (q : List (Int × Int)) : List (Int × Int) → Int
  | [] => 0
  | x :: l => (if x.2 = blP h q x.1 (x.1 % plN h) then 0 else 1) + missC h q l
theorem nextS_snoc : ∀ (l : List (Int × Int)) (s : Int) (x : Int × Int), nextS (l ++ [x]) s = x.1 + 1 := by
  intro l
  induction l with
  | nil => intro s x; rfl
  | cons y l ih => intro s x; exact ih _ x
theorem missC_snoc {h : Bool} {q : List (Int × Int)} : ∀ (l : List (Int × Int)) (x : Int × Int), missC h q (l ++ [x]) = missC h q l + if x.2 = blP h q x.1 (x.1 % plN h) then 0 else 1 := by
  intro l
  induction l with
  | nil => intro x; simp [missC]
  | cons y l ih => intro x; simp only [List.cons_append, missC, ih]; omega
theorem rack_miss {h : Bool} {q : List (Int × Int)} : ∀ (l : List (Int × Int)) (slot v : Int), (∀ x ∈ l, slot ≤ x.1) → l.Pairwise (fun a b => a.1 < b.1) → (∀ x ∈ l, x.2 = blP h q x.1 (x.1 % plN h) ∨ x.2 = 0) →
    missE h true q l slot [(slot % plN h, v)] = [(nextS l slot % plN h, v + missC h q l)] := by
  intro l
  induction l with
  | nil => intro slot v _ _ _; simp [missE, nextS, missC]
  | cons x l ih =>
    intro slot v h1 h2 h3
    rw [List.pairwise_cons] at h2
    have hx := h1 x (by simp)
    have hb := h3 x (by simp)
    simp only [missE, nextS, missC]
    have es : slot + ((x.1 - slot).toNat : Int) = x.1 := by omega
    rw [rack_gap, es, rack_after (emod_place h x.1) (by
      rcases hb with hb | hb
      · left; rw [hb]; exact beq_self_eq_true _
      · right; rw [hb]; rfl), succ_mod, ih (x.1 + 1) _ (fun y hy => by have := h2.1 y hy; omega) h2.2 fun y hy => h3 y (by simp [hy])]
    congr 2
    have hiff : ((blP h q x.1 (x.1 % plN h) == x.2) = true) ↔ x.2 = blP h q x.1 (x.1 % plN h) := by rw [beq_iff_eq]; exact eq_comm
    by_cases he : x.2 = blP h q x.1 (x.1 % plN h)
    · rw [if_pos (hiff.2 he), if_pos he]; omega
    · rw [if_neg fun h => he (hiff.1 h), if_neg he]; omega
theorem letP_rack {h : Bool} : ∀ (k : Nat) (p : Int), (letP h true (plN h) k p).1 = p := by
  intro k
  induction k with
  | zero => intro p; rfl
  | succ k ih => intro p; exact ih p
theorem play_rack {h : Bool} {q : List (Int × Int)} : ∀ (l : List (Int × Bool)) (slot p c : Int), (0 ≤ p ∧ p < plN h) → (∀ (i : Nat) (s : Int × Bool), l[i]? = some s → (0 ≤ s.1 ∧ s.1 ≤ 48) ∧ (0 < s.1 → silP q (plN h) (slot + i) = false)) →
    (playP h true q l slot p c).2.2 = 0 ∧ (playP h true q l slot p c).1 = (p + l.length) % plN h := by
  intro l
  induction l with
  | nil =>
    intro slot p c hp _
    refine ⟨rfl, ?_⟩
    show p = _
    rw [List.length_nil]
    simp only [Int.natCast_zero, Int.add_zero]
    exact (Int.emod_eq_of_lt hp.1 hp.2).symm
  | cons s l ih =>
    intro slot p c hp hs
    obtain ⟨g1, g2⟩ := hs 0 s rfl
    have hst : stepE h true q slot p s = ((p + 1) % plN h, (letP h true (plN h) s.1.toNat p).2, 0) := by
      unfold stepE endP
      rw [if_neg (by simp; omega), letP_rack]
      by_cases h0 : 0 < s.1
      · rw [if_neg (by have := g2 h0; simp at this; simp [this])]; simp
      · rw [if_neg (by simp; omega)]; simp
    simp only [playP, hst, if_true]
    obtain ⟨i1, i2⟩ := ih (slot + 1) ((p + 1) % plN h) (c + (letP h true (plN h) s.1.toNat p).2) (emod_place h _) fun i t ht => by
      obtain ⟨a1, a2⟩ := hs (i + 1) t (by simpa using ht)
      refine ⟨a1, fun h0 => ?_⟩
      rw [← a2 h0]; congr 1; omega
    refine ⟨i1, i2.trans ?_⟩
    rw [Int.emod_add_emod, List.length_cons]
    congr 1
    omega
theorem strikeRacks_evx {w1 : Bool} {w2 : Int} {w3 : Int} {at_4 : Int} {by_5 : List Int} (h0 : True ∧ (Lit.int .u8 w2).wf = true ∧ (Lit.int .u8 w3).wf = true) (h1 : (Lit.int .u8 at_4).wf = true) (h2 : (by_5.length ≤ maxLen ∧ ∀ el5 ∈ by_5, (Lit.int .u8 el5).wf = true)) :
    ∃ n, ev_law05_StrikeRacks n w1 w2 w3 at_4 by_5 = some true := by
  have ha := wf8.1 h0.2.1
  have hb := wf8.1 h0.2.2
  have r4 := wf8.1 h1
  have hby : ∀ x ∈ by_5, 0 ≤ x ∧ x ≤ 255 := fun x hx => wf8.1 (h2.2 x hx)
  have hN := plNs w1
  have hl := quietP_len w1 w2 w3
  have hc := quietP_chk w1 (a := w2) (b := w3)
  obtain ⟨q, hq⟩ : ∃ q, q = quietP w1 w2 w3 := ⟨_, rfl⟩
  have hr := ev_rules (n := 3100) (h := w1) ha hb
  have hsi := fun (s : Int) (hs : 0 ≤ s) => ev_silent (n := 3100) (h := w1) (slot := s) ha hb hs
  rw [← hq] at hr hl hc
  simp only [← hq] at hsi
  have hck : ev_strike_Check 3100 w1 true q = some 0 := by rw [ev_CheckP (by decide) (by omega), hc]
  have hcp : ev_law05_copied 3100 w1 true q = some (w1, true, q) := ev_copied (by omega)
  have rs := emod_place w1 at_4
  have e4 : Int.tmod at_4 (plN w1) = at_4 % plN w1 := Int.tmod_eq_emod_of_nonneg r4.1
  -- the plans
  have j7 : ∀ (plan : List (Int × Bool)), plan.length ≤ 60 → (∀ (i : Nat) (s : Int × Bool), plan[i]? = some s → (0 ≤ s.1 ∧ s.1 ≤ 48) ∧ (0 < s.1 → silP q (plN w1) (at_4 + i) = false)) → ev_law05_StrikeRacks_j7 3100 w1 true q (plN w1) at_4 plan = some true := by
    intro plan hpl hst
    have hP := ev_Play (n := 3100) (by decide) (h := w1) (rack := true) (q := q) (by omega) hck (slot := at_4) (p := at_4 % plN w1) (by omega) rs (fun _ => rfl) (plan := plan) (by omega)
    obtain ⟨g1, g2⟩ := play_rack (h := w1) (q := q) plan at_4 (at_4 % plN w1) 0 rs hst
    rw [Int.emod_add_emod] at g2
    have hB := ev_Bring (n := 3100) (by decide) (h := w1) (rack := true) (q := q) (by omega) hck (slot := at_4) (p := at_4 % plN w1) (by omega) rs (fun _ => rfl) (k := plan.length) (by omega)
    obtain ⟨cz, z1, z2, z3⟩ := best_right (h := w1) (rack := true) (q := q) (u := at_4 + (plan.length : Int)) (p := at_4 % plN w1) (k := plan.length) (by congr 1; omega)
    rw [z1] at hB
    simp only [z2, z3] at hB
    have eu : Int.tmod (at_4 + (plan.length : Int)) (plN w1) = (at_4 + (plan.length : Int)) % plN w1 := Int.tmod_eq_emod_of_nonneg (by omega)
    have e5 : Int.tmod (at_4 + 1) (plN w1) = (at_4 + 1) % plN w1 := Int.tmod_eq_emod_of_nonneg (by omega)
    have hbeg : begP w1 true at_4 ((at_4 + 1) % plN w1) = 2 := by
      unfold begP
      rw [if_neg (by simp; omega), if_pos]
      refine .inr (.inr ⟨rfl, ?_⟩)
      rcases plN_or w1 with e | e <;> rw [e] <;> omega
    have l9 : ∀ (k m i : Nat), i + k = plan.length → k < m → ev_law05_StrikeRacks_l9 3100 (List.replicate plan.length (0, false), 0, 0) w1 true q at_4 (plN w1) m (i : Int) = some true := by
      intro k
      induction k with
      | zero =>
        intro m i hi hm
        cases m with
        | zero => omega
        | succ m =>
          rw [ev_law05_StrikeRacks_l9, cond_if, if_neg (by simp only [List.length_replicate, decide_eq_true_eq]; omega), bind_of hcp, chk_of (in64_of (by omega)), chk_of (by simp; omega), e5]
          simp only
          rw [bind_of (ev_PlayP (by decide) (by omega) at_4 ((at_4 + 1) % plN w1) []), if_neg (by simp [hc]), hbeg, if_pos (by decide), cond_if, if_pos (by rfl), bind_of known_ev]
      | succ k ih =>
        intro m i hi hm
        cases m with
        | zero => omega
        | succ m =>
          rw [ev_law05_StrikeRacks_l9, cond_if, if_pos (by simp only [List.length_replicate, decide_eq_true_eq]; omega), idx_nat (x := ((0 : Int), false)) (by rw [List.getElem?_replicate, if_pos (by omega)]), cond_if, if_neg (by simp), chk_of (in64_of (by omega))]
          exact ih m (i + 1) (by omega) (by omega)
    rw [ev_law05_StrikeRacks_j7, bind_of hcp, chk_of (by simp; omega), e4]
    simp only
    rw [bind_of hP, bind_of hcp, chk_of (by simp; omega), chk_of (in64_of (by omega))]
    simp only
    rw [bind_of hB, cond_if, if_neg (by simp [g1]), cond_if, if_neg (by simp), chk_of (in64_of (by omega)), chk_of (by simp; omega), eu, cond_if, if_neg (by simp [g2]), cond_if, if_neg (by simp), cond_if, if_neg (by simp), ev_law05_StrikeRacks_j8]
    exact l9 plan.length 3100 0 (by omega) (by omega)
  -- the end
  have fin : ∀ (heard : List (Int × Int)) (plan : List (Int × Bool)) (missed next : Int), plan.length ≤ 60 → (∀ (i : Nat) (s : Int × Bool), plan[i]? = some s → (0 ≤ s.1 ∧ s.1 ≤ 48) ∧ (0 < s.1 → silP q (plN w1) (at_4 + i) = false)) →
      heard.length ≤ 60 → heard.Pairwise (fun a b => a.1 < b.1) → (∀ x ∈ heard, (at_4 ≤ x.1 ∧ x.1 < at_4 + 60) ∧ (x.2 = blP w1 q x.1 (x.1 % plN w1) ∨ x.2 = 0)) → missed = missC w1 q heard → next = nextS heard at_4 → 0 ≤ next →
      (cond (decide ((0 : Int) < (heard.length : Int))) ((ev_law05_copied 3100 w1 true q).bind fun r38 => (ev_strike_Misses 3100 r38.1 r38.2.1 r38.2.2 heard).bind fun r39 => cond (r39.2.2 != 0) (some false) (cond (r39.1 != missed) (some false) (cond ((r39.2.1.length : Int) != 1) (some false) (idx r39.2.1 0 fun x40 => chk (plN w1 != 0) <| cond (x40 != (Int.tmod next (plN w1))) (some false) (ev_law05_StrikeRacks_j6 3100 w1 true q (plN w1) at_4 plan))))) (ev_law05_StrikeRacks_j7 3100 w1 true q (plN w1) at_4 plan)) = some true := by
    intro heard plan missed next hpl hst hhl hasc hhd hm hn hn0
    rw [cond_if]
    by_cases h0 : 0 < heard.length
    · rw [if_pos (decide_eq_true (by omega)), bind_of hcp]
      simp only
      have hx0 : heard[0]? = some heard[0] := List.getElem?_eq_getElem h0
      have hfirst : ∀ x ∈ heard, heard[0].1 ≤ x.1 := by
        intro x hx
        obtain ⟨i, hi, rfl⟩ := List.getElem_of_mem hx
        rcases Nat.eq_zero_or_pos i with e | e
        · subst e; exact Int.le_refl _
        · have := List.pairwise_iff_getElem.1 hasc 0 i h0 hi e; omega
      have hE : canL (nN w1) (firstF w1 true heard[0].1) = [(heard[0].1 % plN w1, 0)] := by
        have he := emod_place w1 heard[0].1
        have hNc := nN_cast w1
        have hk : (((heard[0].1 % plN w1).toNat : Nat) : Int) = heard[0].1 % plN w1 := by omega
        have := canL_one (show (heard[0].1 % plN w1).toNat < nN w1 by omega) 0
        rw [hk] at this
        rw [← this]
        congr 1
        funext z
        unfold firstF
        by_cases hz : z = (heard[0].1 % plN w1).toNat
        · rw [if_pos hz, if_neg (by simp; omega)]
        · rw [if_neg hz, if_pos (by simp; omega)]
      have hns : nextS heard at_4 = nextS heard heard[0].1 := by
        cases heard with
        | nil => simp at h0
        | cons x l => rfl
      have hmiss := rack_miss (h := w1) (q := q) heard heard[0].1 0 hfirst hasc fun x hx => (hhd x hx).2
      rw [Int.zero_add, ← hm, ← hns, ← hn] at hmiss
      have hlast : ∀ x ∈ heard, 0 ≤ x.2 ∧ x.2 ≤ 12 := by
        intro x hx
        rcases (hhd x hx).2 with e | e
        · rw [e]; exact blP_range (emod_place w1 _)
        · rw [e]; decide
      have hM := ev_MissesP (n := 3100) (by decide) (h := w1) (rack := true) (q := q) (by omega) hck (l := heard) ⟨by omega, fun x hx => ⟨by have := (hhd x hx).1; omega, hlast x hx⟩, hasc, fun a b ha' hb' => by
        have := (hhd a (List.mem_of_getElem? ha')).1
        have := (hhd b (List.mem_of_getElem? hb')).1
        omega⟩ (x0 := heard[0]) hx0 (fun z hz => so_int z (by decide) (by
          rw [canL_miss, hE, hmiss] at hz
          have := hz.length_eq
          have h2 := List.length_filter_le (fun x : Int × Int => x.2 == minE [(next % plN w1, missed)]) [(next % plN w1, missed)]
          rw [List.length_map] at this
          simp only [List.length_singleton] at h2
          omega) trivial)
      rw [canL_miss, hE, hmiss, if_neg (by simp)] at hM
      have hmin : minE [(next % plN w1, missed)] = missed := by simp [minE]
      rw [hmin, List.filter_cons, if_pos (by simp)] at hM
      simp only [List.filter_nil, List.map_cons, List.map_nil] at hM
      rw [bind_of hM, cond_if, if_neg (by simp), cond_if, if_neg (by simp), cond_if, if_neg (by simp), idx_of (x := next % plN w1) (by decide) rfl, chk_of (by simp; omega), Int.tmod_eq_emod_of_nonneg hn0, cond_if, if_neg (by simp), ev_law05_StrikeRacks_j6]
      exact j7 plan hpl hst
    · rw [if_neg (by simp only [decide_eq_true_eq]; omega)]
      exact j7 plan hpl hst
  -- slot by slot
  have main : ∀ (d m i : Nat) (missed next : Int) (heard : List (Int × Int)) (plan : List (Int × Bool)), i + d = 60 → d < m → plan.length = i → (∀ (k : Nat) (s : Int × Bool), plan[k]? = some s → (0 ≤ s.1 ∧ s.1 ≤ 48) ∧ (0 < s.1 → silP q (plN w1) (at_4 + k) = false)) →
      heard.length ≤ i → heard.Pairwise (fun a b => a.1 < b.1) → (∀ x ∈ heard, (at_4 ≤ x.1 ∧ x.1 < at_4 + (i : Int)) ∧ (x.2 = blP w1 q x.1 (x.1 % plN w1) ∨ x.2 = 0)) → missed = missC w1 q heard → next = nextS heard at_4 → 0 ≤ next → 0 ≤ missed → missed ≤ (i : Int) →
      ev_law05_StrikeRacks_l0 3100 at_4 (plN w1) m missed next (i : Int) by_5 w1 w2 w3 w1 true heard plan q = some true := by
    intro d
    induction d with
    | zero =>
      intro m i missed next heard plan hi hm hpl hst hhl hasc hhd hmi hne hn0 hm0 hm1
      cases m with
      | zero => omega
      | succ m =>
        rw [ev_law05_StrikeRacks_l0, cond_if, if_neg (by simp only [decide_eq_true_eq]; omega)]
        exact fin heard plan missed next (by omega) hst (by omega) hasc (fun x hx => ⟨by have := (hhd x hx).1; omega, (hhd x hx).2⟩) hmi hne hn0
    | succ d ih =>
      intro m i missed next heard plan hi hm hpl hst hhl hasc hhd hmi hne hn0 hm0 hm1
      cases m with
      | zero => omega
      | succ m =>
        rw [ev_law05_StrikeRacks_l0, cond_if, if_pos (by simp only [decide_eq_true_eq]; omega), cond_if]
        by_cases hlt : i < by_5.length
        · rw [if_pos (by simp only [decide_eq_true_eq]; omega)]
          obtain ⟨y, hy⟩ : ∃ y, y = by_5[i] := ⟨_, rfl⟩
          have hget : by_5[i]? = some y := by rw [hy, List.getElem?_eq_getElem hlt]
          have hy8 := hby y (hy ▸ List.getElem_mem hlt)
          obtain ⟨s, hs⟩ : ∃ s, s = at_4 + (i : Int) := ⟨_, rfl⟩
          have hes := emod_place w1 s
          have hbr := blP_range (h := w1) (q := q) (slot := s) hes
          obtain ⟨x, hx⟩ : ∃ x, x = blP w1 q s (s % plN w1) := ⟨_, rfl⟩
          rw [← hx] at hbr
          have hBl := ev_BlowsP (n := 3100) (by decide) (h := w1) (rack := true) (q := q) (by omega) s
          rw [if_neg (by simp [hc]), if_pos (by omega), ← hx] at hBl
          have t3 : Int.tmod y 3 = y % 3 := Int.tmod_eq_emod_of_nonneg hy8.1
          have t5 : Int.tmod y 5 = y % 5 := Int.tmod_eq_emod_of_nonneg hy8.1
          have t2 : Int.tmod y 2 = y % 2 := Int.tmod_eq_emod_of_nonneg hy8.1
          have t8 : Int.tdiv y 8 = y / 8 := Int.tdiv_eq_ediv_of_nonneg hy8.1
          have t83 : Int.tmod (y / 8) 3 = y / 8 % 3 := Int.tmod_eq_emod_of_nonneg (by omega)
          have e1 : ((i : Int) + 1) = ((i + 1 : Nat) : Int) := by omega
          -- the plan's step
          have j4 : ∀ (missed' next' : Int) (heard' : List (Int × Int)), heard'.length ≤ i + 1 → heard'.Pairwise (fun a b => a.1 < b.1) → (∀ x ∈ heard', (at_4 ≤ x.1 ∧ x.1 < at_4 + ((i + 1 : Nat) : Int)) ∧ (x.2 = blP w1 q x.1 (x.1 % plN w1) ∨ x.2 = 0)) → missed' = missC w1 q heard' → next' = nextS heard' at_4 → 0 ≤ next' → 0 ≤ missed' → missed' ≤ ((i + 1 : Nat) : Int) →
              ev_law05_StrikeRacks_j4 3100 (i : Int) at_4 (fun i8q i9q i10q l11q b12q i13q i14q b15q b16q l17q l18q l19q => ev_law05_StrikeRacks_l0 3100 at_4 (plN w1) m i8q i9q i10q l11q b12q i13q i14q b15q b16q l17q l18q l19q) missed' next' by_5 w1 w2 w3 w1 true heard' plan q = some true := by
            intro missed' next' heard' g1 g2 g3 g4 g5 g6 g7 g8
            have nx : ∀ s' : Int × Bool, (0 ≤ s'.1 ∧ s'.1 ≤ 48) → (0 < s'.1 → silP q (plN w1) (at_4 + (i : Int)) = false) → ev_law05_StrikeRacks_l0 3100 at_4 (plN w1) m missed' next' ((i : Int) + 1) by_5 w1 w2 w3 w1 true heard' (plan ++ [s']) q = some true := by
              intro s' a1 a2
              rw [e1]
              refine ih m (i + 1) missed' next' heard' (plan ++ [s']) (by omega) (by omega) (by simp [hpl]) (fun k t ht => ?_) g1 g2 g3 g4 g5 g6 g7 g8
              rcases Nat.lt_or_ge k plan.length with h | h
              · rw [List.getElem?_append_left h] at ht; exact hst k t ht
              · rw [List.getElem?_append_right h] at ht
                obtain ⟨h3, h4⟩ := List.getElem?_eq_some_iff.1 ht
                have hk : k = i := by simp at h3; omega
                subst hk
                have h5 : k - plan.length = 0 := by omega
                simp only [h5, List.getElem_cons_zero] at h4
                rw [← h4]; exact ⟨a1, a2⟩
            rw [ev_law05_StrikeRacks_j4, idx_nat hget, chk_of (in64_of (by omega)), bind_of (hsi _ (by omega)), cond_if]
            by_cases hsv : silP q (plN w1) (at_4 + (i : Int)) = true
            · rw [if_neg (by simp [hsv]), chk_of (room_iff.2 (by simp; omega)), chk_of (in64_of (by omega))]
              exact nx _ ⟨show (0 : Int) ≤ 0 by decide, show (0 : Int) ≤ 48 by decide⟩ (fun h => absurd (show (0 : Int) < 0 from h) (by decide))
            · have hsv : silP q (plN w1) (at_4 + (i : Int)) = false := by simpa using hsv
              rw [if_pos (by simp [hsv]), chk_of (in64_of (by omega)), t8, chk_of (in64_of (by omega)), t83, chk_of (room_iff.2 (by simp; omega)), chk_of (in64_of (by omega))]
              exact nx _ ⟨by simp only; omega, by simp only; omega⟩ (fun _ => hsv)
          -- what is heard
          have j3 : ∀ (missed' b : Int), missed' = missed + (if b = x then 0 else 1) → (b = x ∨ b = 0) →
              ev_law05_StrikeRacks_j3 3100 at_4 (i : Int) heard by_5 w1 w2 w3 w1 true plan q (fun i8q i9q i10q l11q b12q i13q i14q b15q b16q l17q l18q l19q => ev_law05_StrikeRacks_l0 3100 at_4 (plN w1) m i8q i9q i10q l11q b12q i13q i14q b15q b16q l17q l18q l19q) missed' b = some true := by
            intro missed' b hm' hb'
            rw [ev_law05_StrikeRacks_j3, chk_of (in64_of (by omega)), chk_of (room_iff.2 (by simp; omega)), chk_of (in64_of (by omega)), chk_of (in64_of (by omega)), ← hs]
            refine j4 missed' (s + 1) (heard ++ [(s, b)]) (by simp; omega) ?_ (fun z hz => ?_) ?_ ?_ (by omega) (by rw [hm']; split <;> omega) (by rw [hm']; split <;> omega)
            · rw [List.pairwise_append]
              refine ⟨hasc, List.pairwise_singleton _ _, fun a ha' c hc' => ?_⟩
              rw [List.mem_singleton] at hc'; subst hc'
              have := (hhd a ha').1
              show a.1 < s
              omega
            · rcases List.mem_append.1 hz with h | h
              · exact ⟨by have := (hhd z h).1; omega, (hhd z h).2⟩
              · rw [List.mem_singleton] at h; subst h
                refine ⟨by simp only; omega, ?_⟩
                show b = blP w1 q s (s % plN w1) ∨ b = 0
                rw [← hx]; exact hb'
            · rw [missC_snoc, hm', hmi]
              show _ = _ + if b = blP w1 q s (s % plN w1) then (0 : Int) else 1
              rw [← hx]
            · rw [nextS_snoc]
          rw [ev_law05_StrikeRacks_j1, bind_of hcp, chk_of (in64_of (by omega)), ← hs]
          simp only
          rw [bind_of hBl, cond_if, if_neg (by simp), idx_nat hget, t3, cond_if]
          by_cases h3 : 0 < y % 3
          · rw [if_pos (decide_eq_true h3), t5, cond_if]
            have j5 : ev_law05_StrikeRacks_j5 3100 at_4 (i : Int) heard by_5 w1 w2 w3 w1 true plan q missed (x, 0) (fun i8q i9q i10q l11q b12q i13q i14q b15q b16q l17q l18q l19q => ev_law05_StrikeRacks_l0 3100 at_4 (plN w1) m i8q i9q i10q l11q b12q i13q i14q b15q b16q l17q l18q l19q) = some true := by
              rw [ev_law05_StrikeRacks_j5]
              exact j3 missed x (by simp) (.inl rfl)
            by_cases h5 : y % 5 = 1
            · rw [if_pos (by simpa using h5), cond_if]
              by_cases hx0 : 0 < x
              · rw [if_pos (decide_eq_true hx0), ev_law05_StrikeRacks_j2, chk_of (in64_of (by omega))]
                exact j3 (missed + 1) 0 (by rw [if_neg (by omega)]) (.inr rfl)
              · rw [if_neg (by simpa using hx0)]
                exact j5
            · rw [if_neg (by simpa using h5)]
              exact j5
          · rw [if_neg (by simpa using h3)]
            exact j4 missed next heard (by omega) hasc (fun z hz => ⟨by have := (hhd z hz).1; omega, (hhd z hz).2⟩) hmi hne hn0 hm0 (by omega)
        · rw [if_neg (by simp only [decide_eq_true_eq]; omega)]
          exact fin heard plan missed next (by omega) hst (by omega) hasc (fun x hx => ⟨by have := (hhd x hx).1; omega, (hhd x hx).2⟩) hmi hne hn0
  refine ⟨3100, ?_⟩
  rw [ev_law05_StrikeRacks, bind_of ev_wplaces, bind_of hr, chk_of (in64_of (by omega))]
  exact main 60 3100 0 0 at_4 [] [] (by omega) (by omega) rfl (by simp) (by simp) List.Pairwise.nil (by simp) rfl rfl r4.1 (by omega) (by omega)
end Go.Proofs.Ytglgkcfgjaoabaa.Sy
