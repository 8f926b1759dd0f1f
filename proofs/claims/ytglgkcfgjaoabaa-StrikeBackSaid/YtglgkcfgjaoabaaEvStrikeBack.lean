/- Brought back: what the law computes is true. -/
import Derived.Test.YtglgkcfgjaoabaaGStrikeBack
import Derived.Test.YtglgkcfgjaoabaaEvWheel
set_option linter.unusedSimpArgs false
set_option linter.unusedVariables false
namespace Go.Proofs.Ytglgkcfgjaoabaa.Sy
open Go.RowKit
set_option maxRecDepth 100000

/-- a step is done -/
theorem ev_back7 {n : Nat} (hn : 60 < n) {h : Bool} {a b : Int} {q : List (Int × Int)} {slot p c held i24 off : Int} {hold : Bool} {L : List Int} {pl : List (Int × Bool)} {k : Int → Int → Int → Int → (List Int) → Bool → Int → Int → (List (Int × Bool)) → Option Bool} {r : Bool}
    (ho : 0 ≤ off ∧ off ≤ 48) (hp : 0 ≤ p ∧ p < plN h) (hc : 0 ≤ c ∧ c ≤ 100000) (hh : 0 ≤ held ∧ held ≤ 100000) (hi : 0 ≤ i24 ∧ i24 ≤ 100000) (hpl : pl.length ≤ 1000) (hs : 0 < off → silP q (plN h) slot = false)
    (hk : k (stepE h false q slot p (off, hold)).1 (c + (stepE h false q slot p (off, hold)).2.1) (held + if hold then 1 else 0) (i24 + 1) L h a b (pl ++ [(off, hold)]) = some r) :
    ev_law05_StrikeBack_j7 n (plN h) held i24 p c k L h a b pl off hold = some r := by
  have hN := plNs h
  have hst : stepE h false q slot p (off, hold) = (endP false hold (plN h) (letP h false (plN h) off.toNat p).1, (letP h false (plN h) off.toNat p).2, 0) := by
    unfold stepE
    rw [if_neg (by simp; omega)]
    by_cases h0 : 0 < off
    · rw [if_neg (by simp [hs h0])]
    · rw [if_neg (by simp; omega)]
  rw [hst] at hk
  simp only at hk
  have key : ∀ (d m : Nat) (i x e : Int), i + d = off → d < m → 0 ≤ i → (0 ≤ x ∧ x < plN h) → (letP h false (plN h) d x).1 = (letP h false (plN h) off.toNat p).1 → e + (letP h false (plN h) d x).2 = c + (letP h false (plN h) off.toNat p).2 → 0 ≤ e → e ≤ c + 12 * i →
      ev_law05_StrikeBack_l8 n off h a b (plN h) hold held pl i24 L k m x e i = some r := by
    intro d
    induction d with
    | zero =>
      intro m i x e hi hm h0 hx h1 h2 he he2
      cases m with
      | zero => omega
      | succ m =>
        have e1 : Int.tmod (x + 1) (plN h) = (x + 1) % plN h := Int.tmod_eq_emod_of_nonneg (by omega)
        simp only [letP, Int.add_zero] at h1 h2
        rw [← h1, ← h2] at hk
        unfold endP at hk
        rw [ev_law05_StrikeBack_l8, cond_if, if_neg (by simp; omega), cond_if]
        cases hold with
        | true =>
          rw [if_pos rfl, chk_of (in64_of (by omega)), chk_of (room_iff.2 (by simp; omega)), chk_of (in64_of (by omega))]
          simpa using hk
        | false =>
          rw [if_neg (by simp), chk_of (in64_of (by omega)), chk_of (by simp; omega), chk_of (room_iff.2 (by simp; omega)), chk_of (in64_of (by omega)), e1]
          simpa using hk
    | succ d ih =>
      intro m i x e hi hm h0 hx h1 h2 he he2
      cases m with
      | zero => omega
      | succ m =>
        have hat := atP_range hx
        have had := advP_range (rack := false) hx
        have e1 : Int.tmod (x + 1) (plN h) = (x + 1) % plN h := Int.tmod_eq_emod_of_nonneg (by omega)
        simp only [letP] at h1 h2
        have hadv : advP false (plN h) x = (x + 1) % plN h := rfl
        rw [hadv] at h1 h2 had
        rw [ev_law05_StrikeBack_l8, cond_if, if_pos (decide_eq_true (by omega)), bind_of (ev_wblows (by omega)), chk_of (in64_of (by omega)), chk_of (in64_of (by omega)), chk_of (by simp; omega), chk_of (in64_of (by omega)), e1]
        exact ih m (i + 1) _ _ (by omega) (by omega) (by omega) had h1 (by omega) (by omega) (by omega)
  rw [ev_law05_StrikeBack_j7]
  exact key off.toNat n 0 p c (by omega) (by omega) (by omega) hp rfl rfl hc.1 (by omega)
theorem strikeBack_evx {w1 : Bool} {w2 : Int} {w3 : Int} {at_4 : Int} {at_5 : Int} {at_6 : Int} {by_7 : List Int} (h0 : True ∧ (Lit.int .u8 w2).wf = true ∧ (Lit.int .u8 w3).wf = true) (h1 : (Lit.int .u8 at_4).wf = true ∧ (Lit.int .u8 at_5).wf = true ∧ (Lit.int .u8 at_6).wf = true) (h2 : (by_7.length ≤ maxLen ∧ ∀ el5 ∈ by_7, (Lit.int .u8 el5).wf = true)) :
    ∃ n, ev_law05_StrikeBack n w1 w2 w3 at_4 at_5 at_6 by_7 = some true := by
  have ha := wf8.1 h0.2.1
  have hb := wf8.1 h0.2.2
  simp only [wf8] at h1
  obtain ⟨r4, r5, r6⟩ := h1
  have hby : ∀ x ∈ by_7, 0 ≤ x ∧ x ≤ 255 := fun x hx => wf8.1 (h2.2 x hx)
  have hN := plNs w1
  have hl := quietP_len w1 w2 w3
  have hc := quietP_chk w1 (a := w2) (b := w3)
  have e5 : Int.tmod at_5 (plN w1) = at_5 % plN w1 := Int.tmod_eq_emod_of_nonneg r5.1
  have e6 : Int.tmod at_6 31 = at_6 % 31 := Int.tmod_eq_emod_of_nonneg r6.1
  obtain ⟨k, hk⟩ : ∃ k : Nat, (k : Int) = at_6 % 31 := ⟨(at_6 % 31).toNat, by omega⟩
  have hk2 : k ≤ 30 := by omega
  obtain ⟨q, hq⟩ : ∃ q, q = quietP w1 w2 w3 := ⟨_, rfl⟩
  have hr := ev_rules (n := 3100) (h := w1) ha hb
  have hsi := fun (s : Int) (hs : 0 ≤ s) => ev_silent (n := 3100) (h := w1) (slot := s) ha hb hs
  rw [← hq] at hr hl hc
  simp only [← hq] at hsi
  have hck : ev_strike_Check 3100 w1 false q = some 0 := by rw [ev_CheckP (by decide) (by omega), hc]
  obtain ⟨p, hp⟩ : ∃ p, p = at_5 % plN w1 := ⟨_, rfl⟩
  have rp := emod_place w1 at_5
  rw [← hp] at rp
  have eA : at_4 + at_6 % 31 = at_4 + (k : Int) := by omega
  obtain ⟨u, hu⟩ : ∃ u, u = at_4 + (k : Int) := ⟨_, rfl⟩
  have eu : Int.tmod u (plN w1) = u % plN w1 := Int.tmod_eq_emod_of_nonneg (by omega)
  have hB := ev_Bring (n := 3100) (by decide) (h := w1) (rack := false) (q := q) (by omega) hck (slot := at_4) (p := p) (by omega) rp (fun h => by cases h) (k := k) (by omega)
  rw [← hu] at hB
  have esl : u - (k : Int) = at_4 := by omega
  have hPl := fun (l : List (Int × Bool)) (hl : l.length ≤ 96) => ev_Play (n := 3100) (by decide) (h := w1) (rack := false) (q := q) (by omega) hck (slot := at_4) (p := p) (by omega) rp (fun h => by cases h) (plan := l) hl
  -- another plan
  have other : ∀ (r10 : (List (Int × Bool)) × Int × Int) (i20 : Int), (∀ (l : List (Int × Bool)) (c : Int), l.length = k → (∀ s ∈ l, s ∈ stepsL (nN w1)) → playP w1 false q l at_4 p 0 = (u % plN w1, c, 0) → r10.2.2 = 0 ∧ (r10.2.1 < c ∨ r10.2.1 = c ∧ i20 ≤ holdsP l)) →
      ∀ (d m i : Nat) (x c held : Int) (l : List (Int × Bool)), i + d = k → d < m → l.length = i → (∀ s ∈ l, s ∈ stepsL (nN w1)) → playP w1 false q l at_4 p 0 = (x, c, 0) → holdsP l = held → (0 ≤ x ∧ x < plN w1) → 0 ≤ c → c ≤ 576 * (i : Int) →
        ev_law05_StrikeBack_l5 3100 at_4 at_6 (plN w1) at_5 r10 i20 m x c held (at_4 + (i : Int)) by_7 w1 w2 w3 l = some true := by
    intro r10 i20 H d
    induction d with
    | zero =>
      intro m i x c held l hi hm hli hst hpl hho hx hc0 hc1
      cases m with
      | zero => omega
      | succ m =>
        have hik : i = k := by omega
        rw [ev_law05_StrikeBack_l5, e6, eA, ← hu, cond_if, if_neg (by simp only [decide_eq_true_eq]; omega), bind_of hr]
        simp only
        rw [e5, ← hp, bind_of (hPl l (by omega)), hpl, cond_if, if_neg (by simp), cond_if, if_neg (by simp), cond_if, if_neg (by simp), ev_law05_StrikeBack_j9, chk_of (by simp; omega), e6, eA, ← hu, eu, cond_if]
        by_cases hend : x = u % plN w1
        · rw [if_neg (by simp [hend])]
          obtain ⟨g1, g2⟩ := H l c (by omega) hst (by rw [hpl, hend])
          rw [cond_if, if_pos (by simp [g1]), cond_if]
          rcases g2 with g2 | ⟨g2, g3⟩
          · rw [if_pos (decide_eq_true g2), bind_of known_ev]
          · rw [if_neg (by simp only [decide_eq_true_eq]; omega), cond_if, if_pos (by simp [g2]), cond_if, if_pos (decide_eq_true (by omega)), bind_of known_ev]
        · rw [if_pos (by simpa using hend), bind_of known_ev]
    | succ d ih =>
      intro m i x c held l hi hm hli hst hpl hho hx hc0 hc1
      cases m with
      | zero => omega
      | succ m =>
        have hhr := holdsP_range l
        obtain ⟨y, hy, y0, y1⟩ := ev_byteOf (n := 3100) hby (i := (i : Int)) (by omega)
        have t1 : Int.tmod y 3 = y % 3 := Int.tmod_eq_emod_of_nonneg y0
        have t2 : Int.tdiv y 3 = y / 3 := Int.tdiv_eq_ediv_of_nonneg y0
        have t3 : Int.tmod (y / 3) 8 = y / 3 % 8 := Int.tmod_eq_emod_of_nonneg (by omega)
        have t4 : Int.tdiv (y / 3 % 8) 5 = y / 3 % 8 / 5 := Int.tdiv_eq_ediv_of_nonneg (by omega)
        -- a step, and the rest
        have step : ∀ (off : Int) (hold : Bool), (0 ≤ off ∧ off < plN w1) → (0 < off → silP q (plN w1) (at_4 + (i : Int)) = false) →
            ev_law05_StrikeBack_j7 3100 (plN w1) held (at_4 + (i : Int)) x c (fun i21q i22q i23q i24q l25q b26q i27q i28q l29q => ev_law05_StrikeBack_l5 3100 at_4 at_6 (plN w1) at_5 r10 i20 m i21q i22q i23q i24q l25q b26q i27q i28q l29q) by_7 w1 w2 w3 l off hold = some true := by
          intro off hold hoff hsil
          have hrg := stepE_range (rack := false) (q := q) (slot := at_4 + (i : Int)) (s := (off, hold)) hx
          have h0 : (stepE w1 false q (at_4 + (i : Int)) x (off, hold)).2.2 = 0 := by
            unfold stepE
            rw [if_neg (by simp; omega)]
            by_cases h0 : 0 < off
            · rw [if_neg (by simp [hsil h0])]
            · rw [if_neg (by simp; omega)]
          refine ev_back7 (q := q) (slot := at_4 + (i : Int)) (by decide) (by omega) hx (by omega) (by omega) (by omega) (by omega) hsil ?_
          have e : at_4 + (i : Int) + 1 = at_4 + ((i + 1 : Nat) : Int) := by omega
          rw [e]
          refine ih m (i + 1) _ _ _ _ (by omega) (by omega) (by simp [hli]) (fun s hs => ?_) ?_ ?_ hrg.1 (by omega) (by omega)
          · rcases List.mem_append.1 hs with hs | hs
            · exact hst s hs
            · rw [List.mem_singleton] at hs; subst hs
              rw [stepsL_mem, nN_cast]; exact hoff
          · rw [play_append l [(off, hold)] at_4 p 0 (by rw [hpl]), hpl, hli]
            simp only [playP, h0, if_true]
          · unfold holdsP at hho ⊢
            rw [List.filter_append, List.length_append, List.filter_cons]
            cases hold with
            | true => simp; omega
            | false => simp; omega
        have elt : at_4 + (i : Int) - at_4 = (i : Int) := by omega
        have j6 : ∀ want : Int, (0 ≤ want ∧ want < plN w1) → silP q (plN w1) (at_4 + (i : Int)) = false →
            ev_law05_StrikeBack_j6 3100 x (plN w1) held (at_4 + (i : Int)) c by_7 w1 w2 w3 l y (fun i21q i22q i23q i24q l25q b26q i27q i28q l29q => ev_law05_StrikeBack_l5 3100 at_4 at_6 (plN w1) at_5 r10 i20 m i21q i22q i23q i24q l25q b26q i27q i28q l29q) want = some true := by
          intro want hw hsil
          have tm : Int.tmod (want - x + plN w1) (plN w1) = (want - x + plN w1) % plN w1 := Int.tmod_eq_emod_of_nonneg (by omega)
          rw [ev_law05_StrikeBack_j6, chk_of (in64_of (by omega)), chk_of (in64_of (by omega)), chk_of (by simp; omega), tm]
          exact step _ _ (emod_place w1 _) (fun _ => hsil)
        rw [ev_law05_StrikeBack_l5, e6, eA, ← hu, cond_if, if_pos (decide_eq_true (by omega)), chk_of (in64_of (by omega)), elt, bind_of hy, bind_of (hsi _ (by omega)), cond_if]
        by_cases hs : silP q (plN w1) (at_4 + (i : Int)) = true
        · rw [if_neg (by simp [hs])]
          exact step 0 _ ⟨by decide, by omega⟩ (fun h => absurd h (by decide))
        · have hs : silP q (plN w1) (at_4 + (i : Int)) = false := by simpa using hs
          rw [if_pos (by simp [hs]), t2, chk_of (in64_of (by omega)), t3, t4, chk_of (in64_of (by omega)), chk_of (in64_of (by omega)), cond_if]
          by_cases hlast : at_4 + (i : Int) = u - 1
          · have tu : Int.tmod (u + 2 * plN w1 - 1) (plN w1) = (u + 2 * plN w1 - 1) % plN w1 := Int.tmod_eq_emod_of_nonneg (by omega)
            rw [if_pos (by simpa using hlast), chk_of (in64_of (by omega)), chk_of (in64_of (by omega)), chk_of (in64_of (by omega)), chk_of (by simp; omega), cond_if]
            split
            · rw [chk_of (by simp; omega), eu]
              exact j6 _ (emod_place w1 _) hs
            · rw [tu]
              exact j6 _ (emod_place w1 _) hs
          · rw [if_neg (by simpa using hlast)]
            exact step _ _ (by omega) (fun _ => hs)
  have j4 : ∀ (r10 : (List (Int × Bool)) × Int × Int) (i20 : Int), (∀ (l : List (Int × Bool)) (c : Int), l.length = k → (∀ s ∈ l, s ∈ stepsL (nN w1)) → playP w1 false q l at_4 p 0 = (u % plN w1, c, 0) → r10.2.2 = 0 ∧ (r10.2.1 < c ∨ r10.2.1 = c ∧ i20 ≤ holdsP l)) →
      ev_law05_StrikeBack_j4 3100 at_4 at_6 (plN w1) at_5 r10 by_7 w1 w2 w3 i20 = some true := by
    intro r10 i20 H
    rw [ev_law05_StrikeBack_j4, e5, ← hp]
    have := other r10 i20 H k 3100 0 p 0 0 [] (by omega) (by omega) rfl (by simp) rfl rfl rp (by omega) (by omega)
    simpa using this
  have best : ∀ (l : List (Int × Bool)) (c : Int), l.length = k → (∀ s ∈ l, s ∈ stepsL (nN w1)) → playP w1 false q l at_4 p 0 = (u % plN w1, c, 0) → ∃ a, bestP w1 false q u k p = some a ∧ ¬ ltC (c, holdsP l) a.1 := by
    intro l c hlk hst hpl
    have := plan_best (h := w1) (rack := false) (q := q) (until_ := u) k p l hlk hst (by rw [esl, hpl]) (by rw [esl, hpl])
    rw [esl, hpl] at this
    exact this
  refine ⟨3100, ?_⟩
  rw [ev_law05_StrikeBack, bind_of ev_wplaces, chk_of (in64_of (by omega)), chk_of (in64_of (by omega)), chk_of (by simp; omega), chk_of (in64_of (by omega)), e6, eA, ← hu, chk_of (in64_of (by omega)), bind_of hr]
  simp only
  rw [e5, ← hp, bind_of hB]
  cases hb1 : bestP w1 false q u k p with
  | none =>
    have hlt : (k : Int) < plN w1 := by
      rcases Int.lt_or_le (k : Int) (plN w1) with h | h
      · exact h
      · obtain ⟨b, hb', _⟩ := best_free (h := w1) (q := q) (u := u) h rp
        rw [hb1] at hb'; cases hb'
    simp only
    rw [cond_if, if_pos (by decide), cond_if, if_neg (by decide), cond_if, if_pos (by decide), cond_if, if_neg (by decide), cond_if, if_neg (by decide), chk_of (in64_of (by omega)), cond_if, if_neg (by simp only [decide_eq_true_eq]; omega), ev_law05_StrikeBack_j0, cond_if, if_neg (by decide)]
    exact j4 ([], 0, 7) 0 fun l c hlk hst hpl => by
      obtain ⟨a, ha', _⟩ := best l c hlk hst hpl
      rw [hb1] at ha'; cases ha'
  | some a =>
    obtain ⟨p1, p2, p3⟩ := plan_plays k p a hb1
    rw [esl] at p1
    obtain ⟨P, hP⟩ : ∃ P, P = planP w1 false q u k p := ⟨_, rfl⟩
    rw [← hP] at p1 p2 p3 ⊢
    simp only
    have fin := j4 (P, a.1.1, 0) a.1.2 fun l c hlk hst hpl => by
      obtain ⟨a', ha', hna⟩ := best l c hlk hst hpl
      rw [hb1] at ha'; cases ha'
      refine ⟨rfl, ?_⟩
      unfold ltC at hna
      simp only at hna ⊢
      omega
    have hq2 := play_quiet (h := w1) (rack := false) (q := q) P at_4 p 0 (by rw [p1])
    have key : ∀ (d m i : Nat) (c : Int), i + d = k → d < m → 0 ≤ c → c ≤ (i : Int) → c + holdsP (P.drop i) = a.1.2 → ev_law05_StrikeBack_l2 3100 (P, a.1.1, 0) at_4 w1 w2 w3 at_6 (plN w1) at_5 by_7 m c (i : Int) = some true := by
      intro d
      induction d with
      | zero =>
        intro m i c hi hm hc0 hc1 hs
        cases m with
        | zero => omega
        | succ m =>
          rw [List.drop_eq_nil_of_le (by omega)] at hs
          have h00 : holdsP ([] : List (Int × Bool)) = 0 := rfl
          have : c = a.1.2 := by omega
          rw [ev_law05_StrikeBack_l2, cond_if, if_neg (by simp only [decide_eq_true_eq]; omega), this]
          exact fin
      | succ d ih =>
        intro m i c hi hm hc0 hc1 hs
        cases m with
        | zero => omega
        | succ m =>
          have hlt : i < P.length := by omega
          obtain ⟨s, hs'⟩ : ∃ s, s = P[i] := ⟨_, rfl⟩
          have hget : P[i]? = some s := by rw [hs', List.getElem?_eq_getElem hlt]
          rw [List.drop_eq_getElem_cons hlt, ← hs', holdsP_cons] at hs
          have hj3 : ∀ c' : Int, c' = c + (if s.2 = true then 1 else 0) → ev_law05_StrikeBack_j3 3100 (P, a.1.1, 0) (i : Int) at_4 w1 w2 w3 (fun i14q i15q => ev_law05_StrikeBack_l2 3100 (P, a.1.1, 0) at_4 w1 w2 w3 at_6 (plN w1) at_5 by_7 m i14q i15q) c' = some true := by
            intro c' hc'
            have nx := ih m (i + 1) c' (by omega) (by omega) (by rw [hc']; split <;> omega) (by rw [hc']; split <;> omega) (by rw [hc']; omega)
            rw [ev_law05_StrikeBack_j3, idx_nat hget, cond_if]
            split
            · rename_i hoff
              rw [chk_of (in64_of (by omega)), bind_of (hsi _ (by omega)), hq2 i s hget (of_decide_eq_true hoff), cond_false, chk_of (in64_of (by omega))]
              exact nx
            · rw [chk_of (in64_of (by omega))]
              exact nx
          rw [ev_law05_StrikeBack_l2, cond_if, if_pos (by simp only [decide_eq_true_eq]; omega), idx_nat hget, cond_if]
          split
          · rename_i h2
            rw [chk_of (in64_of (by omega))]
            exact hj3 (c + 1) (by rw [if_pos h2])
          · rename_i h2
            exact hj3 c (by rw [if_neg h2]; omega)
    rw [cond_if, if_neg (by simp), cond_if, if_neg (by simp), ev_law05_StrikeBack_j0, cond_if, if_pos (by rfl), bind_of hr]
    simp only
    rw [bind_of (ev_stepsC (by omega)), e5, ← hp, bind_of (hPl P (by omega)), p1, cond_if, if_neg (by simp), e6, eA, ← hu, chk_of (in64_of (by omega)), cond_if, if_neg (by simp; omega), chk_of (by simp; omega), eu, cond_if, if_neg (by simp), cond_if, if_neg (by simp), ev_law05_StrikeBack_j1]
    exact key k 3100 0 0 (by omega) (by omega) (by omega) (by omega) (by rw [List.drop_zero, Int.zero_add]; exact p2)
end Go.Proofs.Ytglgkcfgjaoabaa.Sy
