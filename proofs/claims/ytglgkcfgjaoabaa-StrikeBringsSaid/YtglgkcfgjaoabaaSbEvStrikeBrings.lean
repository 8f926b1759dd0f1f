/- StrikeBrings: the reference's plan is the best one, and the program's. -/
import Derived.Test.YtglgkcfgjaoabaaSbEvCosts
import Derived.Test.YtglgkcfgjaoabaaSbGStrikeBrings
set_option linter.unusedSimpArgs false
set_option linter.unusedVariables false
namespace Go.Proofs.Ytglgkcfgjaoabaa.Sy
open Go.RowKit
set_option maxRecDepth 100000
def hitB (st : Int × Bool → Int × Int × Int) (cost : Int → Option Bst) (c : Int × Int) (s : Int × Bool) : Bool := decide ((st s).2.2 = 0) && (decide ((st s).2.1 + hvP (cost (st s).1) = c.1) && decide ((if s.2 then 1 else 0) + ovP (cost (st s).1) = c.2))
theorem hitB_iff {st : Int × Bool → Int × Int × Int} {cost : Int → Option Bst} {c : Int × Int} {s : Int × Bool} (h0 : 0 ≤ (st s).2.1) (hc : c.1 < 1000000) : hitB st cost c s = true ↔ hitP st cost c s := by
  unfold hitB hitP;simp only [Bool.and_eq_true, decide_eq_true_eq]
  cases hb : cost (st s).1 with
  | none =>
    simp only [hvP, ovP]
    constructor
    · rintro ⟨_, h1, _⟩; omega
    · rintro ⟨_, b, hb2, _⟩; cases hb2
  | some b =>
    simp only [hvP, ovP]
    constructor
    · rintro ⟨h1, h2, h3⟩
      refine ⟨h1, b, rfl, ?_⟩;unfold costOf;obtain ⟨c1, c2⟩ := c;simp only [Prod.mk.injEq] at *
      omega
    · rintro ⟨h1, b', hb2, rfl⟩
      cases hb2;unfold costOf;exact ⟨h1, Int.add_comm .., Int.add_comm ..⟩
section
variable {h rack : Bool} {q : List (Int × Int)} (hq : q.length ≤ 20) {slot : Int} {d : Nat} (hd : d ≤ 96) (hs : 0 ≤ slot ∧ slot ≤ 2000000) {n : Nat} (hn : 200 < n) {hh oo : List (List Int)} (H : Tab h rack q (slot + d) d (fun _ _ => True) hh oo)
include hq hd hs hn H in
theorem bring_try {j : Nat} (hj : j < d) {p : Int} (hp : 0 ≤ p ∧ p < plN h) {a : Bst} (ha : bestP h rack q (slot + d) (d - j) p = some a) {off : Nat} (ho : off ≤ 24) (b : Bool) {plan : List (Int × Bool)} (hpl : plan.length ≤ 1000) {i : Int} (hi : i = if b then 1 else 0)
    {k3 : Int → Bool → Int → Bool → Bool → (List ((List Int))) → (List ((List Int))) → (List (Int × Bool)) → (List (Int × Int)) → Option ((List (Int × Bool)) × Int × Bool)} {f : Bool} :
    ev_ref05_Bring_j4 n h rack q (slot + j) p (off : Int) i slot hh oo plan f k3 = if hitB (stepE h rack q (slot + j) p) (bestP h rack q (slot + d) (d - (j + 1))) a.1 ((off : Int), b) = true then
      k3 (stepE h rack q (slot + j) p ((off : Int), b)).1 true (i - 1) h rack hh oo (plan ++ [((off : Int), b)]) q else k3 p f (i - 1) h rack hh oo plan q := by
  have hN := nN_cast h;have hi2 : i < 2 ∧ 0 ≤ i := by subst hi; split <;> omega
  have hib : (i == 1) = b := by subst hi; cases b <;> rfl
  have hstep := ev_refStep (n := n) (by omega) (rack := rack) hq (slot := slot + j) (by omega) hp ((off : Int), b);unfold hitB;dsimp only;rw [← hi];obtain ⟨st, hst⟩ : ∃ st, st = stepE h rack q (slot + j) p ((off : Int), b) := ⟨_, rfl⟩;have hr := stepE_range (rack := rack) (q := q) (slot := slot + j) (s := ((off : Int), b)) hp;rw [← hst] at hr;have hba := best_range _ _ a hp ha;obtain ⟨r, r', a1, a2, a3, a4, a5⟩ := H.row (j + 1) (by omega);obtain ⟨s, s', b1, b2, b3, b4, b5⟩ := H.row j (by omega);obtain ⟨v1, v2⟩ := a5 st.1.toNat (by omega) trivial;obtain ⟨u1, u2⟩ := b5 p.toNat (by omega) trivial;rw [show ((st.1.toNat : Nat) : Int) = st.1 by omega] at v1 v2;rw [show ((p.toNat : Nat) : Int) = p by omega, ha] at u1 u2;simp only [hvP, ovP] at u1 u2;have hb := rng_hv (best_rng (rack := rack) (q := q) (until_ := slot + d) (k := d - (j + 1)) (by omega) hr.1);have e1 : (slot + (j : Int) + 1) - slot = ((j + 1 : Nat) : Int) := by omega
  have e0 : slot + (j : Int) - slot = (j : Int) := by omega
  rw [ev_ref05_Bring_j4, hib, bind_of hstep, cond_if, ← hst]
  by_cases h0 : st.2.2 = 0
  · rw [if_pos (by simpa using h0), chk_of (in64_of (by omega)), chk_of (in64_of (by omega)), e1, idx_nat a1, idx_of hr.1.1 v1, chk_of (in64_of (by omega)), chk_of (in64_of (by omega)), e0, idx_nat b1, idx_of hp.1 u1, cond_if, decide_eq_true h0, Bool.true_and]
    by_cases h1 : st.2.1 + hvP (bestP h rack q (slot + d) (d - (j + 1)) st.1) = a.1.1
    · rw [if_pos (by simpa using h1), decide_eq_true h1, Bool.true_and, chk_of (in64_of (by omega)), chk_of (in64_of (by omega)), idx_nat a2, idx_of hr.1.1 v2, chk_of (in64_of (by omega)), chk_of (in64_of (by omega)), idx_nat b2, idx_of hp.1 u2, cond_if]
      by_cases h2 : i + ovP (bestP h rack q (slot + d) (d - (j + 1)) st.1) = a.1.2
      · rw [if_pos (by simpa using h2), if_pos (decide_eq_true h2), chk_of (room_iff.2 (by simp; omega)), chk_of (in64_of (by omega))]
      · rw [if_neg (by simpa using h2), if_neg (by simpa using h2), chk_of (in64_of (by omega))]
    · rw [if_neg (by simpa using h1), if_neg (by simp [h1]), chk_of (in64_of (by omega))]
  · rw [if_neg (by simpa using h0), if_neg (by simp [h0]), chk_of (in64_of (by omega))]
include hq hd hs hn H in
theorem bring_find {j : Nat} (hj : j < d) {p : Int} (hp : 0 ≤ p ∧ p < plN h) {a : Bst} (ha : bestP h rack q (slot + d) (d - j) p = some a) {plan : List (Int × Bool)} (hpl : plan.length ≤ 1000) {s : Int × Bool}
    {k0 : Int → Int → Bool → Bool → (List ((List Int))) → (List ((List Int))) → (List (Int × Bool)) → (List (Int × Int)) → Option ((List (Int × Bool)) × Int × Bool)} :
    ∀ (k m : Nat), k ≤ 24 → k + 1 < m → (stepsL k).find? (hitB (stepE h rack q (slot + j) p) (bestP h rack q (slot + d) (d - (j + 1))) a.1) = some s →
      ev_ref05_Bring_l1 n (slot + j) slot k0 m p false ((k : Int) - 1) h rack hh oo plan q = k0 (stepE h rack q (slot + j) p s).1 (slot + j + 1) h rack hh oo (plan ++ [s]) q := by
  intro k
  induction k with
  | zero => intro m hk hm hf; simp [stepsL] at hf
  | succ k ih =>
    intro m hk hm hf;obtain ⟨m, rfl⟩ : ∃ m', m = m' + 2 := ⟨m - 2, by omega⟩;obtain ⟨n', hn'⟩ : ∃ n', n = n' + 3 := ⟨n - 3, by omega⟩
    -- found: the loops end
    have hend : ∀ (x : Int) (pl : List (Int × Bool)) (i : Int) (z : Nat), -1 ≤ i ∧ i ≤ 1 → 0 < z → ev_ref05_Bring_l3 n (slot + j) (k : Int) slot (fun i19q b20q i21q b22q b23q l24q l25q l26q l27q => ev_ref05_Bring_l1 n (slot + j) slot k0 (m + 1) i19q b20q i21q b22q b23q l24q l25q l26q l27q) z x true i h rack hh oo pl q = k0 x (slot + j + 1) h rack hh oo pl q := fun x pl i z hi hz => by
      obtain ⟨z, rfl⟩ : ∃ z', z = z' + 1 := ⟨z - 1, by omega⟩;have hl1 : ev_ref05_Bring_l1 n (slot + j) slot k0 (m + 1) x true ((k : Int) - 1) h rack hh oo pl q = k0 x (slot + j + 1) h rack hh oo pl q := by
        rw [ev_ref05_Bring_l1, cond_if]
        split
        · rw [cond_if, if_neg (by simp), chk_of (in64_of (by omega))]
        · rw [chk_of (in64_of (by omega))]
      rw [ev_ref05_Bring_l3, cond_if]
      split
      · rw [cond_if, if_neg (by simp), chk_of (in64_of (by omega))]; exact hl1
      · rw [chk_of (in64_of (by omega))]; exact hl1
    rw [ev_ref05_Bring_l1, cond_if, if_pos (by simp), cond_if, if_pos (by decide), ev_ref05_Bring_j2, show ((k + 1 : Nat) : Int) - 1 = (k : Int) by omega]
    conv => lhs; rw [hn']
    rw [ev_ref05_Bring_l3, ← hn', cond_if, if_pos (by decide), cond_if, if_pos (by decide), bring_try hq hd hs hn H hj hp ha (off := k) (by omega) true hpl (i := 1) (by simp)];simp only [stepsL, List.find?_cons] at hf
    by_cases h1 : hitB (stepE h rack q (slot + j) p) (bestP h rack q (slot + d) (d - (j + 1))) a.1 ((k : Int), true) = true
    · rw [if_pos h1];rw [h1] at hf;obtain rfl := Option.some.inj hf;exact hend _ _ _ _ (by decide) (by omega)
    · rw [if_neg h1, show (1 : Int) - 1 = 0 from rfl, ev_ref05_Bring_l3, cond_if, if_pos (by decide), cond_if, if_pos (by decide), bring_try hq hd hs hn H hj hp ha (off := k) (by omega) false hpl (i := 0) (by simp)];rw [show hitB (stepE h rack q (slot + j) p) (bestP h rack q (slot + d) (d - (j + 1))) a.1 ((k : Int), true) = false by simpa using h1] at hf
      by_cases h2 : hitB (stepE h rack q (slot + j) p) (bestP h rack q (slot + d) (d - (j + 1))) a.1 ((k : Int), false) = true
      · rw [if_pos h2];rw [h2] at hf;obtain rfl := Option.some.inj hf;exact hend _ _ _ _ (by decide) (by omega)
      · rw [show hitB (stepE h rack q (slot + j) p) (bestP h rack q (slot + d) (d - (j + 1))) a.1 ((k : Int), false) = false by simpa using h2] at hf;rw [if_neg h2, ev_ref05_Bring_l3, cond_if, if_neg (by decide), chk_of (in64_of (by omega))];exact ih (m + 1) (by omega) (by omega) hf
include hq hd hs hn H in
theorem bring_plan {x9 : Int} : ∀ (k m j : Nat) (p : Int) (a : Bst) (plan : List (Int × Bool)), j + k = d → k < m → (0 ≤ p ∧ p < plN h) → plan.length = j → bestP h rack q (slot + d) k p = some a →
    ev_ref05_Bring_l0 n (slot + d) slot x9 m p (slot + j) h rack hh oo plan q = some (plan ++ planP h rack q (slot + d) k p, x9, true) := by
  have hN := nN_cast h;have hN24 : nN h ≤ 24 := by cases h <;> simp [nN]
  intro k
  induction k with
  | zero =>
    intro m j p a plan hj hm hp hpl ha;obtain ⟨m, rfl⟩ : ∃ m', m = m' + 1 := ⟨m - 1, by omega⟩;rw [ev_ref05_Bring_l0, cond_if, if_neg (by simp; omega), planP, List.append_nil]
  | succ k ih =>
    intro m j p a plan hj hm hp hpl ha;obtain ⟨m, rfl⟩ : ∃ m', m = m' + 1 := ⟨m - 1, by omega⟩;have hk1 : d - j = k + 1 := by omega
    have hk2 : d - (j + 1) = k := by omega
    have hu : slot + (d : Int) - ((k + 1 : Nat) : Int) = slot + j := by omega
    obtain ⟨pre, suf, e, hhit, hpre⟩ := best_first ha;obtain ⟨_, _, b, hb, _⟩ := best_is ha;rw [hu] at hhit hpre hb;have hba := best_range _ _ a hp ha;have hfind : (stepsL (nN h)).find? (hitB (stepE h rack q (slot + j) p) (bestP h rack q (slot + d) (d - (j + 1))) a.1) = some a.2 := by
      rw [hk2, e, List.find?_append, List.find?_eq_none.2 fun s hs' => ?_, Option.none_or, List.find?_cons_of_pos]
      · exact (hitB_iff (stepE_range (rack := rack) (q := q) (slot := slot + j) (s := a.2) hp).2.1 (by omega)).2 hhit
      · exact fun hx => hpre s hs' ((hitB_iff (stepE_range (rack := rack) (q := q) (slot := slot + j) (s := s) hp).2.1 (by omega)).1 hx)
    have hr := stepE_range (rack := rack) (q := q) (slot := slot + j) (s := a.2) hp;rw [ev_ref05_Bring_l0, cond_if, if_pos (decide_eq_true (by omega)), bind_of ev_refN, chk_of (in64_of (by omega)), ← hN, bring_find hq hd hs hn H (j := j) (by omega) hp (hk1 ▸ ha) (by omega) (nN h) n hN24 (by omega) hfind,
      show slot + (j : Int) + 1 = slot + ((j + 1 : Nat) : Int) by omega, ih m (j + 1) _ b (plan ++ [a.2]) (by omega) (by omega) hr.1 (by rw [List.length_append, hpl]; rfl) hb, planP]
    simp only [ha, hu, List.append_assoc, List.cons_append, List.nil_append]
end
theorem ev_refBring {h rack : Bool} {q : List (Int × Int)} (hq : q.length ≤ 20) {slot p : Int} {d : Nat} (hd : d ≤ 96) (hs : 0 ≤ slot ∧ slot ≤ 2000000) {n : Nat} (hn : 200 < n) (hp : 0 ≤ p ∧ p < plN h) :
    ev_ref05_Bring n h rack q slot p (slot + d) = some (match bestP h rack q (slot + d) d p with | some a => (planP h rack q (slot + d) d p, a.1.1, true) | none => ([], 0, false)) := by
  have hN := nN_cast h;obtain ⟨hh, oo, H, e⟩ := ev_Costs (h := h) (rack := rack) hq hd hs hn;obtain ⟨r, r', a1, a2, a3, a4, a5⟩ := H.row 0 (by omega);obtain ⟨v1, v2⟩ := a5 p.toNat (by omega) trivial;rw [show ((p.toNat : Nat) : Int) = p by omega, Nat.sub_zero] at v1;rw [ev_ref05_Bring, bind_of e];dsimp only;rw [idx_of (by decide) a1, idx_of hp.1 v1, cond_if]
  cases hb : bestP h rack q (slot + d) d p with
  | none => rw [if_pos (by simp [hvP])]
  | some a =>
    have hba := best_range _ _ a hp hb;rw [if_neg (by simp only [hvP, beq_iff_eq]; omega)];have := bring_plan hq hd hs hn H (x9 := a.1.1) d n 0 p a [] (by omega) (by omega) hp rfl hb;rw [show slot + ((0 : Nat) : Int) = slot by omega] at this;exact this
theorem ev_BringP {n : Nat} (hn : 300 < n) {h rack : Bool} {q : List (Int × Int)} (hq : q.length ≤ 20) (slot p u : Int) (hu : in64 u = true) :
    ev_strike_Bring n h rack q slot p u = some (if chkP h q ≠ 0 then ([], 0, chkP h q) else if begP h rack slot p ≠ 0 then ([], 0, begP h rack slot p) else if u < slot ∨ slot + 96 < u then ([], 0, 3)
      else match bestP h rack q u (u - slot).toNat p with | some a => (planP h rack q u (u - slot).toNat p, a.1.1, 0) | none => ([], 0, 7)) := by
  by_cases hc : chkP h q = 0
  · rw [if_neg (by simp [hc])]
    by_cases hb : begP h rack slot p = 0
    · obtain ⟨b1, b2, b3⟩ := begP_ok hb;rw [if_neg (by simp [hb])]
      by_cases hr : u < slot ∨ slot + 96 < u
      · rw [if_pos hr, ev_strike_Bring, bind_of (ev_beginP (by omega) hq slot p), cond_if];simp only [hc, hb, ne_eq, not_true_eq_false, if_false];rw [if_neg (by decide), chk_of (in64_of (by omega)), bind_of (wi1_strike (by omega)), cond_if, if_pos (by simp; omega)]
      · rw [if_neg hr];have hck : ev_strike_Check n h rack q = some 0 := by rw [ev_CheckP (by omega) hq, hc]
        have := ev_Bring hn (chkP_len hc) hck b1 b2 b3 (k := (u - slot).toNat) (by omega);rw [show slot + (((u - slot).toNat : Nat) : Int) = u by omega] at this;exact this
    · rw [if_pos hb, ev_strike_Bring, bind_of (ev_beginP (by omega) hq slot p), cond_if];simp only [hc, ne_eq, not_true_eq_false, if_false];rw [if_pos (by simpa using hb)]
  · rw [if_pos hc, ev_strike_Bring, bind_of (ev_beginP (by omega) hq slot p), cond_if];simp only [hc, ne_eq, not_false_eq_true, if_true];rw [if_pos (by simpa using hc)]
theorem strikeBrings_evx {rr1 : Bool} {rr2 : Bool} {rr3 : List (Int × Int)} {at_4 : Int} {at_5 : Int} {until6 : Int} (h0 : True ∧ True ∧ (rr3.length ≤ maxLen ∧ ∀ el81 ∈ rr3, (Lit.int .i64 el81.1).wf = true ∧ (Lit.int .i64 el81.2).wf = true)) (h1 : (Lit.int .i64 at_4).wf = true ∧ (Lit.int .i64 at_5).wf = true) (h2 : (Lit.int .i64 until6).wf = true) :
    ∃ n, ev_law05_StrikeBrings n rr1 rr2 rr3 at_4 at_5 until6 = some true := by
  have hu : in64 until6 = true := in64_of (wf64_iff.1 h2);refine ⟨3100, ?_⟩;rw [ev_law05_StrikeBrings]
  by_cases hl : 20 < rr3.length
  · have e : ev_ref05_Check 3100 rr1 rr2 rr3 = some 5 := by rw [ev_ref05_Check, cond_if, if_pos (decide_eq_true (by omega))]
    rw [bind_of e, cond_if, if_pos (decide_eq_true (by omega)), bind_of known_ev]
  · have hq : rr3.length ≤ 20 := by omega
    have hcop : ev_law05_copied 3100 rr1 rr2 rr3 = some (rr1, rr2, rr3) := ev_copied (by omega);have hB := ev_BringP (n := 3100) (by decide) (h := rr1) (rack := rr2) hq at_4 at_5 until6 hu;have f7 : ∀ x : Int, ev_law05_StrikeBrings_j7 3100 ([], 0, x) x = some true := by
      intro x; rw [ev_law05_StrikeBrings_j7, cond_if, if_pos (by simp), cond_if, if_pos (by simp), cond_if, if_pos (by simp), bind_of known_ev]
    have f3 : ∀ x : Int, ev_law05_StrikeBrings_j3 3100 ([], 0, x) x = some true := by
      intro x; rw [ev_law05_StrikeBrings_j3, cond_if, if_pos (by simp), cond_if, if_pos (by simp), cond_if, if_pos (by simp), bind_of known_ev]
    rw [bind_of (ev_refCheck (by decide) hq), cond_if, if_neg (fun h => hl (by have := of_decide_eq_true h; omega)), cond_if]
    by_cases hc : chkP rr1 rr3 = 0
    · rw [if_pos (by simpa using hc), bind_of (ev_refBegin at_4 at_5), ev_law05_StrikeBrings_j0, cond_if];rw [if_neg (by simp [hc])] at hB
      by_cases hb : begP rr1 rr2 at_4 at_5 = 0
      · obtain ⟨b1, b2, b3⟩ := begP_ok hb;rw [if_neg (by simp [hb])] at hB;have e3 : until6 < at_4 ∨ at_4 + 96 < until6 → ev_law05_StrikeBrings_j1 3100 at_4 until6 rr1 rr2 rr3 at_5 = some true := by
          intro hr;rw [if_pos hr] at hB;rw [ev_law05_StrikeBrings_j1, cond_if, if_neg (by decide), ev_law05_StrikeBrings_j2, bind_of hcop];dsimp only;rw [bind_of hB, cond_if, if_neg (by decide)];exact f3 3
        rw [if_pos (by simpa using hb), cond_if]
        by_cases r1 : until6 < at_4
        · rw [if_pos (decide_eq_true r1)];exact e3 (.inl r1)
        · rw [if_neg (by simpa using r1), chk_of (in64_of (by omega)), cond_if]
          by_cases r2 : at_4 + 96 < until6
          · rw [if_pos (decide_eq_true r2)];exact e3 (.inr r2)
          · rw [if_neg (by simpa using r2), ev_law05_StrikeBrings_j4, ev_law05_StrikeBrings_j5, cond_if, if_pos (by simpa using hb), chk_of (in64_of (by omega)), cond_if];rw [if_neg (by omega)] at hB
            by_cases r3 : at_4 + 40 < until6
            · rw [if_pos (decide_eq_true r3), bind_of known_ev]
            · rw [if_neg (by simpa using r3), ev_law05_StrikeBrings_j6, bind_of hcop];dsimp only;have hR := ev_refBring (h := rr1) (rack := rr2) hq (slot := at_4) (p := at_5) (d := (until6 - at_4).toNat) (by omega) b1 (n := 3100) (by decide) b2;rw [show at_4 + (((until6 - at_4).toNat : Nat) : Int) = until6 by omega] at hR
              cases hbest : bestP rr1 rr2 rr3 until6 (until6 - at_4).toNat at_5 with
              | none =>
                rw [hbest] at hB hR;rw [bind_of hB, cond_if, if_pos (by simpa using hb), bind_of hR];dsimp only;rw [cond_if, if_neg (by decide)];exact f7 7
              | some a =>
                obtain ⟨_, _, pl3⟩ := plan_plays _ at_5 a hbest;rw [hbest] at hB hR;rw [bind_of hB, cond_if, if_pos (by simpa using hb), bind_of hR];dsimp only;rw [cond_if, if_pos rfl, cond_if, if_pos (by decide), bind_of (ev_refEqual (by omega) (by omega)), cond_if, if_pos rfl, cond_if, if_pos (by simp), bind_of known_ev]
      · rw [if_pos hb] at hB;rw [if_neg (by simpa using hb), ev_law05_StrikeBrings_j4, ev_law05_StrikeBrings_j5, cond_if, if_neg (by simpa using hb), ev_law05_StrikeBrings_j6, bind_of hcop];dsimp only;rw [bind_of hB, cond_if, if_neg (by simpa using hb)];exact f7 _
    · rw [if_pos hc] at hB;rw [if_neg (by simpa using hc), ev_law05_StrikeBrings_j0, cond_if, if_neg (by simpa using hc), ev_law05_StrikeBrings_j4, ev_law05_StrikeBrings_j5, cond_if, if_neg (by simpa using hc), ev_law05_StrikeBrings_j6, bind_of hcop];dsimp only;rw [bind_of hB, cond_if, if_neg (by simpa using hc)];exact f7 _
end Go.Proofs.Ytglgkcfgjaoabaa.Sy
