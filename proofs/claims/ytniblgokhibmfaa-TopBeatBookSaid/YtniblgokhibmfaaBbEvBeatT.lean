/- A clock out of small numbers, its weather, and a truth of them. -/
import Derived.Test.YtniblgokhibmfaaBbEvBeatB
set_option linter.unusedSimpArgs false
set_option linter.unusedVariables false
namespace Go.Proofs.Ytniblgokhibmfaa.Sy
open Go.RowKit
set_option maxRecDepth 100000
def by8 (x : Int) : Prop := 0 ≤ x ∧ x ≤ 255
theorem byte_ev {n : Nat} {l : List Int} (hb : ∀ x ∈ l, by8 x) {i : Int} (hi : 0 ≤ i) : ∃ r, ev_top_pubByte n l i = some r ∧ by8 r := by
  rw [ev_top_pubByte, cond_if]
  by_cases h : l.length = 0
  · rw [if_pos (by simp [h])]; exact ⟨0, rfl, by decide, by decide⟩
  · have hp : (0 : Int) < l.length := by omega
    have h0 := Int.emod_nonneg i (show (l.length : Int) ≠ 0 by omega);have h1 := Int.emod_lt_of_pos i hp;have hlt : (i % (l.length : Int)).toNat < l.length := by omega
    have hm := hb _ (List.getElem_mem hlt);have hm1 := hm.1;have hm2 := hm.2;rw [if_neg (by simp; exact fun e => h (by simp [e])), chk_of (by simp; exact fun e => h (by simp [e])), Int.tmod_eq_emod_of_nonneg hi, idx_of h0 (List.getElem?_eq_getElem hlt), chk_of (in64_of (by omega))];exact ⟨_, rfl, hm⟩
theorem truth1_ev {n : Nat} {l : List Int} (hb : ∀ x ∈ l, by8 x) {i s1 s2 : Int} (hi : 0 ≤ i) (h : s1 ≤ s2) (h1 : -100000 ≤ s1) (h2 : s2 ≤ 100000) : ∃ t, ev_top_pubTruth_1 n s1 s2 i l = some t ∧ (s1 ≤ t ∧ t ≤ s2) := by
  obtain ⟨r, hr, r0, r1⟩ := byte_ev (n := n) hb hi;have e0 := Int.emod_nonneg r (show s2 - s1 + 1 ≠ 0 by omega);have e1 := Int.emod_lt_of_pos r (show 0 < s2 - s1 + 1 by omega);rw [ev_top_pubTruth_1, bind_of hr, chk_of (in64_of (by omega)), chk_of (in64_of (by omega)), chk_of (by simp; omega), Int.tmod_eq_emod_of_nonneg r0, chk_of (in64_of (by omega))];exact ⟨_, rfl, by omega, by omega⟩
theorem truth_l {n : Nat} {l : List Int} (hb : ∀ x ∈ l, by8 x) {c : List BR} (hr : OkRs c) (hl : c.length ≤ 8) (a1 a2 a3 a4 a5 a6 : Int) (l30 : List Int) (z1 z2 z3 z4 z5 z6 t1 t2 t3 t4 t5 t6 : Int) : ∀ (k m i : Nat) (acc : List Int), i + k = c.length → k < m → acc.length ≤ i →
    ∃ gs, ev_top_pubTruth_l0 n m (i : Int) a1 a2 a3 a4 a5 a6 l30 z1 z2 z3 z4 z5 z6 acc t1 t2 t3 t4 t5 t6 c l = some (acc ++ gs, t1, t2, t3, t4, t5, t6) ∧ InsR (c.drop i) gs := by
  intro k
  induction k with
  | zero =>
    intro m i acc hi hm _;obtain ⟨m, rfl⟩ : ∃ m', m = m' + 1 := ⟨m - 1, by omega⟩;rw [ev_top_pubTruth_l0, cond_if, if_neg (by simp; omega), List.drop_eq_nil_of_le (by omega)];exact ⟨[], by simp, trivial⟩
  | succ k ih =>
    intro m i acc hi hm ha;obtain ⟨m, rfl⟩ : ∃ m', m = m' + 1 := ⟨m - 1, by omega⟩;have hx : c[i]? = some c[i] := List.getElem?_eq_getElem (by omega);have hr1 := hr _ (List.getElem_mem (show i < c.length by omega));obtain ⟨t, ht, hin⟩ := truth1_ev (n := n) hb (i := 6 + (i : Int)) (by omega) hr1.2.2.2.1 (by omega) (by omega);rw [ev_top_pubTruth_l0, cond_if, if_pos (by simp; omega), idx_nat hx, chk_of (in64_of (by omega)), bind_of ht, chk_of (room_iff.2 (by simp; omega)), chk_of (in64_of (by omega))];obtain ⟨gs, hg, hgi⟩ := ih m (i + 1) (acc ++ [t]) (by omega) (by omega) (by simp; omega);rw [show ((i + 1 : Nat) : Int) = (i : Int) + 1 by omega] at hg;refine ⟨t :: gs, by rw [hg]; simp, ?_⟩;rw [List.drop_eq_getElem_cons (show i < c.length by omega)];exact ⟨hin, hgi⟩
theorem truth_ev {n : Nat} (hn : 20 < n) {l : List Int} (hb : ∀ x ∈ l, by8 x) {k base a0 a1 d0 d1 b1 b2 b3 b4 b5 b6 b7 b8 : Int} {c : List BR} (h : OkCl k base c a0 a1 d0 d1) (h' : OkBo b1 b2 b3 b4 b5 b6 b7 b8) :
    ∃ gs ta td th tp tc tf, ev_top_pubTruth n k base c a0 a1 d0 d1 b1 b2 b3 b4 b5 b6 b7 b8 l = some (gs, ta, td, th, tp, tc, tf) ∧ InsR c gs ∧ (a0 ≤ ta ∧ ta ≤ a1) ∧ (d0 ≤ td ∧ td ≤ d1) ∧ (b1 ≤ th ∧ th ≤ b2) ∧ (b3 ≤ tp ∧ tp ≤ b4) ∧ (b5 ≤ tc ∧ tc ≤ b6) ∧ (b7 ≤ tf ∧ tf ≤ b8) := by
  have g1 := h.air0;have g3 := h.air1;have g4 := h.dr0;have g6 := h.dr1;obtain ⟨x1, x2, x3, x4, x5, x6, x7, x8, x9, x10, x11, x12⟩ := h';obtain ⟨ta, e1, i1⟩ := truth1_ev (n := n) hb (i := 0) (by decide) h.air (by omega) (by omega);obtain ⟨td, e2, i2⟩ := truth1_ev (n := n) hb (i := 1) (by decide) h.dr (by omega) (by omega);obtain ⟨th, e3, i3⟩ := truth1_ev (n := n) hb (i := 2) (by decide) x2 (by omega) (by omega);obtain ⟨tp, e4, i4⟩ := truth1_ev (n := n) hb (i := 3) (by decide) x5 (by omega) (by omega);obtain ⟨tc, e5, i5⟩ := truth1_ev (n := n) hb (i := 4) (by decide) x8 (by omega) (by omega);obtain ⟨tf, e6, i6⟩ := truth1_ev (n := n) hb (i := 5) (by decide) x11 (by omega) (by omega);have hf := h.few;obtain ⟨gs, hg, hi⟩ := truth_l (n := n) hb h.rods h.few k base a0 a1 d0 d1 [] 0 0 0 0 0 0 ta td th tp tc tf c.length n 0 [] (by omega) (by omega) (by simp);refine ⟨gs, ta, td, th, tp, tc, tf, ?_, by simpa using hi, i1, i2, i3, i4, i5, i6⟩;rw [ev_top_pubTruth, bind_of e1, bind_of e2, bind_of e3, bind_of e4, bind_of e5, bind_of e6]
  simpa using hg
theorem bounds_ev {n : Nat} {y1 y2 y3 y4 : Int} (h1 : by8 y1) (h2 : by8 y2) (h3 : by8 y3) (h4 : by8 y4) : ∃ b1 b2 b3 b4 b5 b6 b7 b8, ev_top_pubBounds n y1 y2 y3 y4 = some (b1, b2, b3, b4, b5, b6, b7, b8) ∧ OkBo b1 b2 b3 b4 b5 b6 b7 b8 := by
  obtain ⟨h1, h1'⟩ := h1;obtain ⟨h2, h2'⟩ := h2;obtain ⟨h3, h3'⟩ := h3;obtain ⟨h4, h4'⟩ := h4;have e2 : Int.tmod (0 - y2) 50 = -(y2 % 50) := by rw [Int.zero_sub, Int.neg_tmod, Int.tmod_eq_emod_of_nonneg h2]
  have e4 : Int.tmod (0 - y4) 20 = -(y4 % 20) := by rw [Int.zero_sub, Int.neg_tmod, Int.tmod_eq_emod_of_nonneg h4]
  simp only [ev_top_pubBounds, ev_top_pubSpan, Option.bind_some, e2, e4, Int.tmod_eq_emod_of_nonneg h1, Int.tmod_eq_emod_of_nonneg h2, Int.tmod_eq_emod_of_nonneg h3, Int.tmod_eq_emod_of_nonneg h4];rw [chk_of (in64_of (by omega)), chk_of (in64_of (by omega)), chk_of (in64_of (by omega)), chk_of (in64_of (by omega)), chk_of (in64_of (by omega)), chk_of (in64_of (by omega)), chk_of (in64_of (by omega)), chk_of (in64_of (by omega)), chk_of (in64_of (by omega)), chk_of (in64_of (by omega))];exact ⟨_, _, _, _, _, _, _, _, rfl, by constructor <;> omega⟩
def rodU (x : Int × Int × Int) : BR := (1 + 15 * x.1, 12 * x.2.1, 12 * x.2.1 + x.2.2, Int.tmod x.2.2 2 == 1)
theorem clock_step {n m i : Nat} {l : List (Int × Int × Int)} {x : Int × Int × Int} (hx : l[i]? = some x) (hb : by8 x.1 ∧ by8 x.2.1 ∧ by8 x.2.2) (hi : i < 2) {rods : List BR} (hr : rods.length ≤ 5) (a1 a2 a3 a4 a5 a6 a7 a8 : Int) (l19 : List BR) (j0 j1 j2 j3 j4 j5 j6 j7 j8 j9 : Int) :
    ev_top_Hung_clock_l0 n (m + 1) (i : Int) a1 a2 a3 a4 a5 a6 a7 a8 l19 j0 j1 j2 j3 j4 j5 j6 j7 j8 j9 l rods = ev_top_Hung_clock_l0 n m ((i : Int) + 1) a1 a2 a3 a4 a5 a6 a7 a8 l19 j0 j1 j2 j3 j4 j5 j6 j7 j8 j9 l (rods ++ [rodU x]) := by
  obtain ⟨⟨h1, h2⟩, ⟨h3, h4⟩, ⟨h5, h6⟩⟩ := hb;have hlt : i < l.length := (List.getElem?_eq_some_iff.1 hx).1;rw [ev_top_Hung_clock_l0, cond_if, if_pos (by simp; omega), cond_if, if_pos (by simp; omega), ev_top_Hung_clock_j1, idx_nat hx, chk_of (in64_of (by omega)), chk_of (in64_of (by omega)), chk_of (in64_of (by omega)), chk_of (in64_of (by omega)), chk_of (in64_of (by omega)), chk_of (in64_of (by omega)), chk_of (in64_of (by omega)), ev_top_pubSpan, bind_of rfl, chk_of (room_iff.2 (by simp; omega)), chk_of (in64_of (by omega))]
  rfl
theorem clock_end {n m : Nat} {i : Int} {l : List (Int × Int × Int)} (hi : (l.length : Int) ≤ i ∨ 2 ≤ i) {rods : List BR} {a1 a2 a3 a4 a5 a6 : Int} (h3 : by8 a3) (h4 : by8 a4) (h5 : by8 a5) (h6 : by8 a6) (a7 a8 : Int) (l19 : List BR) (j0 j1 j2 j3 k base j6 j7 : Int) :
    ∃ a0 b0 d0 d1, ev_top_Hung_clock_l0 n (m + 1) i a1 a2 a3 a4 a5 a6 a7 a8 l19 j0 j1 j2 j3 k base j6 j7 0 0 l rods = some (k, base, rods, a0, b0, d0, d1) ∧ (-100 ≤ a0 ∧ a0 ≤ b0 ∧ b0 ≤ 100) ∧ (0 ≤ d0 ∧ d0 ≤ d1 ∧ d1 ≤ 100 ∧ (k = 3 → d1 = 0)) := by
  obtain ⟨h3, h3'⟩ := h3;obtain ⟨h4, h4'⟩ := h4;obtain ⟨h5, h5'⟩ := h5;obtain ⟨h6, h6'⟩ := h6;rw [ev_top_Hung_clock_l0];simp only [Int.tmod_eq_emod_of_nonneg h3, Int.tmod_eq_emod_of_nonneg h4, Int.tmod_eq_emod_of_nonneg h5, Int.tmod_eq_emod_of_nonneg h6, ev_top_pubSpan, Option.bind_some];have key : ∃ a0 b0 d0 d1, (chk (in64 a3) <| chk (in64 (a3 % 20 - 15)) <| chk (in64 a3) <| chk (in64 (a3 % 20 - 15)) <| chk (in64 a4) <| chk (in64 (a3 % 20 - 15 + a4 % 10)) <| cond (k != 3) (chk (in64 a5) <| chk (in64 a5) <| chk (in64 a6) <| chk (in64 (a5 % 20 + a6 % 10)) <| some (k, base, rods, a3 % 20 - 15, a3 % 20 - 15 + a4 % 10, a5 % 20, a5 % 20 + a6 % 10)) (some (k, base, rods, a3 % 20 - 15, a3 % 20 - 15 + a4 % 10, 0, 0))) = some (k, base, rods, a0, b0, d0, d1) ∧ (-100 ≤ a0 ∧ a0 ≤ b0 ∧ b0 ≤ 100) ∧ (0 ≤ d0 ∧ d0 ≤ d1 ∧ d1 ≤ 100 ∧ (k = 3 → d1 = 0)) := by
    rw [chk_of (in64_of (by omega)), chk_of (in64_of (by omega)), chk_of (in64_of (by omega)), chk_of (in64_of (by omega)), chk_of (in64_of (by omega)), chk_of (in64_of (by omega)), cond_if]
    by_cases hk : k = 3
    · rw [if_neg (by simp [hk])];exact ⟨_, _, _, _, rfl, by omega, by omega⟩
    · rw [if_pos (by simpa using hk), chk_of (in64_of (by omega)), chk_of (in64_of (by omega)), chk_of (in64_of (by omega)), chk_of (in64_of (by omega))];exact ⟨_, _, _, _, rfl, by omega, by omega, by omega, by omega, fun e => (hk e).elim⟩
  rw [cond_if]
  by_cases hc : i < (l.length : Int)
  · rw [if_pos (by simpa using hc), cond_if, if_neg (by rw [decide_eq_true_eq]; omega)];exact key
  · rw [if_neg (by simpa using hc)];exact key
theorem sg_two (r : BR) : sgnB r * r.1 = r.1 ∨ sgnB r * r.1 = -r.1 := by
  unfold sgnB; cases r.2.2.2 <;> simp only [cond_true, cond_false] <;> omega
theorem clock_ev {n : Nat} (hn : 20 < n) {l : List (Int × Int × Int)} (hb : ∀ x ∈ l, by8 x.1 ∧ by8 x.2.1 ∧ by8 x.2.2) {y2 y3 y4 y5 y6 y7 : Int} (h2 : by8 y2) (h3 : -128 ≤ y3 ∧ y3 ≤ 127) (h4 : by8 y4) (h5 : by8 y5) (h6 : by8 y6) (h7 : by8 y7) :
    ∃ k c a0 a1 d0 d1, ev_top_Hung_clock n l y2 y3 y4 y5 y6 y7 = some (k, y3, c, a0, a1, d0, d1) ∧ OkCl k y3 c a0 a1 d0 d1 := by
  obtain ⟨q1, q2⟩ := h2;obtain ⟨m, rfl⟩ : ∃ m, n = m + 1 + 1 + 1 := ⟨n - 3, by omega⟩;have ek : Int.tmod y2 3 = y2 % 3 := Int.tmod_eq_emod_of_nonneg q1;obtain ⟨k, hk⟩ : ∃ k, k = 1 + y2 % 3 := ⟨_, rfl⟩;have hk3 : k = 1 ∨ k = 2 ∨ k = 3 := by omega
  have hfin : ∀ (rods : List BR), OkRs rods → rods.length ≤ 8 → 1 ≤ rods.length → 100 ≤ lenB rods → lenB rods ≤ 100000 →
      (∃ a0 b0 d0 d1, ev_top_Hung_clock (m + 1 + 1 + 1) l y2 y3 y4 y5 y6 y7 = some (k, y3, rods, a0, b0, d0, d1) ∧ (-100 ≤ a0 ∧ a0 ≤ b0 ∧ b0 ≤ 100) ∧ (0 ≤ d0 ∧ d0 ≤ d1 ∧ d1 ≤ 100 ∧ (k = 3 → d1 = 0))) →
      ∃ k c a0 a1 d0 d1, ev_top_Hung_clock (m + 1 + 1 + 1) l y2 y3 y4 y5 y6 y7 = some (k, y3, c, a0, a1, d0, d1) ∧ OkCl k y3 c a0 a1 d0 d1 := by
    intro rods g1 g2 g3 g4 g5 ⟨a0, b0, d0, d1, e, ⟨i1, i2, i3⟩, i4, i5, i6, i7⟩;exact ⟨k, rods, a0, b0, d0, d1, e, hk3, by omega, by omega, g1, g2, g3, g4, g5, i1, i2, i3, i4, i5, i6, i7⟩
  have h0 : ev_top_Hung_clock (m + 1 + 1 + 1) l y2 y3 y4 y5 y6 y7 = ev_top_Hung_clock_l0 (m + 1 + 1 + 1) (m + 1 + 1 + 1) ((0 : Nat) : Int) y2 y3 y4 y5 y6 y7 0 0 [] 0 0 0 0 k y3 0 0 0 0 l [(9940, 1100, 1160, false)] := by
    rw [ev_top_Hung_clock, ek, ← hk, chk_of (inK8_iff.2 (by omega)), chk_of (in64_of (by omega)), chk_of (in64_of (by omega)), ev_top_pubSpan, bind_of rfl]
    rfl
  have okS : 1 ≤ (9940 : Int) ∧ (9940 : Int) ≤ 100000 ∧ (0 : Int) ≤ 1100 ∧ (1100 : Int) ≤ 1160 ∧ (1160 : Int) ≤ 40000 := by decide
  have okU : ∀ x ∈ l, (1 ≤ (rodU x).1 ∧ (rodU x).1 ≤ 3900) ∧ 0 ≤ (rodU x).2.1 ∧ (rodU x).2.1 ≤ (rodU x).2.2.1 ∧ (rodU x).2.2.1 ≤ 40000 := by
    intro x hx;obtain ⟨⟨u1, u2⟩, ⟨u3, u4⟩, ⟨u5, u6⟩⟩ := hb x hx;simp only [rodU]; omega
  have eS : sgnB ((9940, 1100, 1160, false) : BR) * 9940 = 9940 := rfl
  cases l with
  | nil =>
    refine hfin [(9940, 1100, 1160, false)] (by intro r hr; rw [List.mem_singleton] at hr; subst hr; exact okS) (by simp) (by simp) (by decide) (by decide) ?_;rw [h0];exact clock_end (.inl (by simp)) h4 h5 h6 h7 _ _ _ _ _ _ _ _ _ _ _
  | cons x l =>
    have ux := okU x (by simp);have s1 := clock_step (n := m + 1 + 1 + 1) (m := m + 1 + 1) (i := 0) (l := x :: l) (x := x) rfl (hb x (by simp)) (by decide) (rods := [(9940, 1100, 1160, false)]) (by simp) y2 y3 y4 y5 y6 y7 0 0 [] 0 0 0 0 k y3 0 0 0 0;have tx := sg_two (rodU x)
    cases l with
    | nil =>
      refine hfin [(9940, 1100, 1160, false), rodU x] (by intro r hr; simp only [List.mem_cons, List.not_mem_nil, or_false] at hr; rcases hr with rfl | rfl; exact okS; omega) (by simp) (by simp) (by simp only [lenB, eS]; omega) (by simp only [lenB, eS]; omega) ?_;rw [h0, s1];exact clock_end (.inl (by simp)) h4 h5 h6 h7 _ _ _ _ _ _ _ _ _ _ _
    | cons y l =>
      have uy := okU y (by simp);have ty := sg_two (rodU y);have s2 := clock_step (n := m + 1 + 1 + 1) (m := m + 1) (i := 1) (l := x :: y :: l) (x := y) rfl (hb y (by simp)) (by decide) (rods := [(9940, 1100, 1160, false)] ++ [rodU x]) (by simp) y2 y3 y4 y5 y6 y7 0 0 [] 0 0 0 0 k y3 0 0 0 0;refine hfin ([(9940, 1100, 1160, false)] ++ [rodU x] ++ [rodU y]) (by intro r hr; simp only [List.cons_append, List.nil_append, List.mem_cons, List.not_mem_nil, or_false] at hr; rcases hr with rfl | rfl | rfl; exact okS; omega; omega) (by simp) (by simp) (by simp only [List.cons_append, List.nil_append, lenB, eS]; omega) (by simp only [List.cons_append, List.nil_append, lenB, eS]; omega) ?_;rw [h0, s1];refine ⟨_, _, _, _, Eq.trans s2 (clock_end (.inr (by decide)) h4 h5 h6 h7 _ _ _ _ _ _ _ _ _ _ _).choose_spec.choose_spec.choose_spec.choose_spec.1, (clock_end (.inr (by decide)) h4 h5 h6 h7 _ _ _ _ _ _ _ _ _ _ _).choose_spec.choose_spec.choose_spec.choose_spec.2⟩
end Go.Proofs.Ytniblgokhibmfaa.Sy
