/- The rate of a clock in bounds; clocks and weather out of small numbers (the part of EvBeatB and EvBeatT that needs no truth). -/
import Derived.Test.YthgbjhglhejalaaBREvBeatA
set_option linter.unusedSimpArgs false
set_option linter.unusedVariables false
namespace Go.Proofs.Ythgbjhglhejalaa.Sy
open Go.RowKit
set_option maxRecDepth 100000
structure OkCl (k base : Int) (c : List BR) (a0 a1 d0 d1 : Int) : Prop where
  kind : k = 1 ∨ k = 2 ∨ k = 3
  base0 : -1000 ≤ base
  base1 : base ≤ 1000
  rods : OkRs c
  few : c.length ≤ 8
  some : 1 ≤ c.length
  len0 : 100 ≤ lenB c
  len1 : lenB c ≤ 100000
  air0 : -100 ≤ a0
  air : a0 ≤ a1
  air1 : a1 ≤ 100
  dr0 : 0 ≤ d0
  dr : d0 ≤ d1
  dr1 : d1 ≤ 100
  grav : k = 3 → d1 = 0
theorem isValid_ev {n : Nat} (hn : 2 < n) {a b l m : Int} (h0 : l ≤ a) (h1 : a ≤ b) (h2 : b ≤ m) : ev_beat_span_isValid n a b l m = some true := by
  rw [ev_beat_span_isValid, cond_if, if_pos (by simpa using h1), bind_of (wi2_beat hn)]
  congr 1
  simp only [Bool.and_eq_true, decide_eq_true_eq]
  omega
theorem isRod_ev {n : Nat} (hn : 2 < n) {r : BR} (h : 1 ≤ r.1 ∧ r.1 ≤ 100000 ∧ 0 ≤ r.2.1 ∧ r.2.1 ≤ r.2.2.1 ∧ r.2.2.1 ≤ 40000) : ev_beat_isRod n r.1 r.2.1 r.2.2.1 r.2.2.2 = some true := by
  rw [ev_beat_isRod, bind_of (wi1_beat (by omega)), cond_if, if_pos (by simp only [Bool.and_eq_true, decide_eq_true_eq]; omega), bind_of (isValid_ev hn (by omega) (by omega) (by omega))]
theorem any_false {α : Type} (l : List α) : (l.any fun _ => false) = false := by induction l <;> simp_all
theorem Check_ev {n : Nat} (hn : 20 < n) {k base a0 a1 d0 d1 : Int} {c : List BR} (h : OkCl k base c a0 a1 d0 d1) : ev_beat_Check n k base c a0 a1 d0 d1 = some 0 := by
  have hf := h.few;have hs := h.some;have l0 := h.len0;have l1 := h.len1;have b0 := h.base0;have b1 := h.base1;have g1 := h.air0;have g2 := h.air;have g3 := h.air1;have g4 := h.dr0;have g5 := h.dr;have g6 := h.dr1;have hd : ev_beat_isDrive n k d0 d1 = some true := by
    rw [ev_beat_isDrive];rcases h.kind with rfl | rfl | rfl
    · rw [cond_if, if_pos (by rfl), bind_of (isValid_ev (by omega) (by omega) (by omega) (by omega))]
    · rw [cond_if, if_neg (by decide), cond_if, if_pos (by rfl), bind_of (isValid_ev (by omega) (by omega) (by omega) (by omega))]
    · have := h.grav rfl;rw [cond_if, if_neg (by decide), cond_if, if_neg (by decide), cond_if, if_pos (by rfl), bind_of (isValid_ev (by omega) (by omega) (by omega) (by omega))]
  rw [ev_beat_Check, cond_if, if_neg (by simp; omega), cond_if, if_neg (by simp; intro e; simp [e] at hs), bind_of (cf_Lapi_BeatRod_api_BeatRod (g := fun _ => false) (fun x hx => by rw [ev_beat_Check_1, bind_of (isRod_ev (by omega) (h.rods x hx))]; rfl) (by omega) (by omega)), any_false, cond_if, if_neg (by simp),
    ev_beat_isLength, bind_of (x := true) (by rw [bind_of (len_ev (by omega) h.rods h.few _ _ _ _ _ _), bind_of (wi1_beat (by omega))]; congr 1; simp only [Bool.and_eq_true, decide_eq_true_eq]; omega), cond_if, if_neg (by simp),
    ev_beat_Check_j0, bind_of (wi1_beat (by omega)), cond_if, if_neg (by simp; omega), bind_of (isValid_ev (by omega) (by omega) (by omega) (by omega)), cond_if, if_neg (by simp), bind_of hd, cond_if, if_neg (by simp)]
structure OkBo (b1 b2 b3 b4 b5 b6 b7 b8 : Int) : Prop where
  heat0 : -100 ≤ b1
  heat : b1 ≤ b2
  heat1 : b2 ≤ 100
  press0 : -100 ≤ b3
  press : b3 ≤ b4
  press1 : b4 ≤ 100
  arc0 : 0 ≤ b5
  arc : b5 ≤ b6
  arc1 : b6 ≤ 100
  force0 : -100 ≤ b7
  force : b7 ≤ b8
  force1 : b8 ≤ 100
theorem isBounds_ev {n : Nat} (hn : 20 < n) {b1 b2 b3 b4 b5 b6 b7 b8 : Int} (h : OkBo b1 b2 b3 b4 b5 b6 b7 b8) : ev_beat_isBounds n b1 b2 b3 b4 b5 b6 b7 b8 = some true := by
  obtain ⟨h1, h2, h3, h4, h5, h6, h7, h8, h9, h10, h11, h12⟩ := h;rw [ev_beat_isBounds, ev_beat_limits, bind_of rfl, bind_of (cf_L_2_api_Span_2_api_Span (g := fun _ => false) (fun x hx => ?_) (by simp) (by simp; omega)), any_false]
  · rfl
  · simp only [List.mem_cons, List.not_mem_nil, or_false] at hx;rcases hx with rfl | rfl | rfl | rfl <;> rw [ev_beat_isBounds_1, bind_of (isValid_ev (by omega) (by simp only; omega) (by simp only; omega) (by simp only; omega))] <;> rfl
def spansB (c : List BR) : List (Int × Int) := c.map fun r => (r.2.1, r.2.2.1)
theorem known_l {n : Nat} {c : List BR} (hl : c.length ≤ 8) (c1 c2 c4 c5 c6 c7 o1 o2 o3 o4 o5 o6 o7 o8 o9 o10 o11 o12 : Int) : ∀ (k m i : Nat) (l : List (Int × Int)), i + k = c.length → k < m → l.length ≤ i → ev_beat_newKnown_l0 n c m (i : Int) c1 c2 c4 c5 c6 c7 l o1 o2 o3 o4 o5 o6 o7 o8 o9 o10 o11 o12 c = some (c1, c2, c, c4, c5, c6, c7, l ++ spansB (c.drop i), o1, o2, o3, o4, o5, o6, o7, o8, o9, o10, o11, o12) := by
  intro k
  induction k with
  | zero =>
    intro m i l hi hm _;obtain ⟨m, rfl⟩ : ∃ m', m = m' + 1 := ⟨m - 1, by omega⟩;rw [ev_beat_newKnown_l0, cond_if, if_neg (by simp; omega), List.drop_eq_nil_of_le (by omega)];simp [spansB]
  | succ k ih =>
    intro m i l hi hm hll;obtain ⟨m, rfl⟩ : ∃ m', m = m' + 1 := ⟨m - 1, by omega⟩;have hx : c[i]? = some c[i] := List.getElem?_eq_getElem (by omega);rw [ev_beat_newKnown_l0, cond_if, if_pos (by simp; omega), idx_nat hx, chk_of (room_iff.2 (by simp; omega)), chk_of (in64_of (by omega))];have := ih m (i + 1) (l ++ [(c[i].2.1, c[i].2.2.1)]) (by omega) (by omega) (by simp; omega);rw [show ((i + 1 : Nat) : Int) = (i : Int) + 1 by omega] at this;rw [this, List.drop_eq_getElem_cons (show i < c.length by omega)];simp only [spansB, List.map_cons, List.append_assoc, List.cons_append, List.nil_append]
theorem known_ev {n : Nat} (hn : 20 < n) {c : List BR} (hl : c.length ≤ 8) (c1 c2 c4 c5 c6 c7 b8 b9 b10 b11 b12 b13 b14 b15 : Int) : ev_beat_newKnown n c1 c2 c c4 c5 c6 c7 b8 b9 b10 b11 b12 b13 b14 b15 = some (c1, c2, c, c4, c5, c6, c7, spansB c, c4, c5, c6, c7, b8, b9, b10, b11, b12, b13, b14, b15) := by
  rw [ev_beat_newKnown];have := known_l (n := n) hl c1 c2 c4 c5 c6 c7 c4 c5 c6 c7 b8 b9 b10 b11 b12 b13 b14 b15 c.length n 0 [] (by omega) (by omega) (by simp)
  simpa using this
def InsR : List BR → List Int → Prop
  | r :: l, g :: gs => (r.2.1 ≤ g ∧ g ≤ r.2.2.1) ∧ InsR l gs
  | [], [] => True
  | _, _ => False
theorem InsR.spans : ∀ {c : List BR} {gs : List Int}, OkRs c → InsR c gs → InsB False (spansB c) gs ∧ InsB True (gs.map fun g => (g, g)) gs := by
  intro c
  induction c with
  | nil => intro gs _ h; cases gs with
    | nil => exact ⟨trivial, trivial⟩
    | cons _ _ => exact h.elim
  | cons r c ih => intro gs hr h; cases gs with
    | nil => exact h.elim
    | cons g gs =>
      obtain ⟨i1, i2⟩ := ih (fun x hx => hr x (by simp [hx])) h.2;have hb := hr r (by simp);have h1 := h.1;exact ⟨⟨⟨h1.1, h1.2, by simp only; omega, by simp only; omega, fun e => e.elim⟩, i1⟩, ⟨SpB.one (by omega) (by omega), i2⟩⟩
theorem InsR.len {c : List BR} {gs : List Int} (hr : OkRs c) (h : InsR c gs) : gs.length = c.length := by
  have := (h.spans hr).1.len
  simpa [spansB] using this.symm
theorem ediv_b {x P : Int} (hP : 0 < P) (h : -10000000000000000 ≤ x ∧ x ≤ 10000000000000000) : -10000000000000000 ≤ x / P ∧ x / P ≤ 10000000000000000 := by
  constructor
  · exact (Int.le_ediv_iff_mul_le hP).2 (by omega)
  · have := (Int.ediv_lt_iff_lt_mul hP (a := x) (b := 10000000000000001)).2 (by omega)
    omega
theorem alt_none {α γ : Type} {x : Option α} {f : α → Option γ} {y : Option γ} (h : x = none) : altW (x.bind f) y = y := by subst h; rfl
def by8 (x : Int) : Prop := 0 ≤ x ∧ x ≤ 255
def rodU (x : Int × Int × Int) : BR := (1 + 15 * x.1, 12 * x.2.1, 12 * x.2.1 + x.2.2, Int.tmod x.2.2 2 == 1)
theorem clock_step {n m i : Nat} {l : List (Int × Int × Int)} {x : Int × Int × Int} (hx : l[i]? = some x) (hb : by8 x.1 ∧ by8 x.2.1 ∧ by8 x.2.2) (hi : i < 2) {rods : List BR} (hr : rods.length ≤ 5) (a1 a2 a3 a4 a5 a6 a7 a8 : Int) (l19 : List BR) (j0 j1 j2 j3 j4 j5 j6 j7 j8 j9 : Int) :
    ev_top_Hung_clock_l0 n (m + 1) (i : Int) a1 a2 a3 a4 a5 a6 a7 a8 l19 j0 j1 j2 j3 j4 j5 j6 j7 j8 j9 l rods = ev_top_Hung_clock_l0 n m ((i : Int) + 1) a1 a2 a3 a4 a5 a6 a7 a8 l19 j0 j1 j2 j3 j4 j5 j6 j7 j8 j9 l (rods ++ [rodU x]) := by
  obtain ⟨⟨h1, h2⟩, ⟨h3, h4⟩, ⟨h5, h6⟩⟩ := hb;have hlt : i < l.length := (List.getElem?_eq_some_iff.1 hx).1;rw [ev_top_Hung_clock_l0, cond_if, if_pos (by simp; omega), cond_if, if_pos (by simp; omega), ev_top_Hung_clock_j1, idx_nat hx, chk_of (in64_of (by omega)), chk_of (in64_of (by omega)), chk_of (in64_of (by omega)), chk_of (in64_of (by omega)), chk_of (in64_of (by omega)), chk_of (in64_of (by omega)), chk_of (in64_of (by omega)), ev_top_pubSpan, bind_of rfl, chk_of (room_iff.2 (by simp; omega)), chk_of (in64_of (by omega))]
  rfl
theorem clock_end {n m : Nat} {i : Int} {l : List (Int × Int × Int)} (hi : (l.length : Int) ≤ i ∨ 2 ≤ i) {rods : List BR} {a1 a2 a3 a4 a5 a6 : Int} (h3 : by8 a3) (h4 : by8 a4) (h5 : by8 a5) (h6 : by8 a6) (a7 a8 : Int) (l19 : List BR) (j0 j1 j2 j3 k base j6 j7 : Int) :
    ∃ a0 b0 d0 d1, ev_top_Hung_clock_l0 n (m + 1) i a1 a2 a3 a4 a5 a6 a7 a8 l19 j0 j1 j2 j3 k base j6 j7 0 0 l rods = some (k, base, rods, a0, b0, d0, d1) ∧ (-100 ≤ a0 ∧ a0 ≤ b0 ∧ b0 ≤ 100) ∧ (0 ≤ d0 ∧ d0 ≤ d1 ∧ d1 ≤ 100 ∧ (k = 3 → d1 = 0)) := by
  obtain ⟨h3, h3'⟩ := h3;obtain ⟨h4, h4'⟩ := h4;obtain ⟨h5, h5'⟩ := h5;obtain ⟨h6, h6'⟩ := h6;rw [ev_top_Hung_clock_l0];simp only [Int.tmod_eq_emod_of_nonneg h3, Int.tmod_eq_emod_of_nonneg h4, Int.tmod_eq_emod_of_nonneg h5, Int.tmod_eq_emod_of_nonneg h6, ev_top_pubSpan, Option.bind_some];have key : ∃ a0 b0 d0 d1, (chk (in64 a3) <| chk (in64 (a3 % 20 - 15)) <| chk (in64 a3) <| chk (in64 (a3 % 20 - 15)) <| chk (in64 a4) <| chk (in64 (a3 % 20 - 15 + a4 % 10)) <| cond (k != 3) (chk (in64 a5) <| chk (in64 a5) <| chk (in64 a6) <| chk (in64 (a5 % 20 + a6 % 10)) <| some (k, base, rods, a3 % 20 - 15, a3 % 20 - 15 + a4 % 10, a5 % 20, a5 % 20 + a6 % 10)) (some (k, base, rods, a3 % 20 - 15, a3 % 20 - 15 + a4 % 10, 0, 0))) = some (k, base, rods, a0, b0, d0, d1) ∧ (-100 ≤ a0 ∧ a0 ≤ b0 ∧ b0 ≤ 100) ∧ (0 ≤ d0 ∧ d0 ≤ d1 ∧ d1 ≤ 100 ∧ (k = 3 → d1 = 0)) := by
    rw [chk_of (in64_of (by omega)), chk_of (in64_of (by omega)), chk_of (in64_of (by omega)), chk_of (in64_of (by omega)), chk_of (in64_of (by omega)), chk_of (in64_of (by omega)), cond_if]
    by_cases hk : k = 3
    · rw [if_neg (by simp [hk])];exact ⟨_, _, _, _, rfl, by omega, by omega⟩
    · rw [if_pos (by simpa using hk), chk_of (in64_of (by omega)), chk_of (in64_of (by omega)), chk_of (in64_of (by omega)), chk_of (in64_of (by omega))];exact ⟨_, _, _, _, rfl, by omega, by omega, by omega, by omega, fun e => (hk e).elim⟩
  rw [cond_if]
  by_cases hc : i < (l.length : Int)
  · rw [if_pos (by simpa using hc), cond_if, if_neg (by rw [decide_eq_true_eq]; omega)];exact key
  · rw [if_neg (by simpa using hc)];exact key
theorem sg_two (r : BR) : sgnB r * r.1 = r.1 ∨ sgnB r * r.1 = -r.1 := by
  unfold sgnB; cases r.2.2.2 <;> simp only [cond_true, cond_false] <;> omega
theorem clock_ev {n : Nat} (hn : 20 < n) {l : List (Int × Int × Int)} (hb : ∀ x ∈ l, by8 x.1 ∧ by8 x.2.1 ∧ by8 x.2.2) {y2 y3 y4 y5 y6 y7 : Int} (h2 : by8 y2) (h3 : -128 ≤ y3 ∧ y3 ≤ 127) (h4 : by8 y4) (h5 : by8 y5) (h6 : by8 y6) (h7 : by8 y7) :
    ∃ k c a0 a1 d0 d1, ev_top_Hung_clock n l y2 y3 y4 y5 y6 y7 = some (k, y3, c, a0, a1, d0, d1) ∧ OkCl k y3 c a0 a1 d0 d1 := by
  obtain ⟨q1, q2⟩ := h2;obtain ⟨m, rfl⟩ : ∃ m, n = m + 1 + 1 + 1 := ⟨n - 3, by omega⟩;have ek : Int.tmod y2 3 = y2 % 3 := Int.tmod_eq_emod_of_nonneg q1;obtain ⟨k, hk⟩ : ∃ k, k = 1 + y2 % 3 := ⟨_, rfl⟩;have hk3 : k = 1 ∨ k = 2 ∨ k = 3 := by omega
  have hfin : ∀ (rods : List BR), OkRs rods → rods.length ≤ 8 → 1 ≤ rods.length → 100 ≤ lenB rods → lenB rods ≤ 100000 →
      (∃ a0 b0 d0 d1, ev_top_Hung_clock (m + 1 + 1 + 1) l y2 y3 y4 y5 y6 y7 = some (k, y3, rods, a0, b0, d0, d1) ∧ (-100 ≤ a0 ∧ a0 ≤ b0 ∧ b0 ≤ 100) ∧ (0 ≤ d0 ∧ d0 ≤ d1 ∧ d1 ≤ 100 ∧ (k = 3 → d1 = 0))) →
      ∃ k c a0 a1 d0 d1, ev_top_Hung_clock (m + 1 + 1 + 1) l y2 y3 y4 y5 y6 y7 = some (k, y3, c, a0, a1, d0, d1) ∧ OkCl k y3 c a0 a1 d0 d1 := by
    intro rods g1 g2 g3 g4 g5 ⟨a0, b0, d0, d1, e, ⟨i1, i2, i3⟩, i4, i5, i6, i7⟩;exact ⟨k, rods, a0, b0, d0, d1, e, hk3, by omega, by omega, g1, g2, g3, g4, g5, i1, i2, i3, i4, i5, i6, i7⟩
  have h0 : ev_top_Hung_clock (m + 1 + 1 + 1) l y2 y3 y4 y5 y6 y7 = ev_top_Hung_clock_l0 (m + 1 + 1 + 1) (m + 1 + 1 + 1) ((0 : Nat) : Int) y2 y3 y4 y5 y6 y7 0 0 [] 0 0 0 0 k y3 0 0 0 0 l [(9940, 1100, 1160, false)] := by
    rw [ev_top_Hung_clock, ek, ← hk, chk_of (inK8_iff.2 (by omega)), chk_of (in64_of (by omega)), chk_of (in64_of (by omega)), ev_top_pubSpan, bind_of rfl]
    rfl
  have okS : 1 ≤ (9940 : Int) ∧ (9940 : Int) ≤ 100000 ∧ (0 : Int) ≤ 1100 ∧ (1100 : Int) ≤ 1160 ∧ (1160 : Int) ≤ 40000 := by decide
  have okU : ∀ x ∈ l, (1 ≤ (rodU x).1 ∧ (rodU x).1 ≤ 3900) ∧ 0 ≤ (rodU x).2.1 ∧ (rodU x).2.1 ≤ (rodU x).2.2.1 ∧ (rodU x).2.2.1 ≤ 40000 := by
    intro x hx;obtain ⟨⟨u1, u2⟩, ⟨u3, u4⟩, ⟨u5, u6⟩⟩ := hb x hx;simp only [rodU]; omega
  have eS : sgnB ((9940, 1100, 1160, false) : BR) * 9940 = 9940 := rfl
  cases l with
  | nil =>
    refine hfin [(9940, 1100, 1160, false)] (by intro r hr; rw [List.mem_singleton] at hr; subst hr; exact okS) (by simp) (by simp) (by decide) (by decide) ?_;rw [h0];exact clock_end (.inl (by simp)) h4 h5 h6 h7 _ _ _ _ _ _ _ _ _ _ _
  | cons x l =>
    have ux := okU x (by simp);have s1 := clock_step (n := m + 1 + 1 + 1) (m := m + 1 + 1) (i := 0) (l := x :: l) (x := x) rfl (hb x (by simp)) (by decide) (rods := [(9940, 1100, 1160, false)]) (by simp) y2 y3 y4 y5 y6 y7 0 0 [] 0 0 0 0 k y3 0 0 0 0;have tx := sg_two (rodU x)
    cases l with
    | nil =>
      refine hfin [(9940, 1100, 1160, false), rodU x] (by intro r hr; simp only [List.mem_cons, List.not_mem_nil, or_false] at hr; rcases hr with rfl | rfl; exact okS; omega) (by simp) (by simp) (by simp only [lenB, eS]; omega) (by simp only [lenB, eS]; omega) ?_;rw [h0, s1];exact clock_end (.inl (by simp)) h4 h5 h6 h7 _ _ _ _ _ _ _ _ _ _ _
    | cons y l =>
      have uy := okU y (by simp);have ty := sg_two (rodU y);have s2 := clock_step (n := m + 1 + 1 + 1) (m := m + 1) (i := 1) (l := x :: y :: l) (x := y) rfl (hb y (by simp)) (by decide) (rods := [(9940, 1100, 1160, false)] ++ [rodU x]) (by simp) y2 y3 y4 y5 y6 y7 0 0 [] 0 0 0 0 k y3 0 0 0 0;refine hfin ([(9940, 1100, 1160, false)] ++ [rodU x] ++ [rodU y]) (by intro r hr; simp only [List.cons_append, List.nil_append, List.mem_cons, List.not_mem_nil, or_false] at hr; rcases hr with rfl | rfl | rfl; exact okS; omega; omega) (by simp) (by simp) (by simp only [List.cons_append, List.nil_append, lenB, eS]; omega) (by simp only [List.cons_append, List.nil_append, lenB, eS]; omega) ?_;rw [h0, s1];refine ⟨_, _, _, _, Eq.trans s2 (clock_end (.inr (by decide)) h4 h5 h6 h7 _ _ _ _ _ _ _ _ _ _ _).choose_spec.choose_spec.choose_spec.choose_spec.1, (clock_end (.inr (by decide)) h4 h5 h6 h7 _ _ _ _ _ _ _ _ _ _ _).choose_spec.choose_spec.choose_spec.choose_spec.2⟩
end Go.Proofs.Ythgbjhglhejalaa.Sy
