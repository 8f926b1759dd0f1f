/- A nut below a bob: the rates after some turns lie in the image of the act. -/
import Derived.Test.YthgbjhglhejalaaBREvBeatM
import Derived.Test.YthgbjhglhejalaaBREvRateD
import Derived.Test.YthgbjhglhejalaaBRGTopBeatRate
set_option linter.unusedSimpArgs false
set_option linter.unusedVariables false
namespace Go.Proofs.Ythgbjhglhejalaa.Sy
open Go.RowKit
set_option maxRecDepth 100000
theorem pubBeat_br (k : Nat) : ev_top_pubBeat (k + 2200) = some true := by kernel_rfl
theorem ins_low : ∀ {c : List BR}, OkRs c → InsR c (c.map fun r => r.2.1)
  | [], _ => trivial
  | r :: c, h => by
    have := h r (by simp);exact ⟨⟨Int.le_refl _, this.2.2.2.1⟩, ins_low fun x hx => h x (by simp [hx])⟩
theorem Rate_sh {n : Nat} (hn : 20 < n) {k base base' a0 a1 d0 d1 b1 b2 b3 b4 b5 b6 b7 b8 : Int} {c : List BR} (h : OkCl k base c a0 a1 d0 d1) (h' : OkCl k base' c a0 a1 d0 d1) (hb : OkBo b1 b2 b3 b4 b5 b6 b7 b8) :
    ∃ lo hi, lo ≤ hi ∧ ev_beat_Rate n k base c a0 a1 d0 d1 b1 b2 b3 b4 b5 b6 b7 b8 = some (lo, hi, 0) ∧ ev_beat_Rate n k base' c a0 a1 d0 d1 b1 b2 b3 b4 b5 b6 b7 b8 = some (lo + (base' - base), hi + (base' - base), 0) ∧ -1000000000000000000 ≤ lo ∧ hi ≤ 1000000000000000000 := by
  have g0 := h.air;have g1 := h.air0;have g3 := h.air1;have g4 := h.dr0;have g5 := h.dr;have g6 := h.dr1;have l0 := h.len0;have l1 := h.len1;obtain ⟨x1, x2, x3, x4, x5, x6, x7, x8, x9, x10, x11, x12⟩ := hb;have hb : OkBo b1 b2 b3 b4 b5 b6 b7 b8 := ⟨x1, x2, x3, x4, x5, x6, x7, x8, x9, x10, x11, x12⟩;obtain ⟨z, hz⟩ := rate_sh (n := n) (by omega) (k1 := k) (k4 := a0) (k5 := a1) (k6 := d0) (k7 := d1) h.rods h.few (by omega) h.len1 ((ins_low h.rods).spans h.rods).1 (by simp [spansB])
    (k9 := a0) (k10 := a1) (ta := a0) ⟨Int.le_refl _, g0, by simp only; omega, by simp only; omega, fun e => e.elim⟩ (k11 := d0) (k12 := d1) (td := d0) ⟨Int.le_refl _, g5, by simp only; omega, by simp only; omega, fun e => e.elim⟩
    (k13 := b1) (k14 := b2) (th := b1) ⟨Int.le_refl _, x2, by simp only; omega, by simp only; omega, fun e => e.elim⟩ (k15 := b3) (k16 := b4) (tp := b3) ⟨Int.le_refl _, x5, by simp only; omega, by simp only; omega, fun e => e.elim⟩
    (k17 := b5) (k18 := b6) (tc := b5) ⟨Int.le_refl _, x8, by simp only; omega, by simp only; omega, fun e => e.elim⟩ x7 (k19 := b7) (k20 := b8) (tf := b7) ⟨Int.le_refl _, x11, by simp only; omega, by simp only; omega, fun e => e.elim⟩
  have hP : 0 < 10000 * lenB c := by omega
  have at_ : ∀ base : Int, OkCl k base c a0 a1 d0 d1 → ev_beat_Rate n k base c a0 a1 d0 d1 b1 b2 b3 b4 b5 b6 b7 b8 = some (z.1 / (10000 * lenB c) + base, base - (0 - z.2) / (10000 * lenB c), 0) ∧ -10000000000000000 ≤ z.1 / (10000 * lenB c) + base ∧ base - (0 - z.2) / (10000 * lenB c) ≤ 10000000000000000 := by
    intro base h;obtain ⟨hq, q3, q2, q4⟩ := hz base h.base0 h.base1;have hk := known_ev (n := n) hn h.few k base a0 a1 d0 d1 b1 b2 b3 b4 b5 b6 b7 b8;have e1 := ediv_b hP (x := base * (10000 * lenB c) + z.1) ⟨q3, by omega⟩;have e2 := ediv_b hP (x := 0 - (base * (10000 * lenB c) + z.2)) ⟨by omega, by omega⟩;have i1 : (base * (10000 * lenB c) + z.1) / (10000 * lenB c) = z.1 / (10000 * lenB c) + base := by
      rw [Int.add_comm, Int.add_mul_ediv_right _ _ (by omega)]
    have i2 : (0 - (base * (10000 * lenB c) + z.2)) / (10000 * lenB c) = (0 - z.2) / (10000 * lenB c) + (-base) := by
      rw [show 0 - (base * (10000 * lenB c) + z.2) = (0 - z.2) + (-base) * (10000 * lenB c) by rw [Int.neg_mul]; omega, Int.add_mul_ediv_right _ _ (by omega)]
    have hopen : ev_beat_open n k base c a0 a1 d0 d1 b1 b2 b3 b4 b5 b6 b7 b8 = none := by
      rw [ev_beat_open, bind_of (Check_ev hn h), cond_if, if_neg (by simp), bind_of (isBounds_ev hn hb), cond_if, if_neg (by simp), bind_of hk]
    have hopen2 : ev_beat_open_v1 n k base c a0 a1 d0 d1 b1 b2 b3 b4 b5 b6 b7 b8 = some (k, base, c, a0, a1, d0, d1, spansB c, a0, a1, d0, d1, b1, b2, b3, b4, b5, b6, b7, b8, 0) := by
      rw [ev_beat_open_v1, bind_of (Check_ev hn h), cond_if, if_neg (by simp), bind_of (isBounds_ev hn hb), cond_if, if_neg (by simp), bind_of hk]
    have hro : ev_p_beat_known_rounded n k base c a0 a1 d0 d1 (spansB c) a0 a1 d0 d1 b1 b2 b3 b4 b5 b6 b7 b8 (base * (10000 * lenB c) + z.1) (base * (10000 * lenB c) + z.2) = some ((base * (10000 * lenB c) + z.1) / (10000 * lenB c), 0 - (0 - (base * (10000 * lenB c) + z.2)) / (10000 * lenB c)) := by
      rw [ev_p_beat_known_rounded, bind_of (parts_ev (by omega) h.rods h.few _ _ _ _ _ _ _ _ _ _ _ _ _ _ _ _ _ _ _), bind_of (floor_ev hP (by omega)), chk_of (in64_of (by omega)), bind_of (floor_ev hP (by omega)), chk_of (in64_of (by omega))]
    rw [i1] at e1;rw [i2] at e2;refine ⟨?_, e1.1, by omega⟩;rw [ev_beat_Rate, alt_none hopen, bind_of hopen2, cond_if, if_neg (by simp), bind_of hq, bind_of hro, i1, i2];simp only [Option.some.injEq, Prod.mk.injEq, and_true, true_and]
    omega
  obtain ⟨r1, r2, r3⟩ := at_ base h;obtain ⟨r4, r5, r6⟩ := at_ base' h';have hle : z.1 / (10000 * lenB c) + (0 - z.2) / (10000 * lenB c) ≤ 0 := by
    obtain ⟨_, _, q2, _⟩ := hz base h.base0 h.base1;have m1 := Int.ediv_mul_le z.1 (b := 10000 * lenB c) (by omega);have m2 := Int.ediv_mul_le (0 - z.2) (b := 10000 * lenB c) (by omega)
    by_cases hc : 0 < z.1 / (10000 * lenB c) + (0 - z.2) / (10000 * lenB c)
    · have := Int.mul_le_mul_of_nonneg_right (show 1 ≤ z.1 / (10000 * lenB c) + (0 - z.2) / (10000 * lenB c) by omega) (Int.le_of_lt hP);rw [Int.add_mul, Int.one_mul] at this
      omega
    · omega
  refine ⟨_, _, ?_, r1, ?_, by omega, by omega⟩
  · omega
  · rw [r4];simp only [Option.some.injEq, Prod.mk.injEq, and_true]
    omega
theorem OkCl.base {k base base' a0 a1 d0 d1 : Int} {c : List BR} (h : OkCl k base c a0 a1 d0 d1) (h0 : -1000 ≤ base') (h1 : base' ≤ 1000) : OkCl k base' c a0 a1 d0 d1 :=
  ⟨h.kind, h0, h1, h.rods, h.few, h.some, h.len0, h.len1, h.air0, h.air, h.air1, h.dr0, h.dr, h.dr1, h.grav⟩
theorem boundsM_ev {n : Nat} {y1 y2 y3 y4 : Int} (h1 : by8 y1) (h2 : by8 y2) (h3 : by8 y3) (h4 : by8 y4) : ∃ b3 b4 b6 b7 b8, ev_top_pubBounds n y1 y2 y3 y4 = some (y1 % 100 - 50, y1 % 100, b3, b4, 0, b6, b7, b8) := by
  obtain ⟨h1, h1'⟩ := h1;obtain ⟨h2, h2'⟩ := h2;obtain ⟨h3, h3'⟩ := h3;obtain ⟨h4, h4'⟩ := h4;have e2 : Int.tmod (0 - y2) 50 = -(y2 % 50) := by rw [Int.zero_sub, Int.neg_tmod, Int.tmod_eq_emod_of_nonneg h2]
  have e4 : Int.tmod (0 - y4) 20 = -(y4 % 20) := by rw [Int.zero_sub, Int.neg_tmod, Int.tmod_eq_emod_of_nonneg h4]
  simp only [ev_top_pubBounds, ev_top_pubSpan, Option.bind_some, e2, e4, Int.tmod_eq_emod_of_nonneg h1, Int.tmod_eq_emod_of_nonneg h2, Int.tmod_eq_emod_of_nonneg h3, Int.tmod_eq_emod_of_nonneg h4];rw [chk_of (in64_of (by omega)), chk_of (in64_of (by omega)), chk_of (in64_of (by omega)), chk_of (in64_of (by omega)), chk_of (in64_of (by omega)), chk_of (in64_of (by omega)), chk_of (in64_of (by omega)), chk_of (in64_of (by omega)), chk_of (in64_of (by omega)), chk_of (in64_of (by omega))];exact ⟨_, _, _, _, _, rfl⟩
theorem pubRods_ev {n : Nat} {k base a0 a1 d0 d1 : Int} {c : List BR} (h : c.length ≤ 8) : ev_top_pubRods n k base c a0 a1 d0 d1 = some (k, base, c, a0, a1, d0, d1) := by
  rw [ev_top_pubRods, chk_of (by simp [room]; omega)]
  rfl
theorem After0_ev {n : Nat} (hn : 900 < n) {lo hi k seen : Int} (h0 : -300 ≤ lo) (h1 : lo ≤ hi) (h2 : hi ≤ 300) (k0 : -3 ≤ k) (k1 : k ≤ 3) (s0 : lo + min (8 * k) (10 * k) - 1 ≤ seen) (s1 : seen ≤ hi + max (8 * k) (10 * k) + 1) :
    ev_rate_After n 5 1 8 10 3 [] lo hi [] k (-1) seen = some (if -300 ≤ lo + min (8 * k) (10 * k) ∧ hi + max (8 * k) (10 * k) ≤ 300 then (max (lo + min (8 * k) (10 * k)) (seen - 1), min (hi + max (8 * k) (10 * k)) (seen + 1), [], 0) else (0, 0, [], 3)) := by
  obtain ⟨m, rfl⟩ : ∃ m, n = m + 6 := ⟨n - 6, by omega⟩;have hc : ev_rate_Check (m + 6) 5 1 8 10 3 [] = some 0 := rfl;have hs : ev_rate_start (m + 6) 5 1 8 10 3 [] lo hi [] = some (5, 1, 8, 10, 3, [], [], 0) := by
    have hi_ : ev_p_rate_shop_isState (m + 6) 5 1 8 10 3 [] lo hi [] = some true := by
      unfold ev_p_rate_shop_isState ev_rate_isSpan;rw [decide_eq_true h1, cond_true, wi2_rate (by omega)];have e : ((decide (-300 ≤ lo) && decide (lo ≤ 300)) && (decide (-300 ≤ hi) && decide (hi ≤ 300))) = true := by simp; omega
      rw [e]
      rfl
    unfold ev_rate_start ev_rate_open;rw [hc];simp only [Option.bind_some];rw [hi_]
    rfl
  have hw : ev_rate_newSet (m + 6) [] = some 0 := rfl;have hk : k = -3 ∨ k = -2 ∨ k = -1 ∨ k = 0 ∨ k = 1 ∨ k = 2 ∨ k = 3 := by omega
  have hsh : ev_p_rate_shop_shift (m + 6) 5 1 8 10 3 [] k (-1) 0 = some (min (8 * k) (10 * k), max (8 * k) (10 * k), true) := by
    rcases hk with rfl | rfl | rfl | rfl | rfl | rfl | rfl <;> rfl
  have hb : -30 ≤ min (8 * k) (10 * k) ∧ min (8 * k) (10 * k) ≤ max (8 * k) (10 * k) ∧ max (8 * k) (10 * k) ≤ 30 := by omega
  generalize min (8 * k) (10 * k) = p at *
  generalize max (8 * k) (10 * k) = q at *
  have hmv : ev_p_rate_shop_move (m + 6) 5 1 8 10 3 [] lo hi 0 k (-1) = some (lo + p, hi + q, 0, decide (-300 ≤ lo + p) && decide (hi + q ≤ 300)) := by
    unfold ev_p_rate_shop_move;rw [hsh, Option.bind_some];simp only [Bool.not_true, cond_false];rw [chk_t (i64ok (by omega) (by omega)), chk_t (i64ok (by omega) (by omega))];show ev_p_rate_shop_move_j0 (m + 6) (lo + p) (hi + q) 0 = _;unfold ev_p_rate_shop_move_j0 ev_rate_isSpan;rw [decide_eq_true (show lo + p ≤ hi + q by omega), cond_true, wi2_rate (by omega)];simp only [Option.bind_some];have e2 : ((decide (-300 ≤ lo + p) && decide (lo + p ≤ 300)) && (decide (-300 ≤ hi + q) && decide (hi + q ≤ 300))) = (decide (-300 ≤ lo + p) && decide (hi + q ≤ 300)) := by
      by_cases q1 : -300 ≤ lo + p <;> by_cases q2 : hi + q ≤ 300
      · have q3 : lo + p ≤ 300 := by omega
        have q4 : -300 ≤ hi + q := by omega
        simp [q1, q2, q3, q4]
      · simp [q2]
      · simp [q1]
      · simp [q1]
    rw [e2]
  unfold ev_rate_After;rw [hs, Option.bind_some, hw];simp only [Option.bind_some];rw [hmv]
  by_cases g : -300 ≤ lo + p ∧ hi + q ≤ 300
  · have em : (decide (-300 ≤ lo + p) && decide (hi + q ≤ 300)) = true := by simp [g.1, g.2]
    simp only [em, Option.bind_some];rw [chk_t (i64ok (by omega) (by omega)), chk_t (i64ok (by omega) (by omega)), wi1_rate (by omega), chk_t (i64ok (by omega) (by omega)), chk_t (i64ok (by omega) (by omega))];have ew : (decide (lo + p - 1 ≤ seen) && decide (seen ≤ hi + q + 1)) = true := by simp [s0, s1]
    simp only [ew, Option.bind_some];rw [if_pos g]
    rfl
  · have em : (decide (-300 ≤ lo + p) && decide (hi + q ≤ 300)) = false := by
      rw [Bool.and_eq_false_iff, decide_eq_false_iff_not, decide_eq_false_iff_not]; omega
    simp only [em, Option.bind_some];rw [if_neg g]
    rfl
theorem j3_br {n : Nat} (hn : 900 < n) (p1 : ev_top_pubBeat n = some true) (p2 : ev_top_pubRate n = some true) {lo hi k more v12 v14 : Int} (hk : Int.tmod v12 7 - 3 = k) (k0 : -3 ≤ k) (k1 : k ≤ 3) (h0 : -300 ≤ lo) (h1 : lo ≤ hi) (h2 : hi ≤ 300) (hm0 : min (8 * k) (10 * k) ≤ more) (hm1 : more ≤ max (8 * k) (10 * k)) (hv : by8 v14) :
    ev_top_TopBeatRate_j3 n v14 (lo + more, hi + more, 0) (5, 1, 8, 10, 3, [(4, 6)]) (lo, hi, 0) v12 = some true := by
  obtain ⟨v0, v1⟩ := hv;have m4 := Int.emod_nonneg v14 (show hi + more - (lo + more) + 1 ≠ 0 by omega);have m5 := Int.emod_lt_of_pos v14 (show 0 < hi + more - (lo + more) + 1 by omega);unfold ev_top_TopBeatRate_j3;simp only [hk];rw [chk_of (in64_of (by omega)), chk_of (in64_of (by omega)), chk_of (in64_of (by omega)), chk_of (by simp; omega), Int.tmod_eq_emod_of_nonneg v0]
  generalize v14 % (hi + more - (lo + more) + 1) = d at *
  rw [chk_of (in64_of (by omega)), bind_of (After0_ev hn h0 h1 h2 k0 k1 (by omega) (by omega))]
  by_cases g : -300 ≤ lo + min (8 * k) (10 * k) ∧ hi + max (8 * k) (10 * k) ≤ 300
  · rw [if_pos g];have c1 : ((0 : Int) == 3) = false := rfl;have c2 : ((0 : Int) == 0) = true := rfl;have c3 : (((([] : List Bool).length : Nat) : Int) == 0) = true := rfl;simp only [c1, c2, c3, cond_true, cond_false];rw [chk_of (in64_of (by omega)), decide_eq_true (by omega), cond_true, chk_of (in64_of (by omega)), decide_eq_true (by omega), cond_true, chk_of (in64_of (by omega)), decide_eq_true (by omega), cond_true, chk_of (in64_of (by omega)), decide_eq_true (by omega), cond_true, bind_of p1, cond_true, bind_of p2]
  · rw [if_neg g];have c1 : ((3 : Int) == 3) = true := rfl;simp only [c1, cond_true];rw [chk_of (in64_of (by omega)), chk_of (in64_of (by omega)), cond_if]
    by_cases d1 : lo + 8 * k < -300
    · rw [if_pos (by simpa using d1), bind_of p1, cond_true, bind_of p2]
    rw [if_neg (by simpa using d1), chk_of (in64_of (by omega)), chk_of (in64_of (by omega)), cond_if]
    by_cases d2 : lo + 10 * k < -300
    · rw [if_pos (by simpa using d2), bind_of p1, cond_true, bind_of p2]
    rw [if_neg (by simpa using d2), chk_of (in64_of (by omega)), chk_of (in64_of (by omega)), cond_if]
    by_cases d3 : 300 < hi + 10 * k
    · rw [if_pos (by simpa using d3), bind_of p1, cond_true, bind_of p2]
    rw [if_neg (by simpa using d3), chk_of (in64_of (by omega)), chk_of (in64_of (by omega)), cond_if]
    by_cases d4 : 300 < hi + 8 * k
    · rw [if_pos (by simpa using d4), bind_of p1, cond_true, bind_of p2]
    exact absurd (show -300 ≤ lo + min (8 * k) (10 * k) ∧ hi + max (8 * k) (10 * k) ≤ 300 by omega) g
theorem nut_between {k v : Int} (k0 : -3 ≤ k) (k1 : k ≤ 3) (hv : by8 v) : (-1530 ≤ (2 * k) * v ∧ (2 * k) * v ≤ 1530) ∧ min 0 (2 * k) ≤ Int.tdiv ((2 * k) * v) 255 ∧ Int.tdiv ((2 * k) * v) 255 ≤ max 0 (2 * k) := by
  obtain ⟨v0, v1⟩ := hv;have hk : k = -3 ∨ k = -2 ∨ k = -1 ∨ k = 0 ∨ k = 1 ∨ k = 2 ∨ k = 3 := by omega
  have hs := tmod_split (a := (2 * k) * v) (b := 255) (by decide);obtain ⟨t1, t2, t3⟩ := hs;have hb : -1530 ≤ (2 * k) * v ∧ (2 * k) * v ≤ 1530 := by rcases hk with rfl | rfl | rfl | rfl | rfl | rfl | rfl <;> omega
  refine ⟨hb, ?_⟩
  generalize Int.tdiv ((2 * k) * v) 255 = d at *
  generalize Int.tmod ((2 * k) * v) 255 = r at *
  rcases hk with rfl | rfl | rfl | rfl | rfl | rfl | rfl <;> omega
theorem topBeatRate_ev {n : Nat} (hn : 2200 ≤ n) (p1 : ev_top_pubBeat n = some true) {x1 : List (Int × Int × Int)} {x2 x3 x4 x5 x6 x7 y8 y9 y10 y11 v12 v13 v14 : Int} (g1 : ∀ x ∈ x1, by8 x.1 ∧ by8 x.2.1 ∧ by8 x.2.2) (g2 : by8 x2) (g3 : -128 ≤ x3 ∧ x3 ≤ 127) (g4 : by8 x4) (g5 : by8 x5) (g6 : by8 x6) (g7 : by8 x7) (g8 : by8 y8) (g9 : by8 y9) (g10 : by8 y10) (g11 : by8 y11) (g12 : by8 v12) (g13 : by8 v13) (g14 : by8 v14) :
    ev_top_TopBeatRate n x1 x2 x3 x4 x5 x6 x7 y8 y9 y10 y11 v12 v13 v14 = some true := by
  have p2 := pubRate_ev (n := n) (by omega);obtain ⟨k, c, a0, a1, d0, d1, hc, ok⟩ := clock_ev (n := n) (by omega) g1 g2 g3 g4 g5 g6 g7;obtain ⟨b3, b4, b6, b7, b8, hB⟩ := boundsM_ev (n := n) g8 g9 g10 g11;have es : ∀ x y, ev_top_pubSpan n x y = some (x, y) := fun x y => rfl
  obtain ⟨z80, z81⟩ := g8;obtain ⟨z90, z91⟩ := g9;obtain ⟨z100, z101⟩ := g10;obtain ⟨z110, z111⟩ := g11;have t1 := tmod_split (a := y8 % 100 - 50) (b := 10) (by decide);have t2 := tmod_split (a := y8 % 100 - (y8 % 100 - 50)) (b := 8) (by decide);obtain ⟨t11, t12, t13⟩ := t1;obtain ⟨t21, t22, t23⟩ := t2;rw [ev_top_TopBeatRate, bind_of hc, bind_of hB];simp only [];rw [Int.tmod_eq_emod_of_nonneg z90, Int.tmod_eq_emod_of_nonneg z100, Int.tmod_eq_emod_of_nonneg z110]
  generalize Int.tdiv (y8 % 100 - 50) 10 = H at *
  generalize Int.tdiv (y8 % 100 - (y8 % 100 - 50)) 8 = H2 at *
  rw [chk_of (in64_of (by omega)), chk_of (in64_of (by omega)), chk_of (in64_of (by omega)), chk_of (in64_of (by omega)), chk_of (in64_of (by omega)), bind_of (es _ _), chk_of (in64_of (by omega)), bind_of (es _ _), chk_of (in64_of (by omega)), chk_of (in64_of (by omega)), chk_of (in64_of (by omega)), bind_of (es _ _), bind_of (pubRods_ev ok.few)];simp only [];have hbo : OkBo H (H + 2) 0 (y9 % 3) 0 (y10 % 8) 0 (y11 % 3) := by constructor <;> omega
  obtain ⟨w0, w1⟩ := g12;have m0 := Int.emod_nonneg v12 (show (7 : Int) ≠ 0 by decide);have m1 := Int.emod_lt_of_pos v12 (show (0 : Int) < 7 by decide);have hk : Int.tmod v12 7 - 3 = v12 % 7 - 3 := by rw [Int.tmod_eq_emod_of_nonneg w0]
  have hkb : -3 ≤ v12 % 7 - 3 ∧ v12 % 7 - 3 ≤ 3 := by omega
  have hkb2 := hkb
  generalize v12 % 7 - 3 = kk at hk hkb hkb2
  obtain ⟨nb1, nb2⟩ := nut_between hkb.1 hkb.2 g13;have hmb : -30 ≤ 8 * kk + Int.tdiv ((2 * kk) * v13) 255 ∧ 8 * kk + Int.tdiv ((2 * kk) * v13) 255 ≤ 30 := by omega
  obtain ⟨lo, hi, hlh, r1, r2, hl0, hl1⟩ := Rate_sh (n := n) (by omega) ok (ok.base (base' := x3 + (8 * kk + Int.tdiv ((2 * kk) * v13) 255)) (by omega) (by omega)) hbo;rw [bind_of r1];have c0 : ((0 : Int) != 0) = false := rfl;simp only [c0, cond_false];rw [decide_eq_false (by omega), cond_false];have hj1 : ev_top_TopBeatRate_j1 n = some true := by rw [ev_top_TopBeatRate_j1, bind_of p1, cond_true, bind_of p2]
  unfold ev_top_TopBeatRate_j0;simp only [];rw [hj1, cond_if]
  by_cases c1 : lo < -300
  · rw [if_pos (by simpa using c1)]
  rw [if_neg (by simpa using c1), cond_if]
  by_cases c2 : 300 < hi
  · rw [if_pos (by simpa using c2)]
  rw [if_neg (by simpa using c2)];unfold ev_top_TopBeatRate_j2;have e2 : ev_top_pubNut n = some (5, 1, 8, 10, 3, [(4, 6)]) := rfl;obtain ⟨u0, u1⟩ := g13;simp only [hk];rw [chk_of (in64_of (by omega)), chk_of (in64_of (by omega)), bind_of e2, chk_of (in64_of (by omega)), chk_of (in64_of (by omega)), chk_of (in64_of (by omega)), chk_of (in64_of (by omega)), chk_of (in64_of (by omega)), chk_of (in64_of (by omega)), bind_of (pubRods_ev ok.few)];simp only [];rw [Int.tmod_eq_emod_of_nonneg z100, chk_of (in64_of (by omega)), bind_of r2];have e3 : x3 + (8 * kk + Int.tdiv ((2 * kk) * v13) 255) - x3 = 8 * kk + Int.tdiv ((2 * kk) * v13) 255 := by omega
  rw [e3];simp only [c0, cond_false];have hm0 : min (8 * kk) (10 * kk) ≤ 8 * kk + Int.tdiv ((2 * kk) * v13) 255 := by omega
  have hm1 : 8 * kk + Int.tdiv ((2 * kk) * v13) 255 ≤ max (8 * kk) (10 * kk) := by omega
  generalize 8 * kk + Int.tdiv ((2 * kk) * v13) 255 = more at *
  rw [chk_of (in64_of (by omega)), chk_of (in64_of (by omega)), bind_of (es _ _)];have c3 : (!((lo + more == lo + more) && (hi + more == hi + more))) = false := by simp
  simp only [c3, cond_false];exact j3_br (by omega) p1 p2 hk hkb.1 hkb.2 (by omega) hlh (by omega) hm0 hm1 g14
theorem by8_ofR {x : Int} (h : (Lit.int .u8 x).wf = true) : by8 x := wf8.1 h
theorem topBeatRate_evx {x1 : List (Int × Int × Int)} {x2 : Int} {x3 : Int} {x4 : Int} {x5 : Int} {x6 : Int} {x7 : Int} {weather8 : Int} {weather9 : Int} {weather10 : Int} {weather11 : Int} {v12 : Int} {v13 : Int} {v14 : Int} (h0 : (x1.length ≤ maxLen ∧ ∀ el59 ∈ x1, (Lit.int .u8 el59.1).wf = true ∧ (Lit.int .u8 el59.2.1).wf = true ∧ (Lit.int .u8 el59.2.2).wf = true) ∧ (Lit.int .u8 x2).wf = true ∧ (Lit.int .i8 x3).wf = true ∧ (Lit.int .u8 x4).wf = true ∧ (Lit.int .u8 x5).wf = true ∧ (Lit.int .u8 x6).wf = true ∧ (Lit.int .u8 x7).wf = true) (h1 : (Lit.int .u8 weather8).wf = true ∧ (Lit.int .u8 weather9).wf = true ∧ (Lit.int .u8 weather10).wf = true ∧ (Lit.int .u8 weather11).wf = true) (h2 : (Lit.int .u8 v12).wf = true ∧ (Lit.int .u8 v13).wf = true ∧ (Lit.int .u8 v14).wf = true) :
    ∃ n, ev_top_TopBeatRate n x1 x2 x3 x4 x5 x6 x7 weather8 weather9 weather10 weather11 v12 v13 v14 = some true := by
  obtain ⟨⟨_, c1⟩, c2, c3, c4, c5, c6, c7⟩ := h0;have c3' : -128 ≤ x3 ∧ x3 ≤ 127 := by
    simpa only [Lit.wf, Bool.and_eq_true, decide_eq_true_eq, show IntKind.i8.min = -128 from rfl, show IntKind.i8.max = 127 from rfl] using c3
  exact ⟨0 + 2200, topBeatRate_ev (by omega) (pubBeat_br 0) (fun x hx => ⟨by8_ofR (c1 x hx).1, by8_ofR (c1 x hx).2.1, by8_ofR (c1 x hx).2.2⟩) (by8_ofR c2) c3' (by8_ofR c4) (by8_ofR c5) (by8_ofR c6) (by8_ofR c7) (by8_ofR h1.1) (by8_ofR h1.2.1) (by8_ofR h1.2.2.1) (by8_ofR h1.2.2.2) (by8_ofR h2.1) (by8_ofR h2.2.1) (by8_ofR h2.2.2)⟩
end Go.Proofs.Ythgbjhglhejalaa.Sy
