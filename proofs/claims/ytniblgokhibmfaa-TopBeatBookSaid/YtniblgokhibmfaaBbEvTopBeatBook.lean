/- A pendulum in the books: what is gained from noon to noon lies between what two clocks gain. -/
import Derived.Test.YtniblgokhibmfaaBbEvBeatT
import Derived.Test.YtniblgokhibmfaaBbEvBook
import Derived.Test.YtniblgokhibmfaaBbGTopBeatBook
set_option linter.unusedSimpArgs false
set_option linter.unusedVariables false
namespace Go.Proofs.Ytniblgokhibmfaa.Sy
open Go.RowKit
set_option maxRecDepth 100000
theorem pubBeat_bb (k : Nat) : ev_top_pubBeat (k + 2200) = some true := by kernel_rfl
theorem pubBook_bb (k : Nat) : ev_top_pubBook (k + 2200) = some true := by kernel_rfl
theorem noonsB_len : ∀ (k : Nat) (d : Int) (l : List BE) (c : CK), (noonsP k d l c).length = k := by
  intro k
  induction k with
  | zero => intro d l c; rfl
  | succ k ih => intro d l c; simp [noonsP, ih]
def xB (L : Int) (d : Int) : Int := (1866240000000 + 7464960000000 * d + 86400 * (L * d) - L) % 3732480000000
theorem noons_tail {L : Int} : ∀ (k : Nat) (d : Int) (j : Nat), j < k → (noonsP k (d + 1) [] (xB L d, L, d * 86400, false))[j]? = some (xB L (d + 1 + j) / 86400) := by
  intro k
  induction k with
  | zero => intro d j hj; omega
  | succ k ih =>
    intro d j hj;have e : runP [] (xB L d, L, d * 86400, false) ((d + 1) * 86400) = ((xB L (d + 1), L, (d + 1) * 86400, false), []) := by
      have e1 : (d + 1) * 86400 - d * 86400 = 86400 := by omega
      have e2 : L * (d + 1) = L * d + L := by rw [Int.mul_add, Int.mul_one]
      simp only [runP, toP, Bool.false_eq_true, if_false, e1, xB, e2, Prod.mk.injEq, and_true]
      omega
    simp only [noonsP, e]
    cases j with
    | zero => simp
    | succ j =>
      simp only [List.getElem?_cons_succ];rw [ih (d + 1) j (by omega)]
      congr 3
      omega
theorem noons_bb {L : Int} (k : Nat) : (noonsP (k + 1) 0 [(0, 1, 21600), (1, 2, L)] (0, 0, 0, false))[0]? = some 21600000 ∧ ∀ d : Nat, 1 ≤ d → d ≤ k → (noonsP (k + 1) 0 [(0, 1, 21600), (1, 2, L)] (0, 0, 0, false))[d]? = some (xB L d / 86400) := by
  have e0 : runP [(0, 1, 21600), (1, 2, L)] (0, 0, 0, false) (0 * 86400) = ((1866240000000, 0, 0, false), [(1, 2, L)]) := by
    simp [runP, doP, toP]
  have e1 : runP [(1, 2, L)] (1866240000000, 0, 0, false) ((0 + 1) * 86400) = ((xB L 1, L, 86400, false), []) := by
    simp only [runP, doP, toP, Bool.false_eq_true, if_false, xB];simp
    omega
  simp only [noonsP, e0];refine ⟨by simp, fun d hd hk => ?_⟩;obtain ⟨d, rfl⟩ : ∃ d', d = d' + 1 := ⟨d - 1, by omega⟩;obtain ⟨k, rfl⟩ : ∃ k', k = k' + 1 := ⟨k - 1, by omega⟩;simp only [List.getElem?_cons_succ, noonsP, e1]
  cases d with
  | zero => simp
  | succ d =>
    simp only [List.getElem?_cons_succ];have := noons_tail (L := L) k 1 d (by omega);simp only [Int.one_mul] at this;rw [show (0 : Int) + 1 + 1 = 1 + 1 by decide, this]
    congr 3
    omega
theorem rest_ev {n : Nat} {a b : Int} (hb : 0 < b) (hb1 : b ≤ 1000000000) (ha : -1000000000000000000 ≤ a ∧ a ≤ 1000000000000000000) : ev_top_pubRest n a b = some (a % b) := by
  obtain ⟨h1, h2, h3⟩ := tmod_split (a := a) hb;rw [ev_top_pubRest, chk_of (by simp; omega), chk_of (in64_of (by omega)), chk_of (by simp; omega), Int.tmod_eq_emod_of_nonneg (by omega)]
  congr 1
  rw [Int.add_emod_right];have := Int.add_mul_emod_self_left (Int.tmod a b) b (Int.tdiv a b);rw [h1] at this;exact this.symm
theorem down_ev {n : Nat} {a b : Int} (hb : 0 < b) (hb1 : b ≤ 1000000000) (ha : -1000000000000000000 ≤ a ∧ a ≤ 1000000000000000000) : ev_top_pubDown n a b = some (a / b) := by
  have h0 := Int.emod_nonneg a (show b ≠ 0 by omega);have h1 := Int.emod_lt_of_pos a hb;have e : a - a % b = b * (a / b) := by have := Int.emod_add_mul_ediv a b; omega
  have ed : Int.tdiv (a - a % b) b = a / b := by rw [e]; exact Int.mul_tdiv_cancel_left _ (by omega)
  have hq : -1000000000000000001 ≤ a / b ∧ a / b ≤ 1000000000000000001 := by
    constructor
    · exact (Int.le_ediv_iff_mul_le hb).2 (by omega)
    · have := (Int.ediv_lt_iff_lt_mul hb (a := a) (b := 1000000000000000001)).2 (by omega)
      omega
  rw [ev_top_pubDown, bind_of (rest_ev hb hb1 ha), chk_of (in64_of (by omega)), chk_of (by simp; omega), ed, chk_of (in64_of (by omega))]
theorem up_ev {n : Nat} {a b : Int} (hb : 0 < b) (hb1 : b ≤ 1000000000) (ha : -1000000000000000000 ≤ a ∧ a ≤ 1000000000000000000) : ev_top_pubUp n a b = some (0 - (0 - a) / b) := by
  have hq : -1000000000000000001 ≤ (0 - a) / b ∧ (0 - a) / b ≤ 1000000000000000001 := by
    constructor
    · exact (Int.le_ediv_iff_mul_le hb).2 (by omega)
    · have := (Int.ediv_lt_iff_lt_mul hb (a := 0 - a) (b := 1000000000000000001)).2 (by omega)
      omega
  rw [ev_top_pubUp, chk_of (in64_of (by omega)), bind_of (down_ev hb hb1 (by omega)), chk_of (in64_of (by omega))]
theorem bb_l {n : Nat} {x13 num den lo hi : Int} {r28 r29 : List Int × Int} {D : Nat} (hD : (D : Int) = 1 + Int.tmod x13 20) (hD2 : D ≤ 20) (hlo : -32768 ≤ lo) (hhi : hi ≤ 32767) (hden : 0 < den) (hden1 : den ≤ 1000000000) (h1 : lo * den ≤ num) (h2 : num ≤ hi * den)
    (hL0 : r28.1[0]? = some 21600000) (hH0 : r29.1[0]? = some 21600000) (hL : ∀ d : Nat, 1 ≤ d → d ≤ D → r28.1[d]? = some (xB lo d / 86400)) (hH : ∀ d : Nat, 1 ≤ d → d ≤ D → r29.1[d]? = some (xB hi d / 86400))
    (p1 : ev_top_pubBeat n = some true) (p2 : ev_top_pubBook n = some true) : ∀ (k m d : Nat), d + k = D + 1 → k < m → 1 ≤ d → ev_top_TopBeatBook_l4 n x13 (num, den, 0) r28 (lo, hi, 0) r29 m (d : Int) = some true := by
  have hlh : lo ≤ hi := Int.le_of_mul_le_mul_right (Int.le_trans h1 h2) hden;intro k
  induction k with
  | zero =>
    intro m d hd hm _;obtain ⟨m, rfl⟩ : ∃ m', m = m' + 1 := ⟨m - 1, by omega⟩;rw [ev_top_TopBeatBook_l4, cond_if, if_neg (by rw [decide_eq_true_eq]; omega), bind_of p1, cond_if, if_pos rfl, bind_of p2]
  | succ k ih =>
    intro m d hd hm hd1;obtain ⟨m, rfl⟩ : ∃ m', m = m' + 1 := ⟨m - 1, by omega⟩;have hnext := ih m (d + 1) (by omega) (by omega) (by omega);rw [show ((d + 1 : Nat) : Int) = (d : Int) + 1 by omega] at hnext;have hdn : (0 : Int) ≤ d := by omega
    have n1 : -(32768 * den) ≤ num := Int.le_trans (by have := Int.mul_le_mul_of_nonneg_right hlo (Int.le_of_lt hden); omega) h1;have n2 : num ≤ 32768 * den := Int.le_trans h2 (by have := Int.mul_le_mul_of_nonneg_right hhi (Int.le_of_lt hden); omega);have nd := mulB (x := num) (y := (d : Int)) (A := 32768000000000) (B := 20) (by omega) (by omega) (by omega) (by omega);have ld := mulB (x := lo) (y := (d : Int)) (A := 32768) (B := 20) (by omega) (by omega) (by omega) (by omega);have hd' := mulB (x := hi) (y := (d : Int)) (A := 32768) (B := 20) (by omega) (by omega) (by omega) (by omega);have m1 : lo * d ≤ hi * d := Int.mul_le_mul_of_nonneg_right hlh hdn;have f1 : lo * d ≤ num * d / den := (Int.le_ediv_iff_mul_le hden).2 (by
      have := Int.mul_le_mul_of_nonneg_right h1 hdn
      rwa [Int.mul_right_comm] at this)
    have f2 : 0 - hi * d ≤ (0 - num * d) / den := (Int.le_ediv_iff_mul_le hden).2 (by
      have := Int.mul_le_mul_of_nonneg_right h2 hdn;rw [Int.mul_right_comm] at this;rw [Int.sub_mul, Int.zero_mul]
      omega)
    have xl0 := Int.emod_nonneg (1866240000000 + 7464960000000 * (d : Int) + 86400 * (lo * d) - lo) (show (3732480000000 : Int) ≠ 0 by decide);have xl1 := Int.emod_lt_of_pos (1866240000000 + 7464960000000 * (d : Int) + 86400 * (lo * d) - lo) (show (0 : Int) < 3732480000000 by decide);have xh0 := Int.emod_nonneg (1866240000000 + 7464960000000 * (d : Int) + 86400 * (hi * d) - hi) (show (3732480000000 : Int) ≠ 0 by decide);have xh1 := Int.emod_lt_of_pos (1866240000000 + 7464960000000 * (d : Int) + 86400 * (hi * d) - hi) (show (0 : Int) < 3732480000000 by decide);have xl : lo * d < 21600000 → -21600000 < lo * d → xB lo d / 86400 - 21600000 ≤ lo * d := by intro c1 c2; unfold xB; omega
    have xh : hi * d < 21600000 → -21600000 < hi * d → hi * d - 1 ≤ xB hi d / 86400 - 21600000 := by intro c1 c2; unfold xB; omega
    have bl : 0 ≤ xB lo d / 86400 ∧ xB lo d / 86400 ≤ 43200000 := by unfold xB; omega
    have bh : 0 ≤ xB hi d / 86400 ∧ xB hi d / 86400 ≤ 43200000 := by unfold xB; omega
    obtain ⟨XL, hXL⟩ : ∃ z, z = xB lo d / 86400 := ⟨_, rfl⟩;obtain ⟨XH, hXH⟩ : ∃ z, z = xB hi d / 86400 := ⟨_, rfl⟩;have hLd := hL d hd1 (by omega);have hHd := hH d hd1 (by omega);rw [← hXL] at xl bl hLd;rw [← hXH] at xh bh hHd;have hnx : (chk (in64 ((d : Int) + 1)) <| ev_top_TopBeatBook_l4 n x13 (num, den, 0) r28 (lo, hi, 0) r29 m ((d : Int) + 1)) = some true := by rw [chk_of (in64_of (by omega)), hnext]
    have hin : ¬ (hi * d < 21600000 ∧ -21600000 < lo * d) → (chk (in64 (hi * d)) <| cond (decide (hi * d < 21600000)) (chk (in64 (lo * d)) <| cond (decide (((-21600000) : Int) < lo * d)) (some false) (chk (in64 ((d : Int) + 1)) <| ev_top_TopBeatBook_l4 n x13 (num, den, 0) r28 (lo, hi, 0) r29 m ((d : Int) + 1))) (chk (in64 ((d : Int) + 1)) <| ev_top_TopBeatBook_l4 n x13 (num, den, 0) r28 (lo, hi, 0) r29 m ((d : Int) + 1))) = some true := by
      intro hc;rw [hnx, chk_of (in64_of (by omega)), chk_of (in64_of (by omega)), cond_if, cond_if]
      by_cases c1 : hi * d < 21600000
      · rw [if_pos (by simpa using c1), if_neg (by simpa using fun c2 => hc ⟨c1, c2⟩)]
      · rw [if_neg (by simpa using c1)]
    rw [ev_top_TopBeatBook_l4, cond_if, if_pos (by rw [decide_eq_true_eq]; omega), chk_of (in64_of (by simp only; omega)), bind_of (down_ev hden hden1 (by simp only; omega)), chk_of (in64_of (by simp only; omega)), bind_of (up_ev hden hden1 (by simp only; omega)), idx_nat hLd, idx_of (by decide) hL0, chk_of (in64_of (by omega)), chk_of (in64_of (by omega)), cond_if]
    by_cases c : hi * d < 21600000 ∧ -21600000 < lo * d
    · have v1 := xl (by omega) c.2;have v2 := xh c.1 (by omega);rw [if_neg (by simp only [decide_eq_true_eq]; omega), idx_nat hHd, idx_of (by decide) hH0, chk_of (in64_of (by omega)), chk_of (in64_of (by omega)), cond_if, if_neg (by simp only [decide_eq_true_eq]; omega)];exact hnx
    · have hi2 := hin c
      split
      · exact hi2
      · rw [idx_nat hHd, idx_of (by decide) hH0, chk_of (in64_of (by omega)), chk_of (in64_of (by omega)), cond_if]
        split
        · exact hi2
        · exact hnx
theorem okEs_bb {L : Int} (h0 : -32768 ≤ L) (h1 : L ≤ 32767) : OkEs [(0, 1, 21600), (1, 2, L)] := by
  refine ⟨fun x hx => ?_, by simp, by simp⟩;simp only [List.mem_cons, List.not_mem_nil, or_false] at hx;rcases hx with rfl | rfl
  · exact ⟨by simp only; omega, .inl ⟨rfl, by decide, by decide⟩⟩
  · exact ⟨by simp only; omega, .inr (.inl ⟨rfl, h0, h1⟩)⟩
theorem topBeatBook_ev {k0 : Nat} (hk0 : 10000000000 ≤ k0) {x1 : List (Int × Int × Int)} {x2 x3 x4 x5 x6 x7 x8 x9 x10 x11 : Int} {x12 : List Int} {x13 x14 x15 x16 x17 x18 : Int} (g1 : ∀ x ∈ x1, by8 x.1 ∧ by8 x.2.1 ∧ by8 x.2.2) (g2 : by8 x2) (g3 : -128 ≤ x3 ∧ x3 ≤ 127) (g4 : by8 x4) (g5 : by8 x5) (g6 : by8 x6) (g7 : by8 x7) (g8 : by8 x8) (g9 : by8 x9) (g10 : by8 x10) (g11 : by8 x11) (g12 : ∀ x ∈ x12, by8 x) (g13 : by8 x13) :
    ev_top_TopBeatBook (k0 + 2200) x1 x2 x3 x4 x5 x6 x7 x8 x9 x10 x11 x12 x13 x14 x15 x16 x17 x18 = some true := by
  have p1 := pubBeat_bb k0;have p2 := pubBook_bb k0;obtain ⟨n, hn⟩ : ∃ n, n = k0 + 2200 := ⟨_, rfl⟩;rw [← hn] at p1 p2 ⊢;obtain ⟨k, c, a0, a1, d0, d1, hcl, hok⟩ := clock_ev (n := n) (by omega) g1 g2 g3 g4 g5 g6 g7;obtain ⟨b1, b2, b3, b4, b5, b6, b7, b8, hbo, hob⟩ := bounds_ev (n := n) g8 g9 g10 g11;have hfew := hok.few;have hrods : ev_top_pubRods n k x3 c a0 a1 d0 d1 = some (k, x3, c, a0, a1, d0, d1) := by
    rw [ev_top_pubRods, chk_of (room_iff.2 (by simp; omega))]; rfl
  obtain ⟨gs, ta, td, th, tp, tc, tf, htr, hin, i1, i2, i3, i4, i5, i6⟩ := truth_ev (n := n) (by omega) g12 hok hob;obtain ⟨lo, hi, hrate, r1, r2⟩ := Rate_ev (n := n) (by omega) hok hob hin i1 i2 i3 i4 i5 i6;have hob2 := hob;obtain ⟨z1, z2, z3, z4, z5, z6, z7, z8, z9, z10, z11, z12⟩ := hob2;obtain ⟨num, den, g, hex, hg, hV, hP⟩ := Exact_ev (n := n) (by omega) (t11 := th) (t12 := tp) (t13 := tc) (t14 := tf) hok hin i1 i2 (by omega) (by omega) (by omega) (by omega);have l0 := hok.len0;have l1 := hok.len1;have hden : 0 < den := by
    rcases Int.lt_or_le 0 den with h | h
    · exact h
    · have := Int.mul_le_mul_of_nonneg_right h (Int.le_of_lt hg)
      omega
  have hden1 : den ≤ 1000000000 := by
    have := Int.mul_le_mul_of_nonneg_left (show (1 : Int) ≤ g by omega) (Int.le_of_lt hden)
    omega
  rw [hV, hP, ← Int.mul_assoc] at r1 r2;have n1 := Int.le_of_mul_le_mul_right r1 hg;have n2 := Int.le_of_mul_le_mul_right r2 hg;rw [ev_top_TopBeatBook, bind_of hcl, bind_of hbo, bind_of hrods, bind_of hrate, bind_of hrods, bind_of htr, bind_of hex, cond_if, if_neg (by simp), cond_if, if_neg (by simp), cond_if, if_neg (by simp only [decide_eq_true_eq]; omega), ev_top_TopBeatBook_j0];have hj1 : ev_top_TopBeatBook_j1 n = some true := by rw [ev_top_TopBeatBook_j1, bind_of p1, cond_if, if_pos rfl, bind_of p2]
  rw [hj1, cond_if]
  by_cases c1 : lo < -32768
  · rw [if_pos (by simpa using c1)]
  rw [if_neg (by simpa using c1), cond_if]
  by_cases c2 : 32767 < hi
  · rw [if_pos (by simpa using c2)]
  rw [if_neg (by simpa using c2), ev_top_TopBeatBook_j2];have em : Int.tmod x13 20 = x13 % 20 := Int.tmod_eq_emod_of_nonneg g13.1;obtain ⟨q1, q2⟩ := g13;obtain ⟨D, hD⟩ : ∃ D : Nat, (D : Int) = 1 + Int.tmod x13 20 := ⟨(1 + Int.tmod x13 20).toNat, by omega⟩;have hD2 : D ≤ 20 := by omega
  have hlh : lo ≤ hi := Int.le_of_mul_le_mul_right (Int.le_trans n1 n2) hden;have eN : ((D : Int) + 1).toNat = D + 1 := by omega
  have hNl := ev_Noons (n := n) (okEs_bb (L := lo) (by omega) (by omega)) (from_ := 0) (many := (D : Int) + 1) (by decide) (by omega) (by omega) (by omega) (by omega);have hNh := ev_Noons (n := n) (okEs_bb (L := hi) (by omega) (by omega)) (from_ := 0) (many := (D : Int) + 1) (by decide) (by omega) (by omega) (by omega) (by omega);rw [eN] at hNl hNh;obtain ⟨v1, v2⟩ := noons_bb (L := lo) D;obtain ⟨w1, w2⟩ := noons_bb (L := hi) D;simp only [← hD];rw [chk_of (in64_of (by omega)), chk_of (in64_of (by omega)), chk_of (in64_of (by omega)), bind_of hNl, chk_of (in64_of (by omega)), bind_of hNh, cond_if, if_neg (by simp), cond_if, if_neg (by simp), chk_of (in64_of (by omega)), cond_if, if_neg (by simp [noonsB_len]), chk_of (in64_of (by omega)), cond_if, if_neg (by simp [noonsB_len]), idx_of (by decide) v1, cond_if, if_neg (by simp), idx_of (by decide) w1, cond_if, if_neg (by simp), ev_top_TopBeatBook_j3];exact bb_l (r28 := (_, 0)) (r29 := (_, 0)) hD hD2 (by omega) (by omega) hden hden1 n1 n2 v1 w1 v2 w2 p1 p2 D n 1 (by omega) (by omega) (by omega)
theorem by8_of {x : Int} (h : (Lit.int .u8 x).wf = true) : by8 x := wf8.1 h
theorem topBeatBook_evx {x1 : List (Int × Int × Int)} {x2 : Int} {x3 : Int} {x4 : Int} {x5 : Int} {x6 : Int} {x7 : Int} {x8 : Int} {x9 : Int} {x10 : Int} {x11 : Int} {x12 : List Int} {x13 : Int} {x14 : Int} {x15 : Int} {x16 : Int} {x17 : Int} {x18 : Int} (h0 : (x1.length ≤ maxLen ∧ ∀ el78 ∈ x1, (Lit.int .u8 el78.1).wf = true ∧ (Lit.int .u8 el78.2.1).wf = true ∧ (Lit.int .u8 el78.2.2).wf = true) ∧ (Lit.int .u8 x2).wf = true ∧ (Lit.int .i8 x3).wf = true ∧ (Lit.int .u8 x4).wf = true ∧ (Lit.int .u8 x5).wf = true ∧ (Lit.int .u8 x6).wf = true ∧ (Lit.int .u8 x7).wf = true ∧ (Lit.int .u8 x8).wf = true ∧ (Lit.int .u8 x9).wf = true ∧ (Lit.int .u8 x10).wf = true ∧ (Lit.int .u8 x11).wf = true ∧ (x12.length ≤ maxLen ∧ ∀ el5 ∈ x12, (Lit.int .u8 el5).wf = true) ∧ (Lit.int .u8 x13).wf = true ∧ (Lit.int .u8 x14).wf = true ∧ (Lit.int .u8 x15).wf = true ∧ (Lit.int .u8 x16).wf = true ∧ (Lit.int .u8 x17).wf = true ∧ (Lit.int .u8 x18).wf = true) :
    ∃ n, ev_top_TopBeatBook n x1 x2 x3 x4 x5 x6 x7 x8 x9 x10 x11 x12 x13 x14 x15 x16 x17 x18 = some true := by
  obtain ⟨⟨_, c1⟩, c2, c3, c4, c5, c6, c7, c8, c9, c10, c11, ⟨_, c12⟩, c13, _⟩ := h0;have c3' : -128 ≤ x3 ∧ x3 ≤ 127 := by
    simpa only [Lit.wf, Bool.and_eq_true, decide_eq_true_eq, show IntKind.i8.min = -128 from rfl, show IntKind.i8.max = 127 from rfl] using c3
  exact ⟨10000000000 + 2200, topBeatBook_ev (Nat.le_refl _) (fun x hx => ⟨by8_of (c1 x hx).1, by8_of (c1 x hx).2.1, by8_of (c1 x hx).2.2⟩) (by8_of c2) c3' (by8_of c4) (by8_of c5) (by8_of c6) (by8_of c7) (by8_of c8) (by8_of c9) (by8_of c10) (by8_of c11) (fun x hx => by8_of (c12 x hx)) (by8_of c13)⟩
end Go.Proofs.Ytniblgokhibmfaa.Sy
