/- Rods by a pattern: whichever good rod a pendulum gets, the spans of its rates are the same. -/
import Derived.Test.YtniblgokhibmfaaRpEvRods
import Derived.Test.YtniblgokhibmfaaRpGPartA
import Derived.Test.YtniblgokhibmfaaRpGPart
import Derived.Test.YtniblgokhibmfaaRpSpPartA
import Derived.Test.YtniblgokhibmfaaRpGTopRodParts
set_option linter.unusedSimpArgs false
set_option linter.unusedVariables false
namespace Go.Proofs.Ytniblgokhibmfaa.Sy
open Go.RowKit
set_option maxRecDepth 100000
theorem pubBeat_rp (k : Nat) : ev_top_pubBeat (k + 2200) = some true := by kernel_rfl
theorem armParts_rp (k : Nat) : ev_top_armParts (k + 2200) = some true := by kernel_rfl
def by8r (x : Int) : Prop := 0 ≤ x ∧ x ≤ 255
theorem bounds_rp {n : Nat} {y1 y2 y3 y4 : Int} (h1 : by8r y1) (h2 : by8r y2) (h3 : by8r y3) (h4 : by8r y4) : ∃ b1 b2 b3 b4 b5 b6 b7 b8, ev_top_pubBounds n y1 y2 y3 y4 = some (b1, b2, b3, b4, b5, b6, b7, b8) ∧ OkBo b1 b2 b3 b4 b5 b6 b7 b8 := by
  obtain ⟨h1, h1'⟩ := h1;obtain ⟨h2, h2'⟩ := h2;obtain ⟨h3, h3'⟩ := h3;obtain ⟨h4, h4'⟩ := h4;have e2 : Int.tmod (0 - y2) 50 = -(y2 % 50) := by rw [Int.zero_sub, Int.neg_tmod, Int.tmod_eq_emod_of_nonneg h2]
  have e4 : Int.tmod (0 - y4) 20 = -(y4 % 20) := by rw [Int.zero_sub, Int.neg_tmod, Int.tmod_eq_emod_of_nonneg h4]
  simp only [ev_top_pubBounds, ev_top_pubSpan, Option.bind_some, e2, e4, Int.tmod_eq_emod_of_nonneg h1, Int.tmod_eq_emod_of_nonneg h2, Int.tmod_eq_emod_of_nonneg h3, Int.tmod_eq_emod_of_nonneg h4];rw [chk_of (in64_of (by omega)), chk_of (in64_of (by omega)), chk_of (in64_of (by omega)), chk_of (in64_of (by omega)), chk_of (in64_of (by omega)), chk_of (in64_of (by omega)), chk_of (in64_of (by omega)), chk_of (in64_of (by omega)), chk_of (in64_of (by omega)), chk_of (in64_of (by omega))];exact ⟨_, _, _, _, _, _, _, _, rfl, by constructor <;> omega⟩
section
variable {n : Nat} {lo hi : Int}
theorem pCheck_ev (hn : 300 < n) (h0 : 0 ≤ lo) (h1 : lo ≤ hi) (h2 : hi ≤ 4000) : ev_part_Check n [[(lo, hi)]] [] = some 0 := by
  have e1 : ev_part_Check_1 n [(lo, hi)] = some false := by
    have : ev_part_isPattern n [(lo, hi)] = some true := by
      rw [ev_part_isPattern, bind_of (wi1_part (by omega)), cond_if, if_pos (by simp), bind_of (cf_Lapi_Span_api_Span (g := fun _ => false) (fun x hx => ?_) (by simp) (by simp; omega))]
      · rfl
      · rw [List.mem_singleton] at hx; subst hx;rw [ev_part_isPattern_1, ev_part_isSpan, bind_of (x := true)]
        · rfl
        · rw [bind_of (wi2_part (by omega)), cond_if, if_pos (by simp only [Bool.and_eq_true, decide_eq_true_eq]; omega)]
          congr 1
          simpa using h1
    rw [ev_part_Check_1, bind_of this]; rfl
  have e2 : ∀ m, ev_slices_IndexFunc_LLapi_Span_Lapi_Span_l0 n [[(lo, hi)]] (m + 1 + 1) 0 = some (-1) := by
    intro m;rw [ev_slices_IndexFunc_LLapi_Span_Lapi_Span_l0, cond_if, if_pos (by simp), idx_of (x := [(lo, hi)]) (by decide) rfl, bind_of e1, cond_if, if_neg (by simp), chk_of (by decide), ev_slices_IndexFunc_LLapi_Span_Lapi_Span_l0, cond_if, if_neg (by simp)]
  obtain ⟨m, hm⟩ : ∃ m, n = m + 1 + 1 := ⟨n - 2, by omega⟩;have e3 := e2 m;rw [← hm] at e3;rw [ev_part_Check, bind_of (wi1_part (by omega)), cond_if, if_neg (by simp), ev_slices_ContainsFunc_LLapi_Span_Lapi_Span, ev_slices_IndexFunc_LLapi_Span_Lapi_Span, bind_of (x := false) (by rw [bind_of e3]; rfl), cond_if, if_neg (by simp), cond_if, if_neg (by simp), bind_of (cf_Lapi_PartFit_api_PartFit (g := fun _ => false) (fun x hx => by simp at hx) (by simp) (by simp; omega)), cond_if, if_neg (by simp)]
theorem pcheck_ev (hn : 300 < n) {s : Int} (h0 : 0 ≤ s) (h1 : s ≤ 1000000) : ev_part_works_check n [[(lo, hi)]] [] 0 [s] = some 0 := by
  rw [ev_part_works_check, chk_of (in64_of (by simp)), bind_of (wi1_part (by omega)), cond_if, if_neg (by simp), idx_of (x := [(lo, hi)]) (by decide) rfl, cond_if, if_neg (by simp), bind_of (wi1_part (by omega)), cond_if, if_neg (by simp; omega)]
theorem pgood_ev (hn : 300 < n) {s : Int} (h0 : lo ≤ s) (h1 : s ≤ hi) : ev_part_works_isGood n [[(lo, hi)]] [] 0 [s] = some true := by
  have e : ∀ m, ev_part_works_isGood_l0 n [(lo, hi)] (m + 1 + 1) 0 0 [(lo, hi)] [s] = some true := by
    intro m;rw [ev_part_works_isGood_l0, cond_if, if_pos (by simp), idx_of (x := (lo, hi)) (by decide) rfl, idx_of (x := s) (by decide) rfl, bind_of (wi1_part (by omega)), cond_if, if_neg (by simp; omega), chk_of (by decide), ev_part_works_isGood_l0, cond_if, if_neg (by simp)]
  obtain ⟨m, hm⟩ : ∃ m, n = m + 1 + 1 := ⟨n - 2, by omega⟩;have e3 := e m;rw [← hm] at e3;rw [ev_part_works_isGood, idx_of (x := [(lo, hi)]) (by decide) rfl, e3]
theorem pbad_ev (hn : 300 < n) {s : Int} (h1 : hi < s) : ev_part_works_isGood n [[(lo, hi)]] [] 0 [s] = some false := by
  have e : ∀ m, ev_part_works_isGood_l0 n [(lo, hi)] (m + 1) 0 0 [(lo, hi)] [s] = some false := by
    intro m;rw [ev_part_works_isGood_l0, cond_if, if_pos (by simp), idx_of (x := (lo, hi)) (by decide) rfl, idx_of (x := s) (by decide) rfl, bind_of (wi1_part (by omega)), cond_if, if_pos (by simp; omega)]
  obtain ⟨m, hm⟩ : ∃ m, n = m + 1 := ⟨n - 1, by omega⟩;have e3 := e m;rw [← hm] at e3;rw [ev_part_works_isGood, idx_of (x := [(lo, hi)]) (by decide) rfl, e3]
theorem pgoes_ev (hn : 300 < n) {s : Int} : ev_part_works_goes n [[(lo, hi)]] [] 0 [s] [] = some true := by
  have e : ∀ m, ev_part_works_mates_1_l0 (loopStep (ev_part_works_goes_r0 n)) n [] (m + 1) 0 0 [] ((false, 0, [s]), 0) = some ((false, 0, [s]), 0) := by
    intro m;rw [ev_part_works_mates_1_l0, cond_if, if_neg (by simp)]
  obtain ⟨m, hm⟩ : ∃ m, n = m + 1 := ⟨n - 1, by omega⟩;have e3 := e m;rw [← hm] at e3;rw [ev_part_works_goes, ev_part_works_mates, bind_of rfl, ev_part_works_mates_1, bind_of e3, cond_if, if_pos (by rfl)]
theorem choose_ev (hn : 300 < n) {s0 s1 : Int} (h0 : 900 ≤ lo) (h1 : lo ≤ hi) (h2 : hi ≤ 3900) (a0 : lo ≤ s0) (a1 : s0 ≤ hi) (b0 : lo ≤ s1) (b1 : s1 ≤ hi) :
    ev_part_Choose n [[(lo, hi)]] [] [] 0 [(0, [s0]), (0, [s1]), (0, [hi + 1])] = some ([0, 1], 0) := by
  have e : ∀ m, ev_part_Choose_l2 n [(0, [s0]), (0, [s1]), (0, [hi + 1])] 0 (m + 1 + 1 + 1 + 1) 0 [] [] [(0, [s0]), (0, [s1]), (0, [hi + 1])] [[(lo, hi)]] [] = some ([0, 1], 0) := by
    intro m;rw [ev_part_Choose_l2, cond_if, if_pos (by simp), idx_of (x := (0, [s0])) (by decide) rfl, bind_of (pcheck_ev hn (by omega) (by omega)), cond_if, if_neg (by simp), cond_if, if_pos (by rfl), bind_of (pgood_ev hn a0 a1), cond_if, if_pos rfl, bind_of (pgoes_ev hn), cond_if, if_pos rfl, chk_of (room_iff.2 (by simp)), chk_of (by decide),
      ev_part_Choose_l2, cond_if, if_pos (by simp), idx_of (x := (0, [s1])) (by decide) rfl, bind_of (pcheck_ev hn (by omega) (by omega)), cond_if, if_neg (by simp), cond_if, if_pos (by rfl), bind_of (pgood_ev hn b0 b1), cond_if, if_pos rfl, bind_of (pgoes_ev hn), cond_if, if_pos rfl, chk_of (room_iff.2 (by simp)), chk_of (by decide),
      ev_part_Choose_l2, cond_if, if_pos (by simp), idx_of (x := (0, [hi + 1])) (by decide) rfl, bind_of (pcheck_ev hn (by omega) (by omega)), cond_if, if_neg (by simp), cond_if, if_pos (by rfl), bind_of (pbad_ev hn (by omega)), cond_if, if_neg (by simp), chk_of (by decide),
      ev_part_Choose_l2, cond_if, if_neg (by simp)]
    rfl
  obtain ⟨m, hm⟩ : ∃ m, n = m + 1 + 1 + 1 + 1 := ⟨n - 4, by omega⟩;have e3 := e m;rw [← hm] at e3;have e4 : ∀ m, ev_part_Choose_l1 n [] 0 (m + 1) [] 0 [(0, [s0]), (0, [s1]), (0, [hi + 1])] [] [] [[(lo, hi)]] [] = some ([0, 1], 0) := by
    intro m;rw [ev_part_Choose_l1, cond_if, if_neg (by simp), e3]
  obtain ⟨m', hm'⟩ : ∃ m, n = m + 1 := ⟨n - 1, by omega⟩;have e5 := e4 m';rw [← hm'] at e5;rw [ev_part_Choose, bind_of (pCheck_ev hn (by omega) h1 (by omega)), cond_if, if_neg (by simp), chk_of (in64_of (by simp)), bind_of (wi1_part (by omega)), cond_if, if_neg (by simp), cond_if, if_neg (by simp), ev_part_Choose_j0, cond_if, if_neg (by simp), e5]
end
theorem rods_rp {n : Nat} {k base a b c d L g0 g1 : Int} : ev_top_pubRods n k base [(L, g0, g1, false)] a b c d = some (k, base, [(L, g0, g1, false)], a, b, c, d) := by
  rw [ev_top_pubRods, chk_of (room_iff.2 (by simp))]; rfl
theorem topRodParts_ev {k0 : Nat} {v1 v2 v3 v4 v5 v6 base y1 y2 y3 y4 : Int} (h1 : by8r v1) (h2 : by8r v2) (h3 : by8r v3) (h4 : by8r v4) (h5 : by8r v5) (h6 : by8r v6) (hb : -32768 ≤ base ∧ base ≤ 32767) (w1 : by8r y1) (w2 : by8r y2) (w3 : by8r y3) (w4 : by8r y4) :
    ev_top_TopRodParts (k0 + 2200) v1 v2 v3 v4 v5 v6 base y1 y2 y3 y4 = some true := by
  have p1 := pubBeat_rp k0;have p2 := armParts_rp k0;obtain ⟨n, hn⟩ : ∃ n, n = k0 + 2200 := ⟨_, rfl⟩;rw [← hn] at p1 p2 ⊢;obtain ⟨b1, b2, b3, b4, b5, b6, b7, b8, hbo, hob⟩ := bounds_rp (n := n) w1 w2 w3 w4;obtain ⟨h1, h1'⟩ := h1;obtain ⟨h2, h2'⟩ := h2;obtain ⟨h3, h3'⟩ := h3;obtain ⟨h4, h4'⟩ := h4;obtain ⟨h5, h5'⟩ := h5;obtain ⟨h6, h6'⟩ := h6;obtain ⟨lo, hlo⟩ : ∃ lo, lo = (900 : Int) + (10 : Int) * v1 := ⟨_, rfl⟩;obtain ⟨hi, hhi⟩ : ∃ hi, hi = lo + v2 := ⟨_, rfl⟩;obtain ⟨g1, hg1⟩ : ∃ g1, g1 = v3 + v4 := ⟨_, rfl⟩;obtain ⟨rl, rh, hR⟩ := Rate1 (n := n) (by omega) (base := base) (g0 := v3) (g1 := g1) (by omega) (by omega) hob;have q0 := Int.emod_nonneg v5 (show hi - lo + 1 ≠ 0 by omega);have q1 := Int.emod_lt_of_pos v5 (show 0 < hi - lo + 1 by omega);have q2 := Int.emod_nonneg v6 (show hi - lo + 1 ≠ 0 by omega);have q3 := Int.emod_lt_of_pos v6 (show 0 < hi - lo + 1 by omega);have t5 : Int.tmod v5 (hi - lo + 1) = v5 % (hi - lo + 1) := Int.tmod_eq_emod_of_nonneg h5;have t6 : Int.tmod v6 (hi - lo + 1) = v6 % (hi - lo + 1) := Int.tmod_eq_emod_of_nonneg h6;obtain ⟨s0, hs0⟩ : ∃ s0, s0 = lo + v5 % (hi - lo + 1) := ⟨_, rfl⟩;obtain ⟨s1, hs1⟩ : ∃ s1, s1 = lo + v6 % (hi - lo + 1) := ⟨_, rfl⟩;have hC := choose_ev (n := n) (lo := lo) (hi := hi) (s0 := s0) (s1 := s1) (by omega) (by omega) (by omega) (by omega) (by omega) (by omega) (by omega) (by omega);have set1 : ∀ z : Int, List.set [((z : Int), v3, g1, false)] (0 : Int).toNat (s0, v3, g1, false) = [(s0, v3, g1, false)] := fun z => rfl
  have set2 : ∀ z : Int, List.set [((z : Int), v3, g1, false)] (0 : Int).toNat (s1, v3, g1, false) = [(s1, v3, g1, false)] := fun z => rfl
  have hl2 : ∀ m, ev_top_TopRodParts_l2 n (m + 1 + 1 + 1) 0 1 base (-5) 2 (-2) 9 b1 b2 b3 b4 b5 b6 b7 b8 [(0, [s0]), (0, [s1]), (0, [hi + 1])] [0, 1] [(0, 0), (0, 0)] [(0, v3, g1, false)] = some true := by
    intro m;rw [ev_top_TopRodParts_l2, cond_if, if_pos (by decide), idx_of (x := 0) (by decide) rfl, idx_of (x := (0, [s0])) (by decide) rfl, idx_of (x := s0) (by decide) rfl, idx_of (x := (0, v3, g1, false)) (by decide) rfl, set1, bind_of rods_rp, bind_of (hR s0 (by omega) (by omega)), cond_if, if_neg (by simp), chk_of (by decide), idx_of (x := (0, 0)) (by decide) rfl, chk_of (by decide),
      ev_top_TopRodParts_l2, cond_if, if_pos (by decide), idx_of (x := 1) (by decide) rfl, idx_of (x := (0, [s1])) (by decide) rfl, idx_of (x := s1) (by decide) rfl, idx_of (x := (s0, v3, g1, false)) (by decide) rfl, set2, bind_of rods_rp, bind_of (hR s1 (by omega) (by omega)), cond_if, if_neg (by simp), chk_of (by decide), idx_of (x := (0, 0)) (by decide) rfl, chk_of (by decide),
      ev_top_TopRodParts_l2, cond_if, if_neg (by decide), chk_of (by rfl), cond_if, if_pos (by simp), bind_of p1, cond_if, if_pos rfl, bind_of p2]
  obtain ⟨m, hm⟩ : ∃ m, n = m + 1 + 1 + 1 := ⟨n - 3, by omega⟩;have e3 := hl2 m;rw [← hm] at e3;have hl0 : ∀ m, ev_top_TopRodParts_l0 n (m + 1 + 1 + 1 + 1) 0 v1 v2 v3 v4 v5 v6 lo hi [] 1 base (-5) 2 (-2) 9 b1 b2 b3 b4 b5 b6 b7 b8 [] [[(lo, hi)]] [(0, v3, g1, false)] = some true := by
    intro m;have ck : ∀ {α : Type} {k : Option α}, (chk (in64 v5) <| chk (in64 (hi - lo)) <| chk (in64 (hi - lo + 1)) <| chk (hi - lo + 1 != 0) <| chk (in64 s0) <| chk (in64 v6) <| chk (in64 (hi - lo)) <| chk (in64 (hi - lo + 1)) <| chk (hi - lo + 1 != 0) <| chk (in64 s1) <| chk (in64 (hi + 1)) k) = k := by
      intro α k;rw [chk_of (in64_of (by omega)), chk_of (in64_of (by omega)), chk_of (in64_of (by omega)), chk_of (by simp; omega), chk_of (in64_of (by omega)), chk_of (in64_of (by omega)), chk_of (in64_of (by omega)), chk_of (in64_of (by omega)), chk_of (by simp; omega), chk_of (in64_of (by omega)), chk_of (in64_of (by omega))]
    rw [ev_top_TopRodParts_l0, cond_if, if_pos (by decide), t5, t6, ← hs0, ← hs1, ck, chk_of (by decide), idx_of (x := s0) (by decide) rfl, chk_of (room_iff.2 (by simp)), chk_of (by decide),
      ev_top_TopRodParts_l0, cond_if, if_pos (by decide), t5, t6, ← hs0, ← hs1, ck, chk_of (by decide), idx_of (x := s1) (by decide) rfl, chk_of (room_iff.2 (by simp)), chk_of (by decide),
      ev_top_TopRodParts_l0, cond_if, if_pos (by decide), t5, t6, ← hs0, ← hs1, ck, chk_of (by decide), idx_of (x := hi + 1) (by decide) rfl, chk_of (room_iff.2 (by simp)), chk_of (by decide),
      ev_top_TopRodParts_l0, cond_if, if_neg (by decide)]
    refine (bind_of (x := ([0, 1], 0)) hC).trans ?_;rw [cond_if, if_neg (by simp), cond_if, if_neg (by simp), idx_of (x := 0) (by decide) rfl, cond_if, if_neg (by simp), idx_of (x := 1) (by decide) rfl, cond_if, if_neg (by simp), ev_top_TopRodParts_j1];exact e3
  obtain ⟨m', hm'⟩ : ∃ m, n = m + 1 + 1 + 1 + 1 := ⟨n - 4, by omega⟩;have e4 := hl0 m';rw [← hm'] at e4;rw [ev_top_TopRodParts, ← hlo, chk_of (in64_of (by omega)), chk_of (in64_of (by omega)), chk_of (in64_of (by omega)), chk_of (in64_of (by omega)), chk_of (in64_of (by omega)), chk_of (in64_of (by omega)), chk_of (in64_of (by omega)), ← hhi, chk_of (in64_of (by omega)), ev_top_pubSpan, bind_of rfl, chk_of (in64_of (by omega)), chk_of (in64_of (by omega)), chk_of (in64_of (by omega)), chk_of (in64_of (by omega)), ← hg1, chk_of (in64_of (by omega)), ev_top_pubSpan, bind_of rfl, ev_top_pubSpan, bind_of rfl, ev_top_pubSpan, bind_of rfl, bind_of hbo];exact e4
theorem topRodParts_evx {v1 : Int} {v2 : Int} {v3 : Int} {v4 : Int} {v5 : Int} {v6 : Int} {base7 : Int} {weather8 : Int} {weather9 : Int} {weather10 : Int} {weather11 : Int} (h0 : (Lit.int .u8 v1).wf = true ∧ (Lit.int .u8 v2).wf = true ∧ (Lit.int .u8 v3).wf = true ∧ (Lit.int .u8 v4).wf = true ∧ (Lit.int .u8 v5).wf = true ∧ (Lit.int .u8 v6).wf = true) (h1 : (Lit.int .i16 base7).wf = true) (h2 : (Lit.int .u8 weather8).wf = true ∧ (Lit.int .u8 weather9).wf = true ∧ (Lit.int .u8 weather10).wf = true ∧ (Lit.int .u8 weather11).wf = true) :
    ∃ n, ev_top_TopRodParts n v1 v2 v3 v4 v5 v6 base7 weather8 weather9 weather10 weather11 = some true := by
  have hb : -32768 ≤ base7 ∧ base7 ≤ 32767 := by
    simpa only [Lit.wf, Bool.and_eq_true, decide_eq_true_eq, show IntKind.i16.min = -32768 from rfl, show IntKind.i16.max = 32767 from rfl] using h1
  obtain ⟨a1, a2, a3, a4, a5, a6⟩ := h0;obtain ⟨c1, c2, c3, c4⟩ := h2;exact ⟨0 + 2200, topRodParts_ev (wf8.1 a1) (wf8.1 a2) (wf8.1 a3) (wf8.1 a4) (wf8.1 a5) (wf8.1 a6) hb (wf8.1 c1) (wf8.1 c2) (wf8.1 c3) (wf8.1 c4)⟩
end Go.Proofs.Ytniblgokhibmfaa.Sy
