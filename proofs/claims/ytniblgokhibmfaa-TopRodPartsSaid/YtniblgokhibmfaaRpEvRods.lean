/- The rate of a clock with one rod does not hang on the rod's length. -/
import Derived.Test.YtniblgokhibmfaaRpEvBeatB
set_option linter.unusedSimpArgs false
set_option linter.unusedVariables false
namespace Go.Proofs.Ytniblgokhibmfaa.Sy
open Go.RowKit
set_option maxRecDepth 100000
def Wi (A : Int) (r : Int × Int) : Prop := -A ≤ r.1 ∧ r.1 ≤ A ∧ -A ≤ r.2 ∧ r.2 ≤ A
theorem min_hom {L : Int} (h : 0 ≤ L) (a b : Int) : min (L * a) (L * b) = L * min a b := by
  rcases Int.le_total a b with h1 | h1
  · rw [Int.min_eq_left h1, Int.min_eq_left (Int.mul_le_mul_of_nonneg_left h1 h)]
  · rw [Int.min_eq_right h1, Int.min_eq_right (Int.mul_le_mul_of_nonneg_left h1 h)]
theorem max_hom {L : Int} (h : 0 ≤ L) (a b : Int) : max (L * a) (L * b) = L * max a b := by
  rcases Int.le_total a b with h1 | h1
  · rw [Int.max_eq_right h1, Int.max_eq_right (Int.mul_le_mul_of_nonneg_left h1 h)]
  · rw [Int.max_eq_left h1, Int.max_eq_left (Int.mul_le_mul_of_nonneg_left h1 h)]
theorem lb {L C x : Int} (h0 : 1 ≤ L) (h1 : L ≤ 4000) (hx : -C ≤ x ∧ x ≤ C) (hC : 0 ≤ C) : -(4000 * C) ≤ L * x ∧ L * x ≤ 4000 * C := mulB (by omega) h1 hx.1 hx.2
theorem by_hom {n : Nat} (hn : 5 < n) {A B C : Int} {r s : Int × Int} (hr : Wi A r) (hs : Wi B s) (hC : A * B ≤ C) (hC1 : 0 ≤ C) (hC2 : C ≤ 1000000000000000) :
    ∃ q, Wi C q ∧ ∀ L, 1 ≤ L → L ≤ 4000 → ev_beat_span_by n (L * r.1) (L * r.2) s.1 s.2 = some (L * q.1, L * q.2) := by
  obtain ⟨h1, h2, h3, h4⟩ := hr;obtain ⟨g1, g2, g3, g4⟩ := hs;have a := mulB h1 h2 g1 g2;have b := mulB h1 h2 g3 g4;have c := mulB h3 h4 g1 g2;have d := mulB h3 h4 g3 g4;refine ⟨(min (min (min (r.1 * s.1) (r.1 * s.2)) (r.2 * s.1)) (r.2 * s.2), max (max (max (r.1 * s.1) (r.1 * s.2)) (r.2 * s.1)) (r.2 * s.2)), ⟨?_, ?_, ?_, ?_⟩, fun L l0 l1 => ?_⟩
  · simp only; omega
  · simp only; omega
  · simp only; omega
  · simp only; omega
  · have a' := lb (C := C) (x := r.1 * s.1) l0 l1 (by omega) hC1;have b' := lb (C := C) (x := r.1 * s.2) l0 l1 (by omega) hC1;have c' := lb (C := C) (x := r.2 * s.1) l0 l1 (by omega) hC1;have d' := lb (C := C) (x := r.2 * s.2) l0 l1 (by omega) hC1;have l2 : 0 ≤ L := by omega
    rw [ev_beat_span_by];simp only [Int.mul_assoc];rw [chk_of (in64_of (by omega)), chk_of (in64_of (by omega)), chk_of (in64_of (by omega)), chk_of (in64_of (by omega)), bind_of (min4 hn _ _ _ _), bind_of (max4 hn _ _ _ _), min_hom l2, min_hom l2, min_hom l2, max_hom l2, max_hom l2, max_hom l2]
theorem by_len {n : Nat} (hn : 5 < n) {A K C : Int} {r : Int × Int} (h1 : -A ≤ r.1) (h2 : r.1 ≤ r.2) (h3 : r.2 ≤ A) (hK : 0 ≤ K) (hC : K * A ≤ C) (hC1 : 0 ≤ C) (hC2 : C ≤ 1000000000000000) :
    Wi C (K * r.1, K * r.2) ∧ ∀ L, 1 ≤ L → L ≤ 4000 → ev_beat_span_by n r.1 r.2 (K * L) (K * L) = some (L * (K * r.1), L * (K * r.2)) := by
  have a := mulB (x := K) (y := r.1) (A := K) (B := A) (by omega) (by omega) h1 (by omega);have b := mulB (x := K) (y := r.2) (A := K) (B := A) (by omega) (by omega) (by omega) h3;refine ⟨⟨by simp only; omega, by simp only; omega, by simp only; omega, by simp only; omega⟩, fun L l0 l1 => ?_⟩;have a' := lb (C := C) (x := K * r.1) l0 l1 (by omega) hC1;have b' := lb (C := C) (x := K * r.2) l0 l1 (by omega) hC1;have hle := Int.mul_le_mul_of_nonneg_left (Int.mul_le_mul_of_nonneg_left h2 hK) (show 0 ≤ L by omega);have e : ∀ z : Int, z * (K * L) = L * (K * z) := fun z => by rw [Int.mul_comm K L, Int.mul_left_comm, Int.mul_comm z K]
  rw [ev_beat_span_by];simp only [e];rw [chk_of (in64_of (by omega)), chk_of (in64_of (by omega)), chk_of (in64_of (by omega)), chk_of (in64_of (by omega)), bind_of (min4 hn _ _ _ _), bind_of (max4 hn _ _ _ _)]
  congr 1
  simp only [Prod.mk.injEq]
  omega
theorem plus_hom {n : Nat} {A B C : Int} {r s : Int × Int} (hr : Wi A r) (hs : Wi B s) (hC : A + B ≤ C) (hA : 0 ≤ A) (hB : 0 ≤ B) (hC2 : C ≤ 1000000000000000) :
    Wi C (r.1 + s.1, r.2 + s.2) ∧ ∀ L, 1 ≤ L → L ≤ 4000 → ev_beat_span_plus n (L * r.1) (L * r.2) (L * s.1) (L * s.2) = some (L * (r.1 + s.1), L * (r.2 + s.2)) := by
  obtain ⟨h1, h2, h3, h4⟩ := hr;obtain ⟨g1, g2, g3, g4⟩ := hs;refine ⟨⟨by simp only; omega, by simp only; omega, by simp only; omega, by simp only; omega⟩, fun L l0 l1 => ?_⟩;have a := lb (C := A) (x := r.1) l0 l1 (by omega) hA;have b := lb (C := A) (x := r.2) l0 l1 (by omega) hA;have c := lb (C := B) (x := s.1) l0 l1 (by omega) hB;have d := lb (C := B) (x := s.2) l0 l1 (by omega) hB;rw [ev_beat_span_plus, chk_of (in64_of (by omega)), chk_of (in64_of (by omega)), Int.mul_add, Int.mul_add]
theorem less_hom {n : Nat} (hn : 5 < n) {A B C : Int} {r s : Int × Int} (hr : Wi A r) (hs : Wi B s) (hC : A + B ≤ C) (hA : 0 ≤ A) (hB : 0 ≤ B) (hC2 : C ≤ 1000000000000000) :
    ∃ q, Wi C q ∧ ∀ L, 1 ≤ L → L ≤ 4000 → ev_beat_span_less n (L * r.1) (L * r.2) (L * s.1) (L * s.2) = some (L * q.1, L * q.2) := by
  obtain ⟨t, ht, ht2⟩ := by_hom hn (s := (-1, -1)) (B := 1) (C := B) hs (by unfold Wi; decide) (by omega) hB (by omega);obtain ⟨hp, hp2⟩ := plus_hom (n := n) hr ht hC hA hB hC2;refine ⟨_, hp, fun L l0 l1 => ?_⟩;rw [ev_beat_span_less, ev_beat_one, bind_of rfl, bind_of (ht2 L l0 l1), bind_of (hp2 L l0 l1)]
theorem spW {A : Int} {r : Int × Int} {v : Int} (h : SpB False A r v) : Wi A r ∧ r.1 ≤ r.2 := by
  obtain ⟨h1, h2, h3, h4, _⟩ := h;exact ⟨⟨by omega, by omega, by omega, by omega⟩, by omega⟩
theorem spF {A a b : Int} (h0 : -A ≤ a) (h : a ≤ b) (h1 : b ≤ A) : SpB False A (a, b) a := ⟨Int.le_refl _, h, h0, h1, fun e => e.elim⟩
theorem len1 (L g0 g1 : Int) : lenB [(L, g0, g1, false)] = L := by simp [lenB, sgnB]
theorem okR1 {L g0 g1 : Int} (h0 : 1 ≤ L) (h1 : L ≤ 4000) (hg : 0 ≤ g0 ∧ g0 ≤ g1 ∧ g1 ≤ 1000) : OkRs [(L, g0, g1, false)] := by
  intro r hr;rw [List.mem_singleton] at hr; subst hr;simp only; omega
theorem rate1 {n : Nat} (hn : 20 < n) {k base g0 g1 b1 b2 b3 b4 b5 b6 b7 b8 : Int} (hb : -40000 ≤ base ∧ base ≤ 40000) (hg : 0 ≤ g0 ∧ g0 ≤ g1 ∧ g1 ≤ 1000) (h : OkBo b1 b2 b3 b4 b5 b6 b7 b8) :
    ∃ q, Wi 1000000000000 q ∧ ∀ L, 1 ≤ L → L ≤ 4000 → ev_p_beat_known_rate n k base [(L, g0, g1, false)] (-5) 2 (-2) 9 [(g0, g1)] (-5) 2 (-2) 9 b1 b2 b3 b4 b5 b6 b7 b8 = some (L * q.1, L * q.2) := by
  obtain ⟨x1, x2, x3, x4, x5, x6, x7, x8, x9, x10, x11, x12⟩ := h;obtain ⟨r22, e22, s22⟩ := by_ev (n := n) (by omega) (spF (A := 100) (a := -5) (b := 2) (by decide) (by decide) (by decide)) (spF x4 x5 x6) (C := 10000) (by decide) (by decide);obtain ⟨r23, e23, s23⟩ := plus_ev (n := n) (SpB.one (ex := False) (B := 40000) hb.1 hb.2) s22 (C := 50000) (by decide) (by decide);obtain ⟨r24, e24, s24⟩ := by_ev (n := n) (by omega) (spF (A := 100) (a := -2) (b := 9) (by decide) (by decide) (by decide)) (spF x10 x11 x12) (C := 10000) (by decide) (by decide);obtain ⟨r25, e25, s25⟩ := plus_ev (n := n) s23 s24 (C := 60000) (by decide) (by decide);have w25 := spW s25;obtain ⟨w27, e27⟩ := by_len (n := n) (by omega) (A := 60000) (K := 10000) (C := 600000000) s25.b0 w25.2 s25.b1 (by decide) (by decide) (by decide) (by decide);obtain ⟨w28, e28⟩ := by_len (n := n) (by omega) (A := 1000) (K := 1) (C := 1000) (r := (g0, g1)) (by simp only; omega) hg.2.1 hg.2.2 (by decide) (by decide) (by decide) (by decide);obtain ⟨r29, w29, e29⟩ := by_hom (n := n) (by omega) w28 (spW (spF x1 x2 x3)).1 (C := 100000) (by decide) (by decide) (by decide);obtain ⟨r31, w31, e31⟩ := by_hom (n := n) (by omega) w29 (s := (432, 432)) (B := 432) (by unfold Wi; decide) (C := 43200000) (by decide) (by decide) (by decide);obtain ⟨r32, w32, e32⟩ := less_hom (n := n) (by omega) w27 w31 (C := 1000000000) (by decide) (by decide) (by decide) (by decide);obtain ⟨r33, e33, s33⟩ := square_ev (n := n) (spF (A := 100) (by omega) x8 x9) x7 (C := 10000) (by decide) (by decide);have w33 := spW s33;obtain ⟨w36, e36⟩ := by_len (n := n) (by omega) (A := 10000) (K := 4570) (C := 45700000) s33.b0 w33.2 s33.b1 (by decide) (by decide) (by decide) (by decide);obtain ⟨r37, w37, e37⟩ := less_hom (n := n) (by omega) w32 w36 (C := 1000000000000) (by decide) (by decide) (by decide) (by decide);refine ⟨r37, w37, fun L l0 l1 => ?_⟩;have hok := okR1 l0 l1 hg;have hpt := parts_ev (n := n) (by omega) hok (by simp) k base (-5) 2 (-2) 9 [(g0, g1)] (-5) 2 (-2) 9 b1 b2 b3 b4 b5 b6 b7 b8;have hle := len_ev (n := n) (by omega) hok (by simp) k base (-5) 2 (-2) 9;rw [len1] at hpt hle;have hsum : ev_p_beat_known_sum n k base [(L, g0, g1, false)] (-5) 2 (-2) 9 [(g0, g1)] (-5) 2 (-2) 9 b1 b2 b3 b4 b5 b6 b7 b8 = some (L * (1 * g0), L * (1 * g1)) := by
    obtain ⟨m, hm⟩ : ∃ m, n = m + 1 + 1 := ⟨n - 2, by omega⟩;have u := lb (C := 1000) (x := 1 * g0) l0 l1 (by omega) (by decide);have v := lb (C := 1000) (x := 1 * g1) l0 l1 (by omega) (by decide);rw [ev_p_beat_known_sum]
    conv => lhs; arg 3; rw [hm]
    rw [ev_p_beat_known_sum_l0, cond_if, if_pos (by simp), idx_of (x := (L, g0, g1, false)) (by decide) rfl, idx_of (x := (g0, g1)) (by decide) rfl, ev_beat_sign, cond_false, bind_of rfl, chk_of (in64_of (by omega)), ev_beat_one, bind_of rfl, bind_of (e28 L l0 l1), ev_beat_span_plus, chk_of (in64_of (by simp only; omega)), chk_of (in64_of (by simp only; omega)), bind_of rfl, chk_of (by decide), ev_p_beat_known_sum_l0, cond_if, if_neg (by simp)];simp only [Int.zero_add]
  rw [ev_p_beat_known_rate, ev_beat_one, bind_of rfl, bind_of e22, bind_of e23, bind_of e24, bind_of e25, bind_of hpt, bind_of (e27 L l0 l1), bind_of hsum, bind_of (e29 L l0 l1), ev_beat_one, bind_of rfl, bind_of (e31 L l0 l1), bind_of (e32 L l0 l1), bind_of e33, bind_of hle, chk_of (in64_of (by omega)), ev_beat_one, bind_of rfl, bind_of (e36 L l0 l1), bind_of (e37 L l0 l1)]
theorem Rate1 {n : Nat} (hn : 20 < n) {base g0 g1 b1 b2 b3 b4 b5 b6 b7 b8 : Int} (hb : -40000 ≤ base ∧ base ≤ 40000) (hg : 0 ≤ g0 ∧ g0 ≤ g1 ∧ g1 ≤ 1000) (h : OkBo b1 b2 b3 b4 b5 b6 b7 b8) :
    ∃ lo hi, ∀ L, 100 ≤ L → L ≤ 4000 → ev_beat_Rate n 1 base [(L, g0, g1, false)] (-5) 2 (-2) 9 b1 b2 b3 b4 b5 b6 b7 b8 = some (lo, hi, 0) := by
  obtain ⟨q, hq, hr⟩ := rate1 hn (k := 1) hb hg h;obtain ⟨q1, q2, q3, q4⟩ := hq;refine ⟨q.1 / 10000, 0 - (-q.2) / 10000, fun L l0 l1 => ?_⟩;have hok := okR1 (show 1 ≤ L by omega) l1 hg;have hpt := parts_ev (n := n) (by omega) hok (by simp) 1 base (-5) 2 (-2) 9 (spansB [(L, g0, g1, false)]) (-5) 2 (-2) 9 b1 b2 b3 b4 b5 b6 b7 b8;have hle := len_ev (n := n) (by omega) hok (by simp) 1 base (-5) 2 (-2) 9;rw [len1] at hpt hle;have hk := known_ev (n := n) hn (c := [(L, g0, g1, false)]) (by simp) 1 base (-5) 2 (-2) 9 b1 b2 b3 b4 b5 b6 b7 b8;have hC : ev_beat_Check n 1 base [(L, g0, g1, false)] (-5) 2 (-2) 9 = some 0 := by
    rw [ev_beat_Check, cond_if, if_neg (by simp), cond_if, if_neg (by simp), bind_of (cf_Lapi_BeatRod_api_BeatRod (g := fun _ => false) (fun x hx => by rw [ev_beat_Check_1, bind_of (isRod_ev (by omega) (hok x hx))]; rfl) (by simp) (by simp; omega)), any_false, cond_if, if_neg (by simp),
      ev_beat_isLength, bind_of (x := true) (by rw [bind_of hle, bind_of (wi1_beat (by omega))]; congr 1; simp only [Bool.and_eq_true, decide_eq_true_eq]; omega), cond_if, if_neg (by simp),
      ev_beat_Check_j0, bind_of (wi1_beat (by omega)), cond_if, if_neg (by simp; omega), bind_of (isValid_ev (by omega) (by decide) (by decide) (by decide)), cond_if, if_neg (by simp), ev_beat_isDrive, cond_if, if_pos (by rfl), bind_of (x := true) (by rw [bind_of (isValid_ev (by omega) (by decide) (by decide) (by decide))]), cond_if, if_neg (by simp)]
  have hopen : ev_beat_open n 1 base [(L, g0, g1, false)] (-5) 2 (-2) 9 b1 b2 b3 b4 b5 b6 b7 b8 = none := by
    rw [ev_beat_open, bind_of hC, cond_if, if_neg (by simp), bind_of (isBounds_ev hn h), cond_if, if_neg (by simp), bind_of hk]
  have hopen2 : ev_beat_open_v1 n 1 base [(L, g0, g1, false)] (-5) 2 (-2) 9 b1 b2 b3 b4 b5 b6 b7 b8 = some (1, base, [(L, g0, g1, false)], -5, 2, -2, 9, spansB [(L, g0, g1, false)], -5, 2, -2, 9, b1, b2, b3, b4, b5, b6, b7, b8, 0) := by
    rw [ev_beat_open_v1, bind_of hC, cond_if, if_neg (by simp), bind_of (isBounds_ev hn h), cond_if, if_neg (by simp), bind_of hk]
  have u := lb (C := 1000000000000) (x := q.1) (by omega : 1 ≤ L) l1 (by omega) (by decide);have v := lb (C := 1000000000000) (x := q.2) (by omega : 1 ≤ L) l1 (by omega) (by decide);have f1 : L * q.1 / (10000 * L) = q.1 / 10000 := by rw [Int.mul_comm 10000 L]; exact Int.mul_ediv_mul_of_pos _ _ (by omega)
  have f2 : (0 - L * q.2) / (10000 * L) = (-q.2) / 10000 := by rw [Int.mul_comm 10000 L, Int.zero_sub, ← Int.mul_neg]; exact Int.mul_ediv_mul_of_pos _ _ (by omega)
  have hro : ev_p_beat_known_rounded n 1 base [(L, g0, g1, false)] (-5) 2 (-2) 9 (spansB [(L, g0, g1, false)]) (-5) 2 (-2) 9 b1 b2 b3 b4 b5 b6 b7 b8 (L * q.1) (L * q.2) = some (q.1 / 10000, 0 - (-q.2) / 10000) := by
    rw [ev_p_beat_known_rounded, bind_of hpt, bind_of (floor_ev (by simp only; omega) (by omega)), chk_of (in64_of (by omega)), bind_of (floor_ev (by simp only; omega) (by omega)), f1, f2, chk_of (in64_of (by omega))]
  rw [ev_beat_Rate, alt_none hopen, bind_of hopen2, cond_if, if_neg (by simp)];have hr' := hr L (by omega) l1;exact (bind_of (k := fun r18 : Int × Int => (ev_p_beat_known_rounded n 1 base [(L, g0, g1, false)] (-5) 2 (-2) 9 (spansB [(L, g0, g1, false)]) (-5) 2 (-2) 9 b1 b2 b3 b4 b5 b6 b7 b8 r18.1 r18.2).bind fun r19 => some (r19.1, r19.2, (0 : Int))) hr').trans (bind_of hro)
end Go.Proofs.Ytniblgokhibmfaa.Sy
