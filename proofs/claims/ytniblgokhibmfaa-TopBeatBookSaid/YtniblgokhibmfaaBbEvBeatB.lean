/- The rate of a clock in bounds, and in a truth within them. -/
import Derived.Test.YtniblgokhibmfaaBbEvBeatA
set_option linter.unusedSimpArgs false
set_option linter.unusedVariables false
namespace Go.Proofs.Ytniblgokhibmfaa.Sy
open Go.RowKit
set_option maxRecDepth 100000
structure OkCl (k base : Int) (c : List BR) (a0 a1 d0 d1 : Int) : Prop where
  kind : k = 1 ∨ k = 2 ∨ k = 3
  base0 : -1000 ≤ base
  base1 : base ≤ 1000
  rods : OkRs c
  few : c.length ≤ 8
  some : 1 ≤ c.length
  len0 : 100 ≤ lenB c
  len1 : lenB c ≤ 100000
  air0 : -100 ≤ a0
  air : a0 ≤ a1
  air1 : a1 ≤ 100
  dr0 : 0 ≤ d0
  dr : d0 ≤ d1
  dr1 : d1 ≤ 100
  grav : k = 3 → d1 = 0
theorem isValid_ev {n : Nat} (hn : 2 < n) {a b l m : Int} (h0 : l ≤ a) (h1 : a ≤ b) (h2 : b ≤ m) : ev_beat_span_isValid n a b l m = some true := by
  rw [ev_beat_span_isValid, cond_if, if_pos (by simpa using h1), bind_of (wi2_beat hn)]
  congr 1
  simp only [Bool.and_eq_true, decide_eq_true_eq]
  omega
theorem isRod_ev {n : Nat} (hn : 2 < n) {r : BR} (h : 1 ≤ r.1 ∧ r.1 ≤ 100000 ∧ 0 ≤ r.2.1 ∧ r.2.1 ≤ r.2.2.1 ∧ r.2.2.1 ≤ 40000) : ev_beat_isRod n r.1 r.2.1 r.2.2.1 r.2.2.2 = some true := by
  rw [ev_beat_isRod, bind_of (wi1_beat (by omega)), cond_if, if_pos (by simp only [Bool.and_eq_true, decide_eq_true_eq]; omega), bind_of (isValid_ev hn (by omega) (by omega) (by omega))]
theorem any_false {α : Type} (l : List α) : (l.any fun _ => false) = false := by induction l <;> simp_all
theorem Check_ev {n : Nat} (hn : 20 < n) {k base a0 a1 d0 d1 : Int} {c : List BR} (h : OkCl k base c a0 a1 d0 d1) : ev_beat_Check n k base c a0 a1 d0 d1 = some 0 := by
  have hf := h.few;have hs := h.some;have l0 := h.len0;have l1 := h.len1;have b0 := h.base0;have b1 := h.base1;have g1 := h.air0;have g2 := h.air;have g3 := h.air1;have g4 := h.dr0;have g5 := h.dr;have g6 := h.dr1;have hd : ev_beat_isDrive n k d0 d1 = some true := by
    rw [ev_beat_isDrive];rcases h.kind with rfl | rfl | rfl
    · rw [cond_if, if_pos (by rfl), bind_of (isValid_ev (by omega) (by omega) (by omega) (by omega))]
    · rw [cond_if, if_neg (by decide), cond_if, if_pos (by rfl), bind_of (isValid_ev (by omega) (by omega) (by omega) (by omega))]
    · have := h.grav rfl;rw [cond_if, if_neg (by decide), cond_if, if_neg (by decide), cond_if, if_pos (by rfl), bind_of (isValid_ev (by omega) (by omega) (by omega) (by omega))]
  rw [ev_beat_Check, cond_if, if_neg (by simp; omega), cond_if, if_neg (by simp; intro e; simp [e] at hs), bind_of (cf_Lapi_BeatRod_api_BeatRod (g := fun _ => false) (fun x hx => by rw [ev_beat_Check_1, bind_of (isRod_ev (by omega) (h.rods x hx))]; rfl) (by omega) (by omega)), any_false, cond_if, if_neg (by simp),
    ev_beat_isLength, bind_of (x := true) (by rw [bind_of (len_ev (by omega) h.rods h.few _ _ _ _ _ _), bind_of (wi1_beat (by omega))]; congr 1; simp only [Bool.and_eq_true, decide_eq_true_eq]; omega), cond_if, if_neg (by simp),
    ev_beat_Check_j0, bind_of (wi1_beat (by omega)), cond_if, if_neg (by simp; omega), bind_of (isValid_ev (by omega) (by omega) (by omega) (by omega)), cond_if, if_neg (by simp), bind_of hd, cond_if, if_neg (by simp)]
structure OkBo (b1 b2 b3 b4 b5 b6 b7 b8 : Int) : Prop where
  heat0 : -100 ≤ b1
  heat : b1 ≤ b2
  heat1 : b2 ≤ 100
  press0 : -100 ≤ b3
  press : b3 ≤ b4
  press1 : b4 ≤ 100
  arc0 : 0 ≤ b5
  arc : b5 ≤ b6
  arc1 : b6 ≤ 100
  force0 : -100 ≤ b7
  force : b7 ≤ b8
  force1 : b8 ≤ 100
theorem isBounds_ev {n : Nat} (hn : 20 < n) {b1 b2 b3 b4 b5 b6 b7 b8 : Int} (h : OkBo b1 b2 b3 b4 b5 b6 b7 b8) : ev_beat_isBounds n b1 b2 b3 b4 b5 b6 b7 b8 = some true := by
  obtain ⟨h1, h2, h3, h4, h5, h6, h7, h8, h9, h10, h11, h12⟩ := h;rw [ev_beat_isBounds, ev_beat_limits, bind_of rfl, bind_of (cf_L_2_api_Span_2_api_Span (g := fun _ => false) (fun x hx => ?_) (by simp) (by simp; omega)), any_false]
  · rfl
  · simp only [List.mem_cons, List.not_mem_nil, or_false] at hx;rcases hx with rfl | rfl | rfl | rfl <;> rw [ev_beat_isBounds_1, bind_of (isValid_ev (by omega) (by simp only; omega) (by simp only; omega) (by simp only; omega))] <;> rfl
def spansB (c : List BR) : List (Int × Int) := c.map fun r => (r.2.1, r.2.2.1)
theorem known_l {n : Nat} {c : List BR} (hl : c.length ≤ 8) (c1 c2 c4 c5 c6 c7 o1 o2 o3 o4 o5 o6 o7 o8 o9 o10 o11 o12 : Int) : ∀ (k m i : Nat) (l : List (Int × Int)), i + k = c.length → k < m → l.length ≤ i → ev_beat_newKnown_l0 n c m (i : Int) c1 c2 c4 c5 c6 c7 l o1 o2 o3 o4 o5 o6 o7 o8 o9 o10 o11 o12 c = some (c1, c2, c, c4, c5, c6, c7, l ++ spansB (c.drop i), o1, o2, o3, o4, o5, o6, o7, o8, o9, o10, o11, o12) := by
  intro k
  induction k with
  | zero =>
    intro m i l hi hm _;obtain ⟨m, rfl⟩ : ∃ m', m = m' + 1 := ⟨m - 1, by omega⟩;rw [ev_beat_newKnown_l0, cond_if, if_neg (by simp; omega), List.drop_eq_nil_of_le (by omega)];simp [spansB]
  | succ k ih =>
    intro m i l hi hm hll;obtain ⟨m, rfl⟩ : ∃ m', m = m' + 1 := ⟨m - 1, by omega⟩;have hx : c[i]? = some c[i] := List.getElem?_eq_getElem (by omega);rw [ev_beat_newKnown_l0, cond_if, if_pos (by simp; omega), idx_nat hx, chk_of (room_iff.2 (by simp; omega)), chk_of (in64_of (by omega))];have := ih m (i + 1) (l ++ [(c[i].2.1, c[i].2.2.1)]) (by omega) (by omega) (by simp; omega);rw [show ((i + 1 : Nat) : Int) = (i : Int) + 1 by omega] at this;rw [this, List.drop_eq_getElem_cons (show i < c.length by omega)];simp only [spansB, List.map_cons, List.append_assoc, List.cons_append, List.nil_append]
theorem known_ev {n : Nat} (hn : 20 < n) {c : List BR} (hl : c.length ≤ 8) (c1 c2 c4 c5 c6 c7 b8 b9 b10 b11 b12 b13 b14 b15 : Int) : ev_beat_newKnown n c1 c2 c c4 c5 c6 c7 b8 b9 b10 b11 b12 b13 b14 b15 = some (c1, c2, c, c4, c5, c6, c7, spansB c, c4, c5, c6, c7, b8, b9, b10, b11, b12, b13, b14, b15) := by
  rw [ev_beat_newKnown];have := known_l (n := n) hl c1 c2 c4 c5 c6 c7 c4 c5 c6 c7 b8 b9 b10 b11 b12 b13 b14 b15 c.length n 0 [] (by omega) (by omega) (by simp)
  simpa using this
def InsR : List BR → List Int → Prop
  | r :: l, g :: gs => (r.2.1 ≤ g ∧ g ≤ r.2.2.1) ∧ InsR l gs
  | [], [] => True
  | _, _ => False
theorem InsR.spans : ∀ {c : List BR} {gs : List Int}, OkRs c → InsR c gs → InsB False (spansB c) gs ∧ InsB True (gs.map fun g => (g, g)) gs := by
  intro c
  induction c with
  | nil => intro gs _ h; cases gs with
    | nil => exact ⟨trivial, trivial⟩
    | cons _ _ => exact h.elim
  | cons r c ih => intro gs hr h; cases gs with
    | nil => exact h.elim
    | cons g gs =>
      obtain ⟨i1, i2⟩ := ih (fun x hx => hr x (by simp [hx])) h.2;have hb := hr r (by simp);have h1 := h.1;exact ⟨⟨⟨h1.1, h1.2, by simp only; omega, by simp only; omega, fun e => e.elim⟩, i1⟩, ⟨SpB.one (by omega) (by omega), i2⟩⟩
theorem InsR.len {c : List BR} {gs : List Int} (hr : OkRs c) (h : InsR c gs) : gs.length = c.length := by
  have := (h.spans hr).1.len
  simpa [spansB] using this.symm
theorem ediv_b {x P : Int} (hP : 0 < P) (h : -10000000000000000 ≤ x ∧ x ≤ 10000000000000000) : -10000000000000000 ≤ x / P ∧ x / P ≤ 10000000000000000 := by
  constructor
  · exact (Int.le_ediv_iff_mul_le hP).2 (by omega)
  · have := (Int.ediv_lt_iff_lt_mul hP (a := x) (b := 10000000000000001)).2 (by omega)
    omega
theorem alt_none {α γ : Type} {x : Option α} {f : α → Option γ} {y : Option γ} (h : x = none) : altW (x.bind f) y = y := by subst h; rfl
theorem Rate_ev {n : Nat} (hn : 20 < n) {k base a0 a1 d0 d1 b1 b2 b3 b4 b5 b6 b7 b8 ta td th tp tc tf : Int} {c : List BR} {gs : List Int} (h : OkCl k base c a0 a1 d0 d1) (hb : OkBo b1 b2 b3 b4 b5 b6 b7 b8) (hg : InsR c gs)
    (ha : a0 ≤ ta ∧ ta ≤ a1) (hd : d0 ≤ td ∧ td ≤ d1) (hh : b1 ≤ th ∧ th ≤ b2) (hp : b3 ≤ tp ∧ tp ≤ b4) (hc : b5 ≤ tc ∧ tc ≤ b6) (hf : b7 ≤ tf ∧ tf ≤ b8) :
    ∃ lo hi, ev_beat_Rate n k base c a0 a1 d0 d1 b1 b2 b3 b4 b5 b6 b7 b8 = some (lo, hi, 0) ∧ lo * (10000 * lenB c) ≤ valB base c gs ta td th tp tc tf ∧ valB base c gs ta td th tp tc tf ≤ hi * (10000 * lenB c) := by
  have hk := known_ev (n := n) hn h.few k base a0 a1 d0 d1 b1 b2 b3 b4 b5 b6 b7 b8;have g1 := h.air0;have g3 := h.air1;have g4 := h.dr0;have g6 := h.dr1;have l0 := h.len0;have l1 := h.len1;obtain ⟨x1, x2, x3, x4, x5, x6, x7, x8, x9, x10, x11, x12⟩ := hb;have hb : OkBo b1 b2 b3 b4 b5 b6 b7 b8 := ⟨x1, x2, x3, x4, x5, x6, x7, x8, x9, x10, x11, x12⟩;obtain ⟨q, hq, hs⟩ := rate_ev (n := n) (by omega) (ex := False) (k1 := k) (k2 := base) (k4 := a0) (k5 := a1) (k6 := d0) (k7 := d1) h.rods h.few (by omega) h.len1 h.base0 h.base1 (hg.spans h.rods).1 (by simp [spansB])
    (k9 := a0) (k10 := a1) (ta := ta) ⟨ha.1, ha.2, by simp only; omega, by simp only; omega, fun e => e.elim⟩ (k11 := d0) (k12 := d1) (td := td) ⟨hd.1, hd.2, by simp only; omega, by simp only; omega, fun e => e.elim⟩
    (k13 := b1) (k14 := b2) (th := th) ⟨hh.1, hh.2, by simp only; omega, by simp only; omega, fun e => e.elim⟩ (k15 := b3) (k16 := b4) (tp := tp) ⟨hp.1, hp.2, by simp only; omega, by simp only; omega, fun e => e.elim⟩
    (k17 := b5) (k18 := b6) (tc := tc) ⟨hc.1, hc.2, by simp only; omega, by simp only; omega, fun e => e.elim⟩ (by omega) (k19 := b7) (k20 := b8) (tf := tf) ⟨hf.1, hf.2, by simp only; omega, by simp only; omega, fun e => e.elim⟩
  have hP : 0 < 10000 * lenB c := by omega
  have q1 := hs.lo;have q2 := hs.hi;have q3 := hs.b0;have q4 := hs.b1;have hV1 : q.1 ≤ 10000000000000000 := by
    have := hs.lo; have := hs.hi; omega
  have hV2 : -10000000000000000 ≤ q.2 := by omega
  have e1 := ediv_b hP (x := q.1) ⟨q3, hV1⟩;have e2 := ediv_b hP (x := 0 - q.2) ⟨by omega, by omega⟩;have hopen : ev_beat_open n k base c a0 a1 d0 d1 b1 b2 b3 b4 b5 b6 b7 b8 = none := by
    rw [ev_beat_open, bind_of (Check_ev hn h), cond_if, if_neg (by simp), bind_of (isBounds_ev hn hb), cond_if, if_neg (by simp), bind_of hk]
  have hopen2 : ev_beat_open_v1 n k base c a0 a1 d0 d1 b1 b2 b3 b4 b5 b6 b7 b8 = some (k, base, c, a0, a1, d0, d1, spansB c, a0, a1, d0, d1, b1, b2, b3, b4, b5, b6, b7, b8, 0) := by
    rw [ev_beat_open_v1, bind_of (Check_ev hn h), cond_if, if_neg (by simp), bind_of (isBounds_ev hn hb), cond_if, if_neg (by simp), bind_of hk]
  have hro : ev_p_beat_known_rounded n k base c a0 a1 d0 d1 (spansB c) a0 a1 d0 d1 b1 b2 b3 b4 b5 b6 b7 b8 q.1 q.2 = some (q.1 / (10000 * lenB c), 0 - (0 - q.2) / (10000 * lenB c)) := by
    rw [ev_p_beat_known_rounded, bind_of (parts_ev (by omega) h.rods h.few _ _ _ _ _ _ _ _ _ _ _ _ _ _ _ _ _ _ _), bind_of (floor_ev hP (by omega)), chk_of (in64_of (by omega)), bind_of (floor_ev hP (by omega)), chk_of (in64_of (by omega))]
  refine ⟨q.1 / (10000 * lenB c), 0 - (0 - q.2) / (10000 * lenB c), ?_, ?_, ?_⟩
  · rw [ev_beat_Rate, alt_none hopen, bind_of hopen2, cond_if, if_neg (by simp), bind_of hq, bind_of hro]
  · exact Int.le_trans (Int.ediv_mul_le _ (by omega)) q1
  · have := Int.ediv_mul_le (0 - q.2) (b := 10000 * lenB c) (by omega);rw [Int.sub_mul, Int.zero_mul]
    omega
theorem has_ev {n : Nat} (hn : 2 < n) {a b t : Int} (h : a ≤ t ∧ t ≤ b) : ev_beat_span_has n a b t = some true := by
  rw [ev_beat_span_has, bind_of (wi1_beat (by omega))]
  congr 1
  simp only [Bool.and_eq_true, decide_eq_true_eq];exact h
theorem cut1 (t : Int) (l : List Int) : List.drop (1 : Int).toNat (List.take (((t :: l).length : Int) : Int).toNat (t :: l)) = l := by
  rw [Int.toNat_natCast, List.take_length]; rfl
theorem row_step {n : Nat} (hn : 2 < n) {l : List Int} {t : Int} {s : Int × Int} {grow : List (Int × Int)} {i : Nat} {b : Bool} (o1 o2 o3 o4 o5 o6 o7 o8 o9 o10 o11 o12 : Int) (hg : grow[i]? = some s) (ht : s.1 ≤ t ∧ t ≤ s.2) (hl : l.length ≤ 100) :
    ev_beat_exactly_r0 n (false, i) (t :: l, o1, o2, o3, o4, o5, o6, o7, o8, o9, o10, o11, o12, grow, b) = some (0, (l, o1, o2, o3, o4, o5, o6, o7, o8, o9, o10, o11, o12, grow.set i (t, t), b)) := by
  rw [ev_beat_exactly_r0, cond_if, if_neg (by simp), idx_nat hg, idx_of (x := t) (by decide) rfl, bind_of (has_ev hn ht), cond_if, if_neg (by simp), ev_beat_one, bind_of rfl, chk_of (by simp; omega)];simp only [cut1]
  rfl
theorem oth_step0 {n : Nat} (hn : 2 < n) {l : List Int} {t : Int} {grow : List (Int × Int)} {b : Bool} (o1 o2 o3 o4 o5 o6 o7 o8 o9 o10 o11 o12 : Int) (ht : o1 ≤ t ∧ t ≤ o2) (hl : l.length ≤ 100) :
    ev_beat_exactly_r0 n (true, 0) (t :: l, o1, o2, o3, o4, o5, o6, o7, o8, o9, o10, o11, o12, grow, b) = some (0, (l, t, t, o3, o4, o5, o6, o7, o8, o9, o10, o11, o12, grow, b)) := by
  rw [ev_beat_exactly_r0, cond_if, if_pos (by rfl), cond_if, if_pos (by rfl), idx_of (x := t) (by decide) rfl, bind_of (has_ev hn ht), cond_if, if_neg (by simp), ev_beat_one, bind_of rfl, chk_of (by simp; omega)];simp only [cut1]
theorem oth_step1 {n : Nat} (hn : 2 < n) {l : List Int} {t : Int} {grow : List (Int × Int)} {b : Bool} (o1 o2 o3 o4 o5 o6 o7 o8 o9 o10 o11 o12 : Int) (ht : o3 ≤ t ∧ t ≤ o4) (hl : l.length ≤ 100) :
    ev_beat_exactly_r0 n (true, 1) (t :: l, o1, o2, o3, o4, o5, o6, o7, o8, o9, o10, o11, o12, grow, b) = some (0, (l, o1, o2, t, t, o5, o6, o7, o8, o9, o10, o11, o12, grow, b)) := by
  rw [ev_beat_exactly_r0, cond_if, if_pos (by rfl), cond_if, if_neg (by simp), cond_if, if_pos (by rfl), idx_of (x := t) (by decide) rfl, bind_of (has_ev hn ht), cond_if, if_neg (by simp), ev_beat_one, bind_of rfl, chk_of (by simp; omega)];simp only [cut1]
theorem oth_step2 {n : Nat} (hn : 2 < n) {l : List Int} {t : Int} {grow : List (Int × Int)} {b : Bool} (o1 o2 o3 o4 o5 o6 o7 o8 o9 o10 o11 o12 : Int) (ht : o5 ≤ t ∧ t ≤ o6) (hl : l.length ≤ 100) :
    ev_beat_exactly_r0 n (true, 2) (t :: l, o1, o2, o3, o4, o5, o6, o7, o8, o9, o10, o11, o12, grow, b) = some (0, (l, o1, o2, o3, o4, t, t, o7, o8, o9, o10, o11, o12, grow, b)) := by
  rw [ev_beat_exactly_r0, cond_if, if_pos (by rfl), cond_if, if_neg (by simp), cond_if, if_neg (by simp), cond_if, if_pos (by rfl), idx_of (x := t) (by decide) rfl, bind_of (has_ev hn ht), cond_if, if_neg (by simp), ev_beat_one, bind_of rfl, chk_of (by simp; omega)];simp only [cut1]
theorem oth_step3 {n : Nat} (hn : 2 < n) {l : List Int} {t : Int} {grow : List (Int × Int)} {b : Bool} (o1 o2 o3 o4 o5 o6 o7 o8 o9 o10 o11 o12 : Int) (ht : o7 ≤ t ∧ t ≤ o8) (hl : l.length ≤ 100) :
    ev_beat_exactly_r0 n (true, 3) (t :: l, o1, o2, o3, o4, o5, o6, o7, o8, o9, o10, o11, o12, grow, b) = some (0, (l, o1, o2, o3, o4, o5, o6, t, t, o9, o10, o11, o12, grow, b)) := by
  rw [ev_beat_exactly_r0, cond_if, if_pos (by rfl), cond_if, if_neg (by simp), cond_if, if_neg (by simp), cond_if, if_neg (by simp), cond_if, if_pos (by rfl), idx_of (x := t) (by decide) rfl, bind_of (has_ev hn ht), cond_if, if_neg (by simp), ev_beat_one, bind_of rfl, chk_of (by simp; omega)];simp only [cut1]
theorem oth_step4 {n : Nat} (hn : 2 < n) {l : List Int} {t : Int} {grow : List (Int × Int)} {b : Bool} (o1 o2 o3 o4 o5 o6 o7 o8 o9 o10 o11 o12 : Int) (ht : o9 ≤ t ∧ t ≤ o10) (hl : l.length ≤ 100) :
    ev_beat_exactly_r0 n (true, 4) (t :: l, o1, o2, o3, o4, o5, o6, o7, o8, o9, o10, o11, o12, grow, b) = some (0, (l, o1, o2, o3, o4, o5, o6, o7, o8, t, t, o11, o12, grow, b)) := by
  rw [ev_beat_exactly_r0, cond_if, if_pos (by rfl), cond_if, if_neg (by simp), cond_if, if_neg (by simp), cond_if, if_neg (by simp), cond_if, if_neg (by simp), cond_if, if_pos (by rfl), idx_of (x := t) (by decide) rfl, bind_of (has_ev hn ht), cond_if, if_neg (by simp), ev_beat_one, bind_of rfl, chk_of (by simp; omega)];simp only [cut1]
theorem oth_step5 {n : Nat} (hn : 2 < n) {l : List Int} {t : Int} {grow : List (Int × Int)} {b : Bool} (o1 o2 o3 o4 o5 o6 o7 o8 o9 o10 o11 o12 : Int) (ht : o11 ≤ t ∧ t ≤ o12) (hl : l.length ≤ 100) :
    ev_beat_exactly_r0 n (true, 5) (t :: l, o1, o2, o3, o4, o5, o6, o7, o8, o9, o10, o11, o12, grow, b) = some (0, (l, o1, o2, o3, o4, o5, o6, o7, o8, o9, o10, t, t, grow, b)) := by
  rw [ev_beat_exactly_r0, cond_if, if_pos (by rfl), cond_if, if_neg (by simp), cond_if, if_neg (by simp), cond_if, if_neg (by simp), cond_if, if_neg (by simp), cond_if, if_neg (by simp), cond_if, if_pos (by rfl), idx_of (x := t) (by decide) rfl, bind_of (has_ev hn ht), cond_if, if_neg (by simp), ev_beat_one, bind_of rfl, chk_of (by simp; omega)];simp only [cut1]
theorem all1 {σ1 : Type} {yb : (Bool × Nat) → σ1 → Option (Bool × σ1)} {qL n m : Nat} {i : Int} {y y' : σ1} (h0 : 0 ≤ i) (h1 : i < 6) (h : yb (true, i.toNat) y = some (true, y')) : ev_p_beat_known_all_l1 yb qL n (m + 1) i y = ev_p_beat_known_all_l1 yb qL n m (i + 1) y' := by
  rw [ev_p_beat_known_all_l1, cond_if, if_pos (by simpa using h1), chk_of (by simp; omega), bind_of h, cond_if, if_neg (by simp), chk_of (in64_of (by omega))]
theorem all_oth {n m : Nat} (hn : 2 < n) {qL : Nat} {grow : List (Int × Int)} {b : Bool} {o1 o2 o3 o4 o5 o6 o7 o8 o9 o10 o11 o12 t9 t10 t11 t12 t13 t14 : Int} (h0 : o1 ≤ t9 ∧ t9 ≤ o2) (h1 : o3 ≤ t10 ∧ t10 ≤ o4) (h2 : o5 ≤ t11 ∧ t11 ≤ o6) (h3 : o7 ≤ t12 ∧ t12 ≤ o8) (h4 : o9 ≤ t13 ∧ t13 ≤ o10) (h5 : o11 ≤ t14 ∧ t14 ≤ o12) :
    ev_p_beat_known_all_l1 (loopStep (ev_beat_exactly_r0 n)) qL n (m + 1 + 1 + 1 + 1 + 1 + 1 + 1) 0 (([t9, t10, t11, t12, t13, t14], o1, o2, o3, o4, o5, o6, o7, o8, o9, o10, o11, o12, grow, b), 0) = some (([], t9, t9, t10, t10, t11, t11, t12, t12, t13, t13, t14, t14, grow, b), 0) := by
  refine (all1 (y' := (([t10, t11, t12, t13, t14], t9, t9, o3, o4, o5, o6, o7, o8, o9, o10, o11, o12, grow, b), 0)) (by decide) (by decide) (loopStep_of (x := (true, 0)) (oth_step0 hn o1 o2 o3 o4 o5 o6 o7 o8 o9 o10 o11 o12 h0 (by simp)))).trans ?_;refine (all1 (y' := (([t11, t12, t13, t14], t9, t9, t10, t10, o5, o6, o7, o8, o9, o10, o11, o12, grow, b), 0)) (by decide) (by decide) (loopStep_of (x := (true, 1)) (oth_step1 hn t9 t9 o3 o4 o5 o6 o7 o8 o9 o10 o11 o12 h1 (by simp)))).trans ?_;refine (all1 (y' := (([t12, t13, t14], t9, t9, t10, t10, t11, t11, o7, o8, o9, o10, o11, o12, grow, b), 0)) (by decide) (by decide) (loopStep_of (x := (true, 2)) (oth_step2 hn t9 t9 t10 t10 o5 o6 o7 o8 o9 o10 o11 o12 h2 (by simp)))).trans ?_;refine (all1 (y' := (([t13, t14], t9, t9, t10, t10, t11, t11, t12, t12, o9, o10, o11, o12, grow, b), 0)) (by decide) (by decide) (loopStep_of (x := (true, 3)) (oth_step3 hn t9 t9 t10 t10 t11 t11 o7 o8 o9 o10 o11 o12 h3 (by simp)))).trans ?_;refine (all1 (y' := (([t14], t9, t9, t10, t10, t11, t11, t12, t12, t13, t13, o11, o12, grow, b), 0)) (by decide) (by decide) (loopStep_of (x := (true, 4)) (oth_step4 hn t9 t9 t10 t10 t11 t11 t12 t12 o9 o10 o11 o12 h4 (by simp)))).trans ?_;refine (all1 (y' := ((([] : List Int), t9, t9, t10, t10, t11, t11, t12, t12, t13, t13, t14, t14, grow, b), 0)) (by decide) (by decide) (loopStep_of (x := (true, 5)) (oth_step5 hn t9 t9 t10 t10 t11 t11 t12 t12 t13 t13 o11 o12 h5 (by simp)))).trans ?_;rw [ev_p_beat_known_all_l1, cond_if, if_neg (by decide)]
theorem all_rows {n : Nat} (hn : 2 < n) {qL : Nat} (hq : qL ≤ 8) {oth : List Int} (ho : oth.length ≤ 50) {b : Bool} (o1 o2 o3 o4 o5 o6 o7 o8 o9 o10 o11 o12 : Int) : ∀ (c : List BR) (gs : List Int) (pre : List (Int × Int)) (m : Nat), InsR c gs → pre.length + c.length = qL → c.length < m →
    ev_p_beat_known_all_l0 (loopStep (ev_beat_exactly_r0 n)) qL n m (pre.length : Int) ((gs ++ oth, o1, o2, o3, o4, o5, o6, o7, o8, o9, o10, o11, o12, pre ++ spansB c, b), 0) = ev_p_beat_known_all_l1 (loopStep (ev_beat_exactly_r0 n)) qL n n 0 ((oth, o1, o2, o3, o4, o5, o6, o7, o8, o9, o10, o11, o12, pre ++ gs.map (fun g => (g, g)), b), 0) := by
  intro c
  induction c with
  | nil =>
    intro gs pre m h hp hm;obtain ⟨m, rfl⟩ : ∃ m', m = m' + 1 := ⟨m - 1, by omega⟩
    cases gs with
    | cons _ _ => exact h.elim
    | nil =>
      simp only [List.length_nil] at hp;rw [ev_p_beat_known_all_l0, cond_if, if_neg (by simp; omega)]
      rfl
  | cons r c ih =>
    intro gs pre m h hp hm;obtain ⟨m, rfl⟩ : ∃ m', m = m' + 1 := ⟨m - 1, by omega⟩
    cases gs with
    | nil => exact h.elim
    | cons g gs =>
      simp only [List.length_cons] at hp hm;have hgl : gs.length ≤ c.length := by
        have : ∀ (c : List BR) (gs : List Int), InsR c gs → gs.length ≤ c.length := by
          intro c
          induction c with
          | nil => intro gs h; cases gs with
            | nil => simp
            | cons _ _ => exact h.elim
          | cons r c ih => intro gs h; cases gs with
            | nil => simp
            | cons g gs => have := ih gs h.2; simp; omega
        exact this c gs h.2
      have hg : (pre ++ spansB (r :: c))[pre.length]? = some (r.2.1, r.2.2.1) := by
        rw [List.getElem?_append_right (Nat.le_refl _), Nat.sub_self]; rfl
      have hset : (pre ++ spansB (r :: c)).set pre.length (g, g) = (pre ++ [(g, g)]) ++ spansB c := by
        rw [List.set_append_right _ _ (Nat.le_refl _), Nat.sub_self, List.append_assoc]; rfl
      have hst := row_step hn (l := gs ++ oth) (t := g) (b := b) o1 o2 o3 o4 o5 o6 o7 o8 o9 o10 o11 o12 hg h.1 (by simp; omega);rw [hset] at hst;rw [ev_p_beat_known_all_l0, cond_if, if_pos (by simp; omega), chk_of (by simp; omega), Int.toNat_natCast, List.cons_append, bind_of (loopStep_of hst), cond_if, if_neg (by simp), chk_of (in64_of (by omega))];have := ih gs (pre ++ [(g, g)]) m h.2 (by simp; omega) (by omega);rw [show ((pre ++ [(g, g)]).length : Int) = (pre.length : Int) + 1 by simp] at this;refine Eq.trans this ?_;simp
theorem concat_ev {n : Nat} (hn : 5 < n) {a b : List Int} (ha : a.length ≤ 100) (hb : b.length ≤ 100) : ev_slices_Concat_Lint_int n [a, b] = some (a ++ b) := by
  obtain ⟨k, rfl⟩ : ∃ k, n = k + 1 + 1 + 1 := ⟨n - 3, by omega⟩;rw [ev_slices_Concat_Lint_int, ev_slices_Concat_Lint_int_l0, cond_if, if_pos (by simp), idx_of (x := a) (by decide) rfl, chk_of (in64_of (by omega)), cond_if, if_neg (by rw [decide_eq_true_eq]; omega), chk_of (by decide),
    ev_slices_Concat_Lint_int_l0, cond_if, if_pos (by simp), idx_of (x := b) (by decide) rfl, chk_of (in64_of (by omega)), cond_if, if_neg (by rw [decide_eq_true_eq]; omega), chk_of (by decide),
    ev_slices_Concat_Lint_int_l0, cond_if, if_neg (by simp), ev_slices_Grow_Lint_int_k, chk_of (by simp; omega), chk_of (room_iff.2 (by omega)), bind_of rfl,
    ev_slices_Concat_Lint_int_l1, cond_if, if_pos (by simp), idx_of (x := a) (by decide) rfl, chk_of (room_iff.2 (by simp; omega)), chk_of (by decide),
    ev_slices_Concat_Lint_int_l1, cond_if, if_pos (by simp), idx_of (x := b) (by decide) rfl, chk_of (room_iff.2 (by simp; omega)), chk_of (by decide),
    ev_slices_Concat_Lint_int_l1, cond_if, if_neg (by simp)]
  rfl
theorem exactly_ev {n : Nat} (hn : 20 < n) {k base a0 a1 d0 d1 t9 t10 t11 t12 t13 t14 : Int} {c : List BR} {gs : List Int} (h : OkCl k base c a0 a1 d0 d1) (hg : InsR c gs)
    (ha : a0 ≤ t9 ∧ t9 ≤ a1) (hd : d0 ≤ t10 ∧ t10 ≤ d1) (hh : -1000 ≤ t11 ∧ t11 ≤ 1000) (hp : -1000 ≤ t12 ∧ t12 ≤ 1000) (hc : 0 ≤ t13 ∧ t13 ≤ 600) (hf : -100 ≤ t14 ∧ t14 ≤ 100) :
    ev_beat_exactly n k base c a0 a1 d0 d1 gs t9 t10 t11 t12 t13 t14 = some (k, base, c, a0, a1, d0, d1, gs.map (fun g => (g, g)), t9, t9, t10, t10, t11, t11, t12, t12, t13, t13, t14, t14, true) := by
  have hl := hg.len h.rods;have hfew := h.few;have hsome := h.some;have hsl : (spansB c).length = c.length := by simp [spansB]
  have hr := all_rows (n := n) (by omega) (qL := (spansB c).length) (by omega) (oth := [t9, t10, t11, t12, t13, t14]) (by simp) (b := false) a0 a1 d0 d1 (-1000) 1000 (-1000) 1000 0 600 (-100) 100 c gs [] n hg (by simp [spansB]) (by omega);obtain ⟨m, hm⟩ : ∃ m, n = m + 1 + 1 + 1 + 1 + 1 + 1 + 1 := ⟨n - 7, by omega⟩;have ho := all_oth (n := n) (m := m) (by omega) (qL := (spansB c).length) (grow := gs.map fun g => (g, g)) (b := false) ha hd hh hp hc hf;rw [← hm] at ho;have hall : ev_p_beat_known_all (loopStep (ev_beat_exactly_r0 n)) (spansB c).length n ((gs ++ [t9, t10, t11, t12, t13, t14], a0, a1, d0, d1, -1000, 1000, -1000, 1000, 0, 600, -100, 100, spansB c, false), 0) = some (([], t9, t9, t10, t10, t11, t11, t12, t12, t13, t13, t14, t14, gs.map (fun g => (g, g)), false), 0) := by
    rw [ev_p_beat_known_all];exact hr.trans ho
  rw [ev_beat_exactly, ev_beat_limits, bind_of rfl, bind_of (known_ev hn h.few _ _ _ _ _ _ _ _ _ _ _ _ _ _), cond_if, if_neg (by simp; omega), bind_of (concat_ev (by omega) (by omega) (by simp)), chk_of (by rw [hsl]; exact (Nat.ble_eq (x := 1)).mpr (by omega)), bind_of hall, cond_if, if_pos (by rfl)]
theorem Exact_ev {n : Nat} (hn : 10000000000 < n) {k base a0 a1 d0 d1 t9 t10 t11 t12 t13 t14 : Int} {c : List BR} {gs : List Int} (h : OkCl k base c a0 a1 d0 d1) (hg : InsR c gs)
    (ha : a0 ≤ t9 ∧ t9 ≤ a1) (hd : d0 ≤ t10 ∧ t10 ≤ d1) (hh : -100 ≤ t11 ∧ t11 ≤ 100) (hp : -100 ≤ t12 ∧ t12 ≤ 100) (hc : 0 ≤ t13 ∧ t13 ≤ 100) (hf : -100 ≤ t14 ∧ t14 ≤ 100) :
    ∃ num den g, ev_beat_Exact n k base c a0 a1 d0 d1 gs t9 t10 t11 t12 t13 t14 = some (num, den, 0) ∧ 0 < g ∧ valB base c gs t9 t10 t11 t12 t13 t14 = num * g ∧ 10000 * lenB c = den * g := by
  have g1 := h.air0;have g3 := h.air1;have g4 := h.dr0;have g6 := h.dr1;have l0 := h.len0;have l1 := h.len1;obtain ⟨q, hq, hs⟩ := rate_ev (n := n) (by omega) (ex := True) (k1 := k) (k2 := base) (k4 := a0) (k5 := a1) (k6 := d0) (k7 := d1) h.rods h.few (by omega) h.len1 h.base0 h.base1 (hg.spans h.rods).2 (by simpa using hg.len h.rods)
    (k9 := t9) (k10 := t9) (ta := t9) (SpB.one (by omega) (by omega)) (k11 := t10) (k12 := t10) (SpB.one (by omega) (by omega)) (k13 := t11) (k14 := t11) (SpB.one (by omega) (by omega)) (k15 := t12) (k16 := t12) (SpB.one (by omega) (by omega))
    (k17 := t13) (k18 := t13) (SpB.one (by omega) (by omega)) (by omega) (k19 := t14) (k20 := t14) (SpB.one (by omega) (by omega))
  have hP : 0 < 10000 * lenB c := by omega
  have q1 := hs.lo;have q2 := hs.hi;have q3 := hs.b0;have q4 := hs.b1;obtain ⟨e1, e2⟩ := hs.eq trivial;obtain ⟨V, hV⟩ : ∃ V, V = valB base c gs t9 t10 t11 t12 t13 t14 := ⟨_, rfl⟩;rw [← hV] at e1 e2 q1 q2 ⊢;obtain ⟨P, hPe⟩ : ∃ P, P = 10000 * lenB c := ⟨_, rfl⟩;have hpart := parts_ev (n := n) (by omega) h.rods h.few k base a0 a1 d0 d1 (gs.map fun g => (g, g)) t9 t9 t10 t10 t11 t11 t12 t12 t13 t13 t14 t14;rw [← hPe] at hP hpart ⊢;obtain ⟨g, hgcd, g0, gd1, gd2⟩ := gcd_l (n := n) n (max V (0 - V)) P (by omega) (by omega) (by omega) (.inr hP);have gdV : g ∣ V := by
    rcases Int.le_total 0 V with h | h
    · rwa [show max V (0 - V) = V by omega] at gd1
    · rw [show max V (0 - V) = -V by omega] at gd1;exact (Int.dvd_neg).1 gd1
  obtain ⟨u, hu⟩ := gdV;obtain ⟨w, hw⟩ := gd2;have t1 : Int.tdiv V g = u := by rw [hu]; exact Int.mul_tdiv_cancel_left u (by omega)
  have t2 : Int.tdiv P g = w := by rw [hw]; exact Int.mul_tdiv_cancel_left w (by omega)
  have hub : -10000000000000000 ≤ u ∧ u ≤ 10000000000000000 := by
    have := ediv_b g0 (x := V) ⟨by omega, by omega⟩
    rwa [hu, Int.mul_ediv_cancel_left _ (show g ≠ 0 by omega)] at this
  have hwb : -10000000000000000 ≤ w ∧ w ≤ 10000000000000000 := by
    have := ediv_b g0 (x := P) ⟨by omega, by omega⟩
    rwa [hw, Int.mul_ediv_cancel_left _ (show g ≠ 0 by omega)] at this
  refine ⟨u, w, g, ?_, g0, by rw [Int.mul_comm]; exact hu, by rw [Int.mul_comm]; exact hw⟩;rw [ev_beat_Exact, bind_of (Check_ev (by omega) h), cond_if, if_neg (by simp), bind_of (exactly_ev (by omega) h hg ha hd (by omega) (by omega) (by omega) hf), cond_if, if_neg (by simp), bind_of hq, bind_of hpart];simp only [e1];rw [chk_of (in64_of (by omega)), ev_beat_gcd, bind_of hgcd, chk_of (by simp; omega), t1, chk_of (in64_of (by omega)), chk_of (by simp; omega), t2, chk_of (in64_of (by omega))]
end Go.Proofs.Ytniblgokhibmfaa.Sy
