/- The rate of a clock: what spans of rates come to, about any truth within. -/
import Derived.Test.YthgbjhglhejalaaBRGBeat
import Derived.Test.YthgbjhglhejalaaBRSpBeatA
import Derived.Test.YthgbjhglhejalaaBRSpLib
import Derived.Test.YthgbjhglhejalaaBREvL
set_option linter.unusedSimpArgs false
set_option linter.unusedVariables false
namespace Go.Proofs.Ythgbjhglhejalaa.Sy
open Go.RowKit
set_option maxRecDepth 100000
abbrev BR := Int × Int × Int × Bool
def sgnB (r : BR) : Int := cond r.2.2.2 (-1) 1
def lenB : List BR → Int
  | [] => 0
  | r :: l => sgnB r * r.1 + lenB l
def sumB : List BR → List Int → Int
  | r :: l, g :: gs => g * (sgnB r * r.1) + sumB l gs
  | _, _ => 0
structure SpB (ex : Prop) (B : Int) (r : Int × Int) (v : Int) : Prop where
  lo : r.1 ≤ v
  hi : v ≤ r.2
  b0 : -B ≤ r.1
  b1 : r.2 ≤ B
  eq : ex → r.1 = v ∧ r.2 = v
theorem SpB.one {ex : Prop} {B v : Int} (h0 : -B ≤ v) (h1 : v ≤ B) : SpB ex B (v, v) v := ⟨Int.le_refl _, Int.le_refl _, h0, h1, fun _ => ⟨rfl, rfl⟩⟩
theorem mulB {x y A B : Int} (h1 : -A ≤ x) (h2 : x ≤ A) (h3 : -B ≤ y) (h4 : y ≤ B) : -(A * B) ≤ x * y ∧ x * y ≤ A * B := by
  have a : 0 ≤ (A - x) * (B + y) := Int.mul_nonneg (by omega) (by omega);have b : 0 ≤ (A + x) * (B - y) := Int.mul_nonneg (by omega) (by omega);have c : 0 ≤ (A - x) * (B - y) := Int.mul_nonneg (by omega) (by omega);have d : 0 ≤ (A + x) * (B + y) := Int.mul_nonneg (by omega) (by omega);simp only [Int.sub_mul, Int.add_mul, Int.mul_sub, Int.mul_add] at a b c d
  omega
theorem betw {a b v w : Int} (h1 : a ≤ v) (h2 : v ≤ b) : (a * w ≤ v * w ∧ v * w ≤ b * w) ∨ (b * w ≤ v * w ∧ v * w ≤ a * w) := by
  rcases Int.le_total 0 w with h | h
  · exact .inl ⟨Int.mul_le_mul_of_nonneg_right h1 h, Int.mul_le_mul_of_nonneg_right h2 h⟩
  · exact .inr ⟨Int.mul_le_mul_of_nonpos_right h2 h, Int.mul_le_mul_of_nonpos_right h1 h⟩
theorem min4 {n : Nat} (hn : 5 < n) (a b c d : Int) : ev_slices_Min_Lint_int n [a, b, c, d] = some (min (min (min a b) c) d) := by
  obtain ⟨k, rfl⟩ : ∃ k, n = k + 5 := ⟨n - 5, by omega⟩
  rfl
theorem max4 {n : Nat} (hn : 5 < n) (a b c d : Int) : ev_slices_Max_Lint_int n [a, b, c, d] = some (max (max (max a b) c) d) := by
  obtain ⟨k, rfl⟩ : ∃ k, n = k + 5 := ⟨n - 5, by omega⟩
  rfl
theorem by_ev {n : Nat} (hn : 5 < n) {ex : Prop} {A B C : Int} {r s : Int × Int} {v w : Int} (h : SpB ex A r v) (h' : SpB ex B s w) (hC : A * B ≤ C) (hC2 : C ≤ 4611686018427387904) : ∃ q, ev_beat_span_by n r.1 r.2 s.1 s.2 = some q ∧ SpB ex C q (v * w) := by
  obtain ⟨l1, l2, l3, l4, l5⟩ := h;obtain ⟨m1, m2, m3, m4, m5⟩ := h';have a := mulB (x := r.1) (y := s.1) (A := A) (B := B) (by omega) (by omega) (by omega) (by omega);have b := mulB (x := r.1) (y := s.2) (A := A) (B := B) (by omega) (by omega) (by omega) (by omega);have c := mulB (x := r.2) (y := s.1) (A := A) (B := B) (by omega) (by omega) (by omega) (by omega);have d := mulB (x := r.2) (y := s.2) (A := A) (B := B) (by omega) (by omega) (by omega) (by omega);have e := betw (w := w) l1 l2;have f := betw (a := s.1) (b := s.2) (v := w) (w := r.1) m1 m2;have g := betw (a := s.1) (b := s.2) (v := w) (w := r.2) m1 m2;rw [Int.mul_comm s.1, Int.mul_comm s.2, Int.mul_comm w] at f g;rw [ev_beat_span_by, chk_of (in64_of (by omega)), chk_of (in64_of (by omega)), chk_of (in64_of (by omega)), chk_of (in64_of (by omega)), bind_of (min4 hn _ _ _ _), bind_of (max4 hn _ _ _ _)];refine ⟨_, rfl, ?_, ?_, ?_, ?_, fun hx => ?_⟩
  · simp only; omega
  · simp only; omega
  · simp only; omega
  · simp only; omega
  · obtain ⟨e1, e2⟩ := l5 hx;obtain ⟨e3, e4⟩ := m5 hx;simp only [e1, e2, e3, e4]
    omega
theorem plus_ev {n : Nat} {ex : Prop} {A B C : Int} {r s : Int × Int} {v w : Int} (h : SpB ex A r v) (h' : SpB ex B s w) (hC : A + B ≤ C) (hC2 : C ≤ 4611686018427387904) : ∃ q, ev_beat_span_plus n r.1 r.2 s.1 s.2 = some q ∧ SpB ex C q (v + w) := by
  obtain ⟨l1, l2, l3, l4, l5⟩ := h;obtain ⟨m1, m2, m3, m4, m5⟩ := h';rw [ev_beat_span_plus, chk_of (in64_of (by omega)), chk_of (in64_of (by omega))];refine ⟨_, rfl, ?_, ?_, ?_, ?_, fun hx => ?_⟩
  · simp only; omega
  · simp only; omega
  · simp only; omega
  · simp only; omega
  · obtain ⟨e1, e2⟩ := l5 hx;obtain ⟨e3, e4⟩ := m5 hx;simp only [e1, e2, e3, e4];exact ⟨trivial, trivial⟩
theorem less_ev {n : Nat} (hn : 5 < n) {ex : Prop} {A B C : Int} {r s : Int × Int} {v w : Int} (h : SpB ex A r v) (h' : SpB ex B s w) (hC : A + B ≤ C) (h0 : 0 ≤ A) (hC2 : C ≤ 4611686018427387904) : ∃ q, ev_beat_span_less n r.1 r.2 s.1 s.2 = some q ∧ SpB ex C q (v + w * (-1)) := by
  obtain ⟨q, hq, h1⟩ := by_ev hn (s := (-1, -1)) h' (SpB.one (ex := ex) (B := 1) (v := -1) (by decide) (by decide)) (C := B) (by omega) (by omega);obtain ⟨p, hp, h2⟩ := plus_ev (n := n) h h1 hC hC2;rw [ev_beat_span_less, ev_beat_one, bind_of rfl, bind_of hq, bind_of hp];exact ⟨_, rfl, h2⟩
theorem square_ev {n : Nat} {ex : Prop} {A C : Int} {r : Int × Int} {v : Int} (h : SpB ex A r v) (h0 : 0 ≤ r.1) (hC : A * A ≤ C) (hC2 : C ≤ 4611686018427387904) : ∃ q, ev_beat_span_square n r.1 r.2 = some q ∧ SpB ex C q (v * v) := by
  obtain ⟨l1, l2, l3, l4, l5⟩ := h;have a := Int.mul_le_mul l1 l1 h0 (Int.le_trans h0 l1);have b := Int.mul_le_mul l2 l2 (Int.le_trans h0 l1) (by omega : 0 ≤ r.2);have c := Int.mul_le_mul l4 l4 (by omega : 0 ≤ r.2) (by omega : 0 ≤ A);have d := Int.mul_nonneg h0 h0;rw [ev_beat_span_square, chk_of (in64_of (by omega)), chk_of (in64_of (by omega))];refine ⟨_, rfl, ?_, ?_, ?_, ?_, fun hx => ?_⟩
  · simp only; omega
  · simp only; omega
  · simp only; omega
  · simp only; omega
  · obtain ⟨e1, e2⟩ := l5 hx;simp only [e1, e2];exact ⟨trivial, trivial⟩
def OkRs (l : List BR) : Prop := ∀ r ∈ l, 1 ≤ r.1 ∧ r.1 ≤ 100000 ∧ 0 ≤ r.2.1 ∧ r.2.1 ≤ r.2.2.1 ∧ r.2.2.1 ≤ 40000
theorem sgn_ev {n : Nat} (r : BR) : ev_beat_sign n r.1 r.2.1 r.2.2.1 r.2.2.2 = some (sgnB r) := by
  rw [ev_beat_sign]; unfold sgnB; cases r.2.2.2 <;> rfl
theorem sgn_b {r : BR} (h : 1 ≤ r.1 ∧ r.1 ≤ 100000) : -100000 ≤ sgnB r * r.1 ∧ sgnB r * r.1 ≤ 100000 := by
  unfold sgnB; cases r.2.2.2 <;> simp only [cond_true, cond_false] <;> omega
theorem len_l {n : Nat} {c : List BR} (h : OkRs c) (hl : c.length ≤ 8) : ∀ (k m i : Nat) (acc : Int), i + k = c.length → k < m → -(100000 * (i : Int)) ≤ acc → acc ≤ 100000 * (i : Int) → ev_beat_length_l0 n c m acc (i : Int) c = some (acc + lenB (c.drop i)) := by
  intro k
  induction k with
  | zero =>
    intro m i acc hi hm _ _;obtain ⟨m, rfl⟩ : ∃ m', m = m' + 1 := ⟨m - 1, by omega⟩;rw [ev_beat_length_l0, cond_if, if_neg (by simp; omega), List.drop_eq_nil_of_le (by omega)];simp [lenB]
  | succ k ih =>
    intro m i acc hi hm h0 h1;obtain ⟨m, rfl⟩ : ∃ m', m = m' + 1 := ⟨m - 1, by omega⟩;have hx : c[i]? = some c[i] := List.getElem?_eq_getElem (by omega);have hb := h _ (List.getElem_mem (show i < c.length by omega));have hs := sgn_b ⟨hb.1, hb.2.1⟩;rw [ev_beat_length_l0, cond_if, if_pos (by simp; omega), idx_nat hx, bind_of (sgn_ev _), chk_of (in64_of (by omega)), chk_of (in64_of (by omega)), chk_of (in64_of (by omega))];have := ih m (i + 1) (acc + sgnB c[i] * c[i].1) (by omega) (by omega) (by omega) (by omega);rw [show ((i + 1 : Nat) : Int) = (i : Int) + 1 by omega] at this;rw [this, List.drop_eq_getElem_cons (show i < c.length by omega)];simp only [lenB]
    congr 1
    omega
theorem lenB_b : ∀ {c : List BR}, OkRs c → -(100000 * (c.length : Int)) ≤ lenB c ∧ lenB c ≤ 100000 * (c.length : Int) := by
  intro c
  induction c with
  | nil => intro _; simp [lenB]
  | cons r l ih =>
    intro h;have hb := h r (by simp);have hs := sgn_b ⟨hb.1, hb.2.1⟩;have := ih (fun x hx => h x (by simp [hx]));simp only [lenB, List.length_cons]
    omega
theorem len_ev {n : Nat} (hn : 10 < n) {c : List BR} (h : OkRs c) (hl : c.length ≤ 8) (a b d e f g : Int) : ev_beat_length n a b c d e f g = some (lenB c) := by
  rw [ev_beat_length];have := len_l (n := n) h hl c.length n 0 0 (by omega) (by omega) (by omega) (by omega)
  simpa using this
def InsB (ex : Prop) : List (Int × Int) → List Int → Prop
  | s :: l, g :: gs => SpB ex 40000 s g ∧ InsB ex l gs
  | [], [] => True
  | _, _ => False
theorem InsB.len {ex : Prop} : ∀ {l : List (Int × Int)} {gs : List Int}, InsB ex l gs → l.length = gs.length := by
  intro l
  induction l with
  | nil => intro gs h; cases gs with
    | nil => rfl
    | cons _ _ => exact h.elim
  | cons s l ih => intro gs h; cases gs with
    | nil => exact h.elim
    | cons g gs => simp [ih h.2]
theorem InsB.drop {ex : Prop} : ∀ (i : Nat) {l : List (Int × Int)} {gs : List Int}, InsB ex l gs → InsB ex (l.drop i) (gs.drop i) := by
  intro i
  induction i with
  | zero => intro l gs h; exact h
  | succ i ih => intro l gs h; cases l with
    | nil => cases gs with
      | nil => trivial
      | cons _ _ => exact h.elim
    | cons s l => cases gs with
      | nil => exact h.elim
      | cons g gs => exact ih h.2
theorem sum_l {n : Nat} (hn : 5 < n) {ex : Prop} {c : List BR} {ks : List (Int × Int)} {gs : List Int} (h : OkRs c) (hl : c.length ≤ 8) (hk : InsB ex ks gs) (hkl : ks.length = c.length) (a1 a2 a3 a4 a5 a6 a7 a8 a9 a10 a11 a12 a13 a14 a15 a16 a17 a18 : Int) : ∀ (k m i : Nat) (q : Int × Int) (v : Int), i + k = c.length → k < m → SpB ex (4000000000 * (i : Int)) q v →
    ∃ r, ev_p_beat_known_sum_l0 n c m (i : Int) a1 a2 a3 a4 a5 a6 a7 a8 a9 a10 a11 a12 a13 a14 a15 a16 a17 a18 q.1 q.2 c ks = some r ∧ SpB ex 32000000000 r (v + sumB (c.drop i) (gs.drop i)) := by
  intro k
  induction k with
  | zero =>
    intro m i q v hi hm hq;obtain ⟨m, rfl⟩ : ∃ m', m = m' + 1 := ⟨m - 1, by omega⟩;rw [ev_p_beat_known_sum_l0, cond_if, if_neg (by simp; omega), List.drop_eq_nil_of_le (by omega)];refine ⟨_, rfl, ?_⟩;simp only [sumB, Int.add_zero];exact ⟨hq.lo, hq.hi, by have := hq.b0; omega, by have := hq.b1; omega, hq.eq⟩
  | succ k ih =>
    intro m i q v hi hm hq;obtain ⟨m, rfl⟩ : ∃ m', m = m' + 1 := ⟨m - 1, by omega⟩;have hgl := hk.len;have hx : c[i]? = some c[i] := List.getElem?_eq_getElem (by omega);have hy : ks[i]? = some ks[i] := List.getElem?_eq_getElem (by omega);have hb := h _ (List.getElem_mem (show i < c.length by omega));have hs := sgn_b ⟨hb.1, hb.2.1⟩;have hd := hk.drop i;rw [List.drop_eq_getElem_cons (show i < ks.length by omega), List.drop_eq_getElem_cons (show i < gs.length by omega)] at hd;rw [ev_p_beat_known_sum_l0, cond_if, if_pos (by simp; omega), idx_nat hx, idx_nat hy, bind_of (sgn_ev _), chk_of (in64_of (by omega)), ev_beat_one, bind_of rfl];obtain ⟨p, hp, hp2⟩ := by_ev hn (s := (sgnB c[i] * c[i].1, sgnB c[i] * c[i].1)) hd.1 (SpB.one (ex := ex) (B := 100000) hs.1 hs.2) (C := 4000000000) (by decide) (by decide);obtain ⟨u, hu, hu2⟩ := plus_ev (n := n) hq hp2 (C := 4000000000 * ((i + 1 : Nat) : Int)) (by omega) (by omega);rw [bind_of hp, bind_of hu, chk_of (in64_of (by omega))];obtain ⟨r, hr, hr2⟩ := ih m (i + 1) u _ (by omega) (by omega) hu2;rw [show ((i + 1 : Nat) : Int) = (i : Int) + 1 by omega] at hr;refine ⟨r, hr, ?_⟩;rw [List.drop_eq_getElem_cons (show i < c.length by omega), List.drop_eq_getElem_cons (show i < gs.length by omega)];simp only [sumB];rw [← Int.add_assoc];exact hr2
theorem parts_ev {n : Nat} (hn : 10 < n) {c : List BR} (h : OkRs c) (hl : c.length ≤ 8) (k1 k2 k4 k5 k6 k7 : Int) (k8 : List (Int × Int)) (k9 k10 k11 k12 k13 k14 k15 k16 k17 k18 k19 k20 : Int) :
    ev_p_beat_known_parts n k1 k2 c k4 k5 k6 k7 k8 k9 k10 k11 k12 k13 k14 k15 k16 k17 k18 k19 k20 = some (10000 * lenB c, 10000 * lenB c) := by
  have := lenB_b h;rw [ev_p_beat_known_parts, bind_of (len_ev hn h hl _ _ _ _ _ _), chk_of (in64_of (by omega)), ev_beat_one, bind_of rfl]
theorem tmod_split {a b : Int} (hb : 0 < b) : Int.tmod a b + b * Int.tdiv a b = a ∧ -b < Int.tmod a b ∧ Int.tmod a b < b := by
  refine ⟨Int.tmod_add_mul_tdiv a b, ?_, Int.tmod_lt_of_pos a hb⟩;rcases Int.le_total 0 a with h | h
  · have := Int.tmod_nonneg b h; omega
  · have h1 := Int.tmod_lt_of_pos (-a) hb;rw [Int.neg_tmod] at h1
    omega
theorem floor_ev {n : Nat} {a b : Int} (hb : 0 < b) (hA : -4611686018427387904 ≤ a ∧ a ≤ 4611686018427387904) : ev_beat_floor n a b = some (a / b) := by
  obtain ⟨h1, h2, h3⟩ := tmod_split (a := a) hb;have hd : -4611686018427387904 ≤ Int.tdiv a b ∧ Int.tdiv a b ≤ 4611686018427387904 := by
    rcases Int.le_total 0 a with h | h
    · rw [Int.tdiv_eq_ediv_of_nonneg h];exact ⟨by have := Int.ediv_nonneg h (Int.le_of_lt hb); omega, by have := Int.ediv_le_self b h; omega⟩
    · have h5 : Int.tdiv (-a) b = (-a) / b := Int.tdiv_eq_ediv_of_nonneg (by omega);rw [Int.neg_tdiv] at h5;have := Int.ediv_nonneg (show 0 ≤ -a by omega) (Int.le_of_lt hb);have := Int.ediv_le_self b (show 0 ≤ -a by omega)
      omega
  rw [ev_beat_floor, chk_of (by simp; omega), chk_of (in64_of (by omega)), chk_of (by simp; omega), cond_if]
  by_cases hneg : Int.tmod a b < 0
  · rw [if_pos (by simpa using hneg), chk_of (in64_of (by omega))]
    congr 1
    refine ((Int.ediv_emod_unique hb (r := Int.tmod a b + b) (q := Int.tdiv a b - 1)).2 ⟨?_, by omega, by omega⟩).1.symm;rw [Int.mul_sub]; omega
  · rw [if_neg (by simpa using hneg)]
    congr 1
    exact ((Int.ediv_emod_unique hb (r := Int.tmod a b) (q := Int.tdiv a b)).2 ⟨h1, by omega, by omega⟩).1.symm
end Go.Proofs.Ythgbjhglhejalaa.Sy
