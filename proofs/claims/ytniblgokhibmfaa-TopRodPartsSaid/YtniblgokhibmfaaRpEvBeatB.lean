/- The rate of a clock in bounds, and in a truth within them. -/
import Derived.Test.YtniblgokhibmfaaRpEvBeatA
set_option linter.unusedSimpArgs false
set_option linter.unusedVariables false
namespace Go.Proofs.Ytniblgokhibmfaa.Sy
open Go.RowKit
set_option maxRecDepth 100000
structure OkCl (k base : Int) (c : List BR) (a0 a1 d0 d1 : Int) : Prop where
  kind : k = 1 ∨ k = 2 ∨ k = 3
  base0 : -1000 ≤ base
  base1 : base ≤ 1000
  rods : OkRs c
  few : c.length ≤ 8
  some : 1 ≤ c.length
  len0 : 100 ≤ lenB c
  len1 : lenB c ≤ 100000
  air0 : -100 ≤ a0
  air : a0 ≤ a1
  air1 : a1 ≤ 100
  dr0 : 0 ≤ d0
  dr : d0 ≤ d1
  dr1 : d1 ≤ 100
  grav : k = 3 → d1 = 0
theorem isValid_ev {n : Nat} (hn : 2 < n) {a b l m : Int} (h0 : l ≤ a) (h1 : a ≤ b) (h2 : b ≤ m) : ev_beat_span_isValid n a b l m = some true := by
  rw [ev_beat_span_isValid, cond_if, if_pos (by simpa using h1), bind_of (wi2_beat hn)]
  congr 1
  simp only [Bool.and_eq_true, decide_eq_true_eq]
  omega
theorem isRod_ev {n : Nat} (hn : 2 < n) {r : BR} (h : 1 ≤ r.1 ∧ r.1 ≤ 100000 ∧ 0 ≤ r.2.1 ∧ r.2.1 ≤ r.2.2.1 ∧ r.2.2.1 ≤ 40000) : ev_beat_isRod n r.1 r.2.1 r.2.2.1 r.2.2.2 = some true := by
  rw [ev_beat_isRod, bind_of (wi1_beat (by omega)), cond_if, if_pos (by simp only [Bool.and_eq_true, decide_eq_true_eq]; omega), bind_of (isValid_ev hn (by omega) (by omega) (by omega))]
theorem any_false {α : Type} (l : List α) : (l.any fun _ => false) = false := by induction l <;> simp_all
structure OkBo (b1 b2 b3 b4 b5 b6 b7 b8 : Int) : Prop where
  heat0 : -100 ≤ b1
  heat : b1 ≤ b2
  heat1 : b2 ≤ 100
  press0 : -100 ≤ b3
  press : b3 ≤ b4
  press1 : b4 ≤ 100
  arc0 : 0 ≤ b5
  arc : b5 ≤ b6
  arc1 : b6 ≤ 100
  force0 : -100 ≤ b7
  force : b7 ≤ b8
  force1 : b8 ≤ 100
theorem isBounds_ev {n : Nat} (hn : 20 < n) {b1 b2 b3 b4 b5 b6 b7 b8 : Int} (h : OkBo b1 b2 b3 b4 b5 b6 b7 b8) : ev_beat_isBounds n b1 b2 b3 b4 b5 b6 b7 b8 = some true := by
  obtain ⟨h1, h2, h3, h4, h5, h6, h7, h8, h9, h10, h11, h12⟩ := h;rw [ev_beat_isBounds, ev_beat_limits, bind_of rfl, bind_of (cf_L_2_api_Span_2_api_Span (g := fun _ => false) (fun x hx => ?_) (by simp) (by simp; omega)), any_false]
  · rfl
  · simp only [List.mem_cons, List.not_mem_nil, or_false] at hx;rcases hx with rfl | rfl | rfl | rfl <;> rw [ev_beat_isBounds_1, bind_of (isValid_ev (by omega) (by simp only; omega) (by simp only; omega) (by simp only; omega))] <;> rfl
def spansB (c : List BR) : List (Int × Int) := c.map fun r => (r.2.1, r.2.2.1)
theorem known_l {n : Nat} {c : List BR} (hl : c.length ≤ 8) (c1 c2 c4 c5 c6 c7 o1 o2 o3 o4 o5 o6 o7 o8 o9 o10 o11 o12 : Int) : ∀ (k m i : Nat) (l : List (Int × Int)), i + k = c.length → k < m → l.length ≤ i → ev_beat_newKnown_l0 n c m (i : Int) c1 c2 c4 c5 c6 c7 l o1 o2 o3 o4 o5 o6 o7 o8 o9 o10 o11 o12 c = some (c1, c2, c, c4, c5, c6, c7, l ++ spansB (c.drop i), o1, o2, o3, o4, o5, o6, o7, o8, o9, o10, o11, o12) := by
  intro k
  induction k with
  | zero =>
    intro m i l hi hm _;obtain ⟨m, rfl⟩ : ∃ m', m = m' + 1 := ⟨m - 1, by omega⟩;rw [ev_beat_newKnown_l0, cond_if, if_neg (by simp; omega), List.drop_eq_nil_of_le (by omega)];simp [spansB]
  | succ k ih =>
    intro m i l hi hm hll;obtain ⟨m, rfl⟩ : ∃ m', m = m' + 1 := ⟨m - 1, by omega⟩;have hx : c[i]? = some c[i] := List.getElem?_eq_getElem (by omega);rw [ev_beat_newKnown_l0, cond_if, if_pos (by simp; omega), idx_nat hx, chk_of (room_iff.2 (by simp; omega)), chk_of (in64_of (by omega))];have := ih m (i + 1) (l ++ [(c[i].2.1, c[i].2.2.1)]) (by omega) (by omega) (by simp; omega);rw [show ((i + 1 : Nat) : Int) = (i : Int) + 1 by omega] at this;rw [this, List.drop_eq_getElem_cons (show i < c.length by omega)];simp only [spansB, List.map_cons, List.append_assoc, List.cons_append, List.nil_append]
theorem known_ev {n : Nat} (hn : 20 < n) {c : List BR} (hl : c.length ≤ 8) (c1 c2 c4 c5 c6 c7 b8 b9 b10 b11 b12 b13 b14 b15 : Int) : ev_beat_newKnown n c1 c2 c c4 c5 c6 c7 b8 b9 b10 b11 b12 b13 b14 b15 = some (c1, c2, c, c4, c5, c6, c7, spansB c, c4, c5, c6, c7, b8, b9, b10, b11, b12, b13, b14, b15) := by
  rw [ev_beat_newKnown];have := known_l (n := n) hl c1 c2 c4 c5 c6 c7 c4 c5 c6 c7 b8 b9 b10 b11 b12 b13 b14 b15 c.length n 0 [] (by omega) (by omega) (by simp)
  simpa using this
def InsR : List BR → List Int → Prop
  | r :: l, g :: gs => (r.2.1 ≤ g ∧ g ≤ r.2.2.1) ∧ InsR l gs
  | [], [] => True
  | _, _ => False
theorem InsR.spans : ∀ {c : List BR} {gs : List Int}, OkRs c → InsR c gs → InsB False (spansB c) gs ∧ InsB True (gs.map fun g => (g, g)) gs := by
  intro c
  induction c with
  | nil => intro gs _ h; cases gs with
    | nil => exact ⟨trivial, trivial⟩
    | cons _ _ => exact h.elim
  | cons r c ih => intro gs hr h; cases gs with
    | nil => exact h.elim
    | cons g gs =>
      obtain ⟨i1, i2⟩ := ih (fun x hx => hr x (by simp [hx])) h.2;have hb := hr r (by simp);have h1 := h.1;exact ⟨⟨⟨h1.1, h1.2, by simp only; omega, by simp only; omega, fun e => e.elim⟩, i1⟩, ⟨SpB.one (by omega) (by omega), i2⟩⟩
theorem InsR.len {c : List BR} {gs : List Int} (hr : OkRs c) (h : InsR c gs) : gs.length = c.length := by
  have := (h.spans hr).1.len
  simpa [spansB] using this.symm
theorem alt_none {α γ : Type} {x : Option α} {f : α → Option γ} {y : Option γ} (h : x = none) : altW (x.bind f) y = y := by subst h; rfl
end Go.Proofs.Ytniblgokhibmfaa.Sy
