/- What a clock of the books shows: the replay of its entries, in plain terms. -/
import Derived.Test.YthgbjhglhejalaaRBGBook
import Derived.Test.YthgbjhglhejalaaRBSpBook
import Derived.Test.YthgbjhglhejalaaRBEvL
set_option linter.unusedSimpArgs false
set_option linter.unusedVariables false
namespace Go.Proofs.Ythgbjhglhejalaa.Sy
open Go.RowKit
set_option maxRecDepth 100000
abbrev CK := Int × Int × Int × Bool
abbrev BE := Int × Int × Int
def toP (c : CK) (t : Int) : CK := if c.2.2.2 = true then (c.1, c.2.1, t, true) else ((c.1 + (t - c.2.2.1) * (86400000 + c.2.1)) % 3732480000000, c.2.1, t, false)
def doP (c : CK) (x : BE) : CK :=
  if x.2.1 = 1 then (x.2.2 * 86400000, (toP c x.1).2.1, (toP c x.1).2.2.1, (toP c x.1).2.2.2)
  else if x.2.1 = 2 then ((toP c x.1).1, x.2.2, (toP c x.1).2.2.1, (toP c x.1).2.2.2)
  else ((toP c x.1).1, (toP c x.1).2.1, (toP c x.1).2.2.1, decide (x.2.1 = 3))
def okE (x : BE) : Prop := (0 ≤ x.1 ∧ x.1 ≤ 3155760000) ∧ ((x.2.1 = 1 ∧ 0 ≤ x.2.2 ∧ x.2.2 ≤ 43199) ∨ (x.2.1 = 2 ∧ -32768 ≤ x.2.2 ∧ x.2.2 ≤ 32767) ∨ (x.2.1 = 3 ∧ x.2.2 = 0) ∨ (x.2.1 = 4 ∧ x.2.2 = 0))
structure CKok (c : CK) : Prop where
  s0 : 0 ≤ c.1
  s1 : c.1 < 3732480000000
  r0 : -32768 ≤ c.2.1
  r1 : c.2.1 ≤ 32767
  n0 : 0 ≤ c.2.2.1
  n1 : c.2.2.1 ≤ 3155760000
theorem toP_now (c : CK) (t : Int) : (toP c t).2.2.1 = t := by unfold toP; split <;> rfl
theorem toP_rate (c : CK) (t : Int) : (toP c t).2.1 = c.2.1 := by unfold toP; split <;> rfl
theorem toP_stands (c : CK) (t : Int) : (toP c t).2.2.2 = c.2.2.2 := by
  unfold toP; split
  · rename_i h; exact h.symm
  · rename_i h; simpa using h
theorem toP_ok {c : CK} (h : CKok c) {t : Int} (h0 : 0 ≤ t) (h1 : t ≤ 3155760000) : CKok (toP c t) := by
  refine ⟨?_, ?_, by rw [toP_rate]; exact h.r0, by rw [toP_rate]; exact h.r1, by rw [toP_now]; exact h0, by rw [toP_now]; exact h1⟩
  · unfold toP; split
    · exact h.s0
    · exact Int.emod_nonneg _ (by decide)
  · unfold toP; split
    · exact h.s1
    · exact Int.emod_lt_of_pos _ (by decide)
theorem doP_now (c : CK) (x : BE) : (doP c x).2.2.1 = x.1 := by unfold doP; split <;> (try split) <;> exact toP_now c x.1
theorem doP_ok {c : CK} (h : CKok c) {x : BE} (hx : okE x) : CKok (doP c x) := by
  have ht := toP_ok h hx.1.1 hx.1.2;unfold doP;obtain ⟨_, hk⟩ := hx
  split
  · rename_i h1
    rcases hk with hk | hk | hk | hk <;> first | omega | exact ⟨by simp only; omega, by simp only; omega, ht.r0, ht.r1, ht.n0, ht.n1⟩
  · split
    · rename_i h1 h2
      rcases hk with hk | hk | hk | hk <;> first | omega | exact ⟨ht.s0, ht.s1, by simp only; omega, by simp only; omega, ht.n0, ht.n1⟩
    · exact ⟨ht.s0, ht.s1, ht.r0, ht.r1, ht.n0, ht.n1⟩
theorem mul_bound {a b A B : Int} (h0 : 0 ≤ a) (h1 : a ≤ A) (h2 : 0 ≤ b) (h3 : b ≤ B) : 0 ≤ a * b ∧ a * b ≤ A * B :=
  ⟨Int.mul_nonneg h0 h2, Int.mul_le_mul h1 h3 h2 (by omega)⟩
theorem ev_to {n : Nat} {c : CK} (h : CKok c) {t : Int} (h0 : c.2.2.1 ≤ t) (h1 : t ≤ 3155760000) : ev_p_book_clock_to n c.1 c.2.1 c.2.2.1 c.2.2.2 t = some (toP c t) := by
  obtain ⟨s, r, w, b⟩ := c;obtain ⟨s0, s1, r0, r1, n0, n1⟩ := h;simp only at s0 s1 r0 r1 n0 n1 h0;rw [ev_p_book_clock_to, cond_if];unfold toP
  cases b with
  | true => simp
  | false =>
    have hm := mul_bound (a := t - w) (b := 86400000 + r) (A := 3155760000) (B := 86432767) (by omega) (by omega) (by omega) (by omega);obtain ⟨m, hmm⟩ : ∃ m, m = (t - w) * (86400000 + r) := ⟨_, rfl⟩;rw [← hmm] at hm;have e1 : Int.tmod (s + m) 3732480000000 = (s + m) % 3732480000000 := Int.tmod_eq_emod_of_nonneg (by omega);have e2 := Int.emod_nonneg (s + m) (show (3732480000000 : Int) ≠ 0 by decide);have e3 := Int.emod_lt_of_pos (s + m) (show (0 : Int) < 3732480000000 by decide);simp only [Bool.not_false, if_true, Bool.false_eq_true, if_false];rw [chk_of (in64_of (by omega)), chk_of (in64_of (by omega)), ← hmm, chk_of (in64_of (by omega)), chk_of (in64_of (by omega)), e1, chk_of (in64_of (by omega)), Int.tmod_eq_emod_of_nonneg (by omega), Int.add_emod_right, Int.emod_emod_of_dvd _ (Int.dvd_refl _)]
theorem ev_do {n : Nat} {c : CK} (h : CKok c) {x : BE} (hx : okE x) (h0 : c.2.2.1 ≤ x.1) : ev_p_book_clock_do n c.1 c.2.1 c.2.2.1 c.2.2.2 x.1 x.2.1 x.2.2 = some (doP c x) := by
  rw [ev_p_book_clock_do, bind_of (ev_to h h0 hx.1.2)];obtain ⟨_, hk⟩ := hx;unfold doP;rcases hk with hk | hk | hk | hk
  · obtain ⟨e, k1, k2⟩ := hk;simp only [e, beq_self_eq_true, cond_if, if_true];rw [chk_of (in64_of (by omega)), chk_of (in64_of (by omega))]
    congr 2; omega
  · simp [hk.1, cond_if]
  · simp [hk.1, cond_if]
  · simp [hk.1, cond_if]
def runP : List BE → CK → Int → CK × List BE
  | [], c, t => (toP c t, [])
  | x :: xs, c, t => if x.1 ≤ t then runP xs (doP c x) t else (toP c t, x :: xs)
theorem ev_replay {σ1 : Type} {yb1 : CK → σ1 → Option (Bool × σ1)} {n : Nat} {t : Int} (ht : t ≤ 3155760000) : ∀ (l : List BE) (m : Nat) (c : CK) (y : σ1), l.length < m → CKok c → c.2.2.1 ≤ t → (∀ x ∈ l, okE x) → (∀ x ∈ l, c.2.2.1 ≤ x.1) → l.Pairwise (fun a b => a.1 < b.1) → l.length ≤ 4611686018427387904 →
    ev_book_entries_replay_1_l1 yb1 n t m c.1 c.2.1 c.2.2.1 c.2.2.2 l y = (yb1 (runP l c t).1 y).bind fun q => some (if q.1 = true then 0 else 1, ((runP l c t).1.1, (runP l c t).1.2.1, (runP l c t).1.2.2.1, (runP l c t).1.2.2.2, q.2, (runP l c t).2)) := by
  intro l
  induction l with
  | nil =>
    intro m c y hm hc hn _ _ _ _
    cases m with
    | zero => simp at hm
    | succ m =>
      rw [ev_book_entries_replay_1_l1, cond_if, if_neg (by simp), bind_of (ev_to hc hn ht)];simp only [runP]
      congr 1; funext q
      cases q.1 <;> simp [cond_if]
  | cons x l ih =>
    intro m c y hm hc hn hok hlo hp hlen
    cases m with
    | zero => simp at hm
    | succ m =>
      rw [ev_book_entries_replay_1_l1, cond_if, if_pos (by simp), idx_of (x := x) (by decide) (by simp), cond_if];simp only [runP]
      by_cases hx : x.1 ≤ t
      · rw [if_pos (by simpa using hx), if_pos hx, ev_book_entries_replay_1_j2, idx_of (x := x) (by decide) (by simp), bind_of (ev_do hc (hok x (by simp)) (hlo x (by simp))), chk_of (by simp; omega)];rw [List.pairwise_cons] at hp;have := ih m (doP c x) y (by simp at hm; omega) (doP_ok hc (hok x (by simp))) (by rw [doP_now]; exact hx) (fun z hz => hok z (by simp [hz])) (fun z hz => by rw [doP_now]; exact Int.le_of_lt (hp.1 z hz)) hp.2 (by simp at hlen; omega);rw [← this]
        congr 1
        simp
      · rw [if_neg (by simpa using hx), if_neg hx, bind_of (ev_to hc hn ht)]
        congr 1; funext q
        cases q.1 <;> simp [cond_if]
theorem ev_isEntry {n : Nat} (hn : 2 < n) {x : BE} (hx : okE x) : ev_book_isEntry n x.1 x.2.1 x.2.2 = some true := by
  obtain ⟨⟨h0, h1⟩, hk⟩ := hx;have key : ∀ a b, a ≤ x.2.2 → x.2.2 ≤ b → ev_book_isEntry_j0 n x.1 x.2.2 a b = some true := fun a b ha hb => by
    rw [ev_book_isEntry_j0, bind_of (wi1_book (by omega)), cond_if, if_pos (by simp; omega), bind_of (wi1_book (by omega))];simp; omega
  rw [ev_book_isEntry];rcases hk with hk | hk | hk | hk
  · simp only [hk.1, beq_self_eq_true, cond_if, if_true]; exact key _ _ (by omega) (by omega)
  · simp [hk.1, cond_if]; exact key _ _ (by omega) (by omega)
  · simp [hk.1, cond_if, ev_book_isEntry_j1]; exact key _ _ (by omega) (by omega)
  · simp [hk.1, cond_if, ev_book_isEntry_j1]; exact key _ _ (by omega) (by omega)
structure OkEs (l : List BE) : Prop where
  ok : ∀ x ∈ l, okE x
  asc : l.Pairwise (fun a b => a.1 < b.1)
  len : l.length ≤ 2000
theorem ev_check_l {n : Nat} (hn : 2 < n) {l : List BE} (h : OkEs l) : ∀ (m i : Nat), l.length < m + i → i ≤ l.length → ev_book_entries_check_l0 n l m (i : Int) l = some (0, 0) := by
  intro m
  induction m with
  | zero => intro i h1 h2; omega
  | succ m ih =>
    intro i h1 h2;have hlen := h.len;rw [ev_book_entries_check_l0, cond_if]
    by_cases hi : i < l.length
    · rw [if_pos (by simp; omega), idx_nat (List.getElem?_eq_getElem hi), chk_of (by simp; omega)];have hnx : ev_book_entries_next n (List.drop (0 : Int).toNat (List.take (i : Int).toNat l)) l[i].1 l[i].2.1 l[i].2.2 = some 0 := by
        simp only [show (0 : Int).toNat = 0 from rfl, List.drop_zero, Int.toNat_natCast];have hle := List.length_take_of_le (show i ≤ l.length by omega);rw [ev_book_entries_next, bind_of (ev_isEntry hn (h.ok _ (List.getElem_mem hi))), cond_if, if_neg (by simp), cond_if, hle]
        cases i with
        | zero => rw [if_neg (by simp)]
        | succ i =>
          rw [if_pos (by simp), chk_of (in64_of (by omega)), idx_of (x := l[i]'(by omega)) (by omega) (by
            rw [show ((i + 1 : Nat) : Int) - 1 = (i : Int) by omega, Int.toNat_natCast, List.getElem?_take_of_lt (by omega), List.getElem?_eq_getElem (by omega)]), cond_if, if_neg]
          have := List.pairwise_iff_getElem.1 h.asc i (i + 1) (by omega) hi (by omega);simp; omega
      rw [bind_of hnx, cond_if, if_neg (by simp), chk_of (in64_of (by omega))];have := ih (i + 1) (by omega) (by omega);rw [← this]; congr 1
    · rw [if_neg (by simp; omega)]
theorem ev_check {n : Nat} {l : List BE} (h : OkEs l) (hn : 2002 < n) : ev_book_entries_check n l = some (0, 0) := by
  have hlen := h.len;rw [ev_book_entries_check, cond_if, if_neg (by simp; omega)];exact ev_check_l (by omega) h n 0 (by omega) (by omega)
def noonsP : Nat → Int → List BE → CK → List Int
  | 0, _, _, _ => []
  | k + 1, d, l, c => ((runP l c (d * 86400)).1.1 / 86400) :: noonsP k (d + 1) (runP l c (d * 86400)).2 (runP l c (d * 86400)).1
theorem runP_ok {t : Int} (h0 : 0 ≤ t) (ht : t ≤ 3155760000) : ∀ (l : List BE) (c : CK), CKok c → (∀ x ∈ l, okE x) → CKok (runP l c t).1 ∧ (runP l c t).1.2.2.1 = t ∧ (runP l c t).2 <:+ l ∧ ∀ x ∈ (runP l c t).2, l.Pairwise (fun a b => a.1 < b.1) → t < x.1 := by
  intro l
  induction l with
  | nil => intro c hc _; exact ⟨toP_ok hc h0 ht, toP_now _ _, List.suffix_refl _, by simp [runP]⟩
  | cons x l ih =>
    intro c hc hok;simp only [runP]
    split
    · obtain ⟨g1, g2, g3, g4⟩ := ih (doP c x) (doP_ok hc (hok x (by simp))) (fun z hz => hok z (by simp [hz]));exact ⟨g1, g2, g3.trans (List.suffix_cons _ _), fun z hz hp => g4 z hz (List.pairwise_cons.1 hp).2⟩
    · rename_i h
      refine ⟨toP_ok hc h0 ht, toP_now _ _, List.suffix_refl _, fun z hz hp => ?_⟩;rw [List.pairwise_cons] at hp;rcases List.mem_cons.1 hz with rfl | hz
      · omega
      · have := hp.1 z hz; omega
theorem ev_noons_l {n : Nat} {from_ many : Int} (hf : 0 ≤ from_) (hm0 : 0 ≤ many) (hfm : from_ + many ≤ 36526) (hm4 : many ≤ 400) : ∀ (k m : Nat) (i : Int) (l : List BE) (c : CK) (ys : List Int), i + k = many → 0 ≤ i → k < m → l.length < n → CKok c → c.2.2.1 ≤ (from_ + i) * 86400 → (∀ x ∈ l, okE x) → (∀ x ∈ l, c.2.2.1 ≤ x.1) → l.Pairwise (fun a b => a.1 < b.1) → l.length ≤ 2000 → ys.length + k ≤ 400 →
    ∃ (c' : CK) (l' : List BE), ev_book_Noons_1_l0 (loopStep (ev_book_entries_replay_1_r0 (loopStep (ev_book_Noons_r1 n)) n)) n many from_ m i ((c.1, c.2.1, c.2.2.1, c.2.2.2, (ys, 0), l), 0) = some ((c'.1, c'.2.1, c'.2.2.1, c'.2.2.2, (ys ++ noonsP k (from_ + i) l c, 0), l'), 0) := by
  intro k
  induction k with
  | zero =>
    intro m i l c ys hi h0 hm _ _ _ _ _ _ _ _
    cases m with
    | zero => omega
    | succ m =>
      rw [ev_book_Noons_1_l0, cond_if, if_neg (by simp; omega)];exact ⟨c, l, by simp [noonsP]⟩
  | succ k ih =>
    intro m i l c ys hi h0 hm hl hc hn hok hlo hp hlen hys
    cases m with
    | zero => omega
    | succ m =>
      rw [ev_book_Noons_1_l0, cond_if, if_pos (by simp; omega), chk_of (in64_of (by omega)), chk_of (in64_of (by omega))];have ht0 : 0 ≤ (from_ + i) * 86400 := by omega
      have ht1 : (from_ + i) * 86400 ≤ 3155760000 := by omega
      obtain ⟨g1, g2, g3, g4⟩ := runP_ok ht0 ht1 l c hc hok;have hyb : loopStep (ev_book_Noons_r1 n) (runP l c ((from_ + i) * 86400)).1 (ys, 0) = some (true, (ys ++ [(runP l c ((from_ + i) * 86400)).1.1 / 86400], 0)) := by
        have hs0 := g1.s0;have hs1 := g1.s1;have e : Int.tdiv (runP l c ((from_ + i) * 86400)).1.1 86400 = (runP l c ((from_ + i) * 86400)).1.1 / 86400 := Int.tdiv_eq_ediv_of_nonneg hs0;refine loopStep_of (r := (0, ys ++ [(runP l c ((from_ + i) * 86400)).1.1 / 86400])) ?_;rw [ev_book_Noons_r1, e, chk_of (in64_of (by omega)), chk_of (room_iff.2 (by simp; omega))]
      have hr : loopStep (ev_book_entries_replay_1_r0 (loopStep (ev_book_Noons_r1 n)) n) ((from_ + i) * 86400) ((c.1, c.2.1, c.2.2.1, c.2.2.2, (ys, 0), l), 0) =
          some (true, (((runP l c ((from_ + i) * 86400)).1.1, (runP l c ((from_ + i) * 86400)).1.2.1, (runP l c ((from_ + i) * 86400)).1.2.2.1, (runP l c ((from_ + i) * 86400)).1.2.2.2, (ys ++ [(runP l c ((from_ + i) * 86400)).1.1 / 86400], 0), (runP l c ((from_ + i) * 86400)).2), 0)) := by
        have := ev_replay (yb1 := loopStep (ev_book_Noons_r1 n)) (n := n) ht1 l n c (ys, 0) hl hc hn hok hlo hp (by omega);rw [hyb] at this;simp only [Option.bind_some, if_true] at this;exact loopStep_of (f := ev_book_entries_replay_1_r0 (loopStep (ev_book_Noons_r1 n)) n) (x := (from_ + i) * 86400) (s := (c.1, c.2.1, c.2.2.1, c.2.2.2, (ys, 0), l)) this
      rw [bind_of hr, cond_if, if_neg (by simp), chk_of (in64_of (by omega))];have hsub := g3.sublist;obtain ⟨c', l', h⟩ := ih m (i + 1) (runP l c ((from_ + i) * 86400)).2 (runP l c ((from_ + i) * 86400)).1 (ys ++ [(runP l c ((from_ + i) * 86400)).1.1 / 86400]) (by omega) (by omega) (by omega) (by have := hsub.length_le; omega) g1 (by rw [g2]; omega)
        (fun x hx => hok x (hsub.subset hx)) (fun x hx => by rw [g2]; exact Int.le_of_lt (g4 x hx hp)) (hp.sublist hsub) (by have := hsub.length_le; omega) (by simp; omega)
      refine ⟨c', l', h.trans ?_⟩;simp only [noonsP, List.append_assoc, List.singleton_append];rw [show from_ + i + 1 = from_ + (i + 1) by omega]
theorem ev_Noons {n : Nat} {l : List BE} {from_ many : Int} (h : OkEs l) (hf : 0 ≤ from_) (hm0 : 0 ≤ many) (hm : many ≤ 400) (hfm : from_ + many ≤ 36526) (hn : 2100 < n) : ev_book_Noons n l from_ many = some (noonsP many.toNat from_ l (0, 0, 0, false), 0) := by
  have hlen := h.len;rw [ev_book_Noons, bind_of (ev_check h (by omega)), cond_if, if_neg (by simp), bind_of (wi1_book (by omega)), cond_if, if_neg (by simp; omega), chk_of (in64_of (by omega)), bind_of (wi1_book (by omega)), cond_if, if_neg (by simp; omega), ev_book_Noons_j0, ev_book_entries_replay];simp only [Option.bind_some];obtain ⟨c', l', h1⟩ := ev_noons_l (n := n) hf hm0 hfm hm many.toNat n 0 l (0, 0, 0, false) [] (by omega) (by omega) (by omega) (by omega) ⟨by decide, by decide, by decide, by decide, by decide, by decide⟩ (by simp only; omega) h.ok (fun x hx => (h.ok x hx).1.1) h.asc hlen (by simp; omega);have h2 : ev_book_entries_replay_1 (loopStep (ev_book_Noons_r1 n)) n (([] : List Int), 0) l many from_ = some (noonsP many.toNat from_ l (0, 0, 0, false), 0) := by
    rw [ev_book_entries_replay_1, ev_book_Noons_1, bind_of h1];simp [cond_if]
  rw [bind_of h2];simp [cond_if]
end Go.Proofs.Ythgbjhglhejalaa.Sy
