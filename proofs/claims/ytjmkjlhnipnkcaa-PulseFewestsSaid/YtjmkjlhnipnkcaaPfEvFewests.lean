/- With how few faults: the program and the reference answer alike. -/
import Derived.Test.YtjmkjlhnipnkcaaPfEvFewC
import Derived.Test.YtjmkjlhnipnkcaaPfGPulseFewests
import Derived.Test.YtjmkjlhnipnkcaaPfManP
set_option linter.unusedSimpArgs false
set_option linter.unusedVariables false
namespace Go.Proofs.Ytjmkjlhnipnkcaa.Sy
open Go.RowKit
set_option maxRecDepth 100000
theorem fspec_uniq {R : Pu.Dl → Int → Prop} {n e n' e' : Int} (h : Pu.FewSpec R n e) (h' : Pu.FewSpec R n' e') : (n, e) = (n', e') := by
  rcases h with ⟨rfl, h1, ⟨d, h2⟩, h3⟩ | ⟨rfl, rfl, h4⟩ <;> rcases h' with ⟨rfl, g1, ⟨d', g2⟩, g3⟩ | ⟨rfl, rfl, g4⟩
  · have := h3 _ _ g2;have := g3 _ _ h2;rw [show n = n' by omega]
  · have := g4 _ _ h2; omega
  · have := h4 _ _ g2; omega
  · rfl
theorem fout_uniq {l : Pu.Ln} {sh f : Int} {fs : List (Int × Int)} {n e n' e' : Int} (h : Pu.FewOut l sh f fs n e) (h' : Pu.FewOut l sh f fs n' e') : (n, e) = (n', e') := by
  unfold Pu.FewOut at h h'
  split at h
  · rename_i q; rw [if_pos q] at h'; rw [h.1, h.2, h'.1, h'.2]
  rename_i q1; rw [if_neg q1] at h'
  split at h
  · rename_i q; rw [if_pos q] at h'; rw [h.1, h.2, h'.1, h'.2]
  rename_i q2; rw [if_neg q2] at h'
  split at h
  · rename_i q; rw [if_pos q] at h'; rw [h.1, h.2, h'.1, h'.2]
  rename_i q3; rw [if_neg q3] at h'
  split at h
  · rename_i q; rw [if_pos q] at h'; rw [h.1, h.2, h'.1, h'.2]
  rename_i q4; rw [if_neg q4] at h'
  exact fspec_uniq h h'
theorem few_of {n : Nat} {r e c sh f v w : Int} {fs : List (Int × Int)} (h : fs.length ≤ 1000) (hr : (Lit.int .i64 r).wf = true) (he : (Lit.int .i64 e).wf = true) (hc : (Lit.int .i64 c).wf = true) (ho : Pu.FewOut ⟨r, e, c⟩ sh f fs v w) : ev_pulse_Fewest n r e c sh f fs = some (v, w) := by
  unfold ev_pulse_Fewest wf64;rw [chk_of (by simp; omega), chk_of hr, chk_of he, chk_of hc, chk_of (@decide_eq_true _ (Classical.propDecidable _) fun n e n' e' h1 h2 => fout_uniq h1 h2)];rw [few_val (fun n e n' e' h1 h2 => fout_uniq h1 h2) ho]
theorem seenQ_eq {l : Pu.Ln} : ∀ (ls : List (Int × Int)) (R : Pu.Dl → Int → Prop) (t : Int), seenQ l R t ls = Pu.seenR l R t ls := by
  have hs : ∀ (R : Pu.Dl → Int → Prop) (t : Int) (n : Nat), stepsQ l t R n = Pu.stepsR l t R n := by
    intro R t n
    induction n with
    | zero => rfl
    | succ n ih => show stepQ l (t + n + 1) (stepsQ l t R n) = Pu.stepR l (t + n + 1) (Pu.stepsR l t R n); rw [ih]; rfl
  intro ls
  induction ls with
  | nil => intro R t; rfl
  | cons x ls ih =>
    intro R t;show seenQ l (filtQ x.2 (stepsQ l t R (x.1 - t).toNat)) x.1 ls = Pu.seenR l (Pu.filtR x.2 (Pu.stepsR l t R (x.1 - t).toNat)) x.1 ls;rw [ih, hs]; rfl
theorem okQ_seen {l : Pu.Ln} : ∀ (ls : List (Int × Int)) (R : Pu.Dl → Int → Prop) (t B : Int), OkQ B R → 0 ≤ B → ∃ B', OkQ B' (seenQ l R t ls) := by
  intro ls
  induction ls with
  | nil => intro R t B h _; exact ⟨B, h⟩
  | cons x ls ih => intro R t B h hB; exact ih _ _ _ (OkQ.steps h hB _).filt (by omega)
theorem min_ex {P : Nat → Prop} : ∀ N, P N → ∃ c, P c ∧ ∀ c', P c' → c ≤ c' := by
  intro N
  induction N using Nat.strongRecOn with
  | ind N ih =>
    intro h
    by_cases q : ∃ m, m < N ∧ P m
    · obtain ⟨m, h1, h2⟩ := q; exact ih m h1 h2
    · exact ⟨N, h, fun c' hc => by
        rcases Nat.lt_or_ge c' N with z | z
        · exact absurd ⟨c', z, hc⟩ q
        · exact z⟩
theorem fspec_ex {R : Pu.Dl → Int → Prop} {B : Int} (h : OkQ B R) : ∃ n e, Pu.FewSpec R n e := by
  by_cases q : ∃ (c : Nat), c ≤ 20 ∧ ∃ d, R d c
  · obtain ⟨c, h1, h2⟩ := q;obtain ⟨m, ⟨g1, g2⟩, g3⟩ := min_ex (P := fun c => c ≤ 20 ∧ ∃ d, R d c) c ⟨h1, h2⟩;refine ⟨m, 0, .inl ⟨rfl, by omega, g2, fun d c hc => ?_⟩⟩;have := (h d c hc).2;rcases Int.lt_or_le 20 c with z | z
    · omega
    · have := g3 c.toNat ⟨by omega, d, by rw [show ((c.toNat : Nat) : Int) = c by omega]; exact hc⟩
      omega
  · refine ⟨0, 7, .inr ⟨rfl, rfl, fun d c hc => ?_⟩⟩;have := (h d c hc).2;rcases Int.lt_or_le 20 c with z | z
    · exact z
    · exact absurd ⟨c.toNat, by omega, d, by rw [show ((c.toNat : Nat) : Int) = c by omega]; exact hc⟩ q
theorem check9_ev {n : Nat} (l1 l2 l3 : Int) (h2 : (Lit.int .i64 l2).wf = true) : ev_ref09_Check n l1 l2 l3 = some (Pu.lineErr l1 l2 l3) := by
  rw [ev_ref09_Check, cond_if];unfold Pu.lineErr
  by_cases c1 : l1 = 0
  · rw [if_pos (by simpa using c1), if_pos c1, cond_if, cond_if]
    by_cases c2 : l2 = 0 <;> by_cases c3 : l3 = 0 <;> simp [c2, c3]
  · rw [if_neg (by simpa using c1), if_neg c1, cond_if]
    by_cases c2 : l1 < 0
    · rw [if_pos (by simpa using c2), if_pos (.inl c2)]
    rw [if_neg (by simpa using c2), cond_if]
    by_cases c3 : 3 < l1
    · rw [if_pos (by simpa using c3), if_pos (.inr (.inl c3))]
    rw [if_neg (by simpa using c3), cond_if]
    by_cases c4 : l2 < 2
    · rw [if_pos (by simpa using c4), if_pos (.inr (.inr (.inl c4)))]
    rw [if_neg (by simpa using c4), cond_if]
    by_cases c5 : 360 < l2
    · rw [if_pos (by simpa using c5), if_pos (.inr (.inr (.inr (.inl c5))))]
    rw [if_neg (by simpa using c5), chk_of (by simp; omega), cond_if, Int.tmod_eq_emod_of_nonneg (by decide)]
    by_cases c6 : 720 % l2 = 0
    · rw [if_neg (by simp [c6]), cond_if]
      by_cases c7 : l3 < 0
      · rw [if_pos (by simpa using c7), if_pos (.inr (.inr (.inr (.inr (.inr (.inl c7))))))]
      have e : Int.tdiv (l2 - 1) 2 = (l2 - 1) / 2 := Int.tdiv_eq_ediv_of_nonneg (by omega);rw [if_neg (by simpa using c7), e, chk_of (in64_of (by omega)), chk_of (in64_of (by omega)), cond_if]
      by_cases c8 : (l2 - 1) / 2 < l3
      · rw [if_pos (by simpa using c8), if_pos (.inr (.inr (.inr (.inr (.inr (.inr c8))))))]
      · rw [if_neg (by simpa using c8), if_neg (by omega)]
    · rw [if_pos (by simpa using c6), if_pos (.inr (.inr (.inr (.inr (.inl c6)))))]
theorem seen9_l {n : Nat} {f : Int} (hf : 0 ≤ f ∧ f ≤ 100000) {ls : List (Int × Int)} (hl : ls.length ≤ 40) : ∀ (k m i : Nat) (v : Int), i + k = ls.length → k < m → f ≤ v → (i = 0 → v = f) → (∀ j, i = j + 1 → ∃ x, ls[j]? = some x ∧ x.1 = v) → ev_ref09_Seen_l0 n f m (i : Int) ls = some (if Pu.chkSn f v (ls.drop i) = true then 0 else 2) := by
  intro k
  induction k with
  | zero =>
    intro m i v hi hm _ _ _;obtain ⟨m, rfl⟩ : ∃ m', m = m' + 1 := ⟨m - 1, by omega⟩;rw [ev_ref09_Seen_l0, cond_if, if_neg (by rw [decide_eq_true_eq]; omega), List.drop_eq_nil_of_le (by omega)];simp [Pu.chkSn]
  | succ k ih =>
    intro m i v hi hm hv h0 hp;obtain ⟨m, rfl⟩ : ∃ m', m = m' + 1 := ⟨m - 1, by omega⟩;have hlt : i < ls.length := by omega
    have hx : ls[i]? = some ls[i] := List.getElem?_eq_getElem hlt;obtain ⟨x, hxe⟩ : ∃ x, x = ls[i] := ⟨_, rfl⟩;rw [List.drop_eq_getElem_cons hlt, ← hxe];rw [← hxe] at hx;have hbad : ¬(v + 1 ≤ x.1 ∧ x.1 ≤ f + 5000) ∨ ¬(0 ≤ x.2 ∧ x.2 ≤ 719) → (if Pu.chkSn f v (x :: ls.drop (i + 1)) = true then (0 : Int) else 2) = 2 := fun q => by rw [Pu.chkSn_false q]; simp
    have hnext : v + 1 ≤ x.1 → x.1 ≤ f + 5000 → 0 ≤ x.2 → x.2 ≤ 719 → ev_ref09_Seen_l0 n f m ((i : Int) + 1) ls = some (if Pu.chkSn f v (x :: ls.drop (i + 1)) = true then 0 else 2) := fun q1 q2 q3 q4 => by
      have := ih m (i + 1) x.1 (by omega) (by omega) (by omega) (fun e => by omega) (fun j hj => ⟨x, by rw [show j = i by omega]; exact hx, rfl⟩);rw [show ((i + 1 : Nat) : Int) = (i : Int) + 1 by omega] at this;rw [this, Pu.chkSn_true ⟨q1, q2⟩ ⟨q3, q4⟩]
    rw [ev_ref09_Seen_l0, cond_if, if_pos (by rw [decide_eq_true_eq]; omega), idx_nat hx, cond_if]
    by_cases c1 : x.1 ≤ f
    · rw [if_pos (by simpa using c1), hbad (.inl (by omega))]
    rw [if_neg (by simpa using c1), chk_of (in64_of (by omega)), cond_if]
    by_cases c2 : f + 5000 < x.1
    · rw [if_pos (by simpa using c2), hbad (.inl (by omega))]
    rw [if_neg (by simpa using c2), cond_if];have htail : v + 1 ≤ x.1 → (cond (decide (x.2 < 0)) (some 2) (cond (decide ((720 : Int) ≤ x.2)) (some 2) (chk (in64 ((i : Int) + 1)) <| ev_ref09_Seen_l0 n f m ((i : Int) + 1) ls))) = some (if Pu.chkSn f v (x :: ls.drop (i + 1)) = true then 0 else 2) := fun q => by
      rw [cond_if, cond_if]
      by_cases c3 : x.2 < 0
      · rw [if_pos (by simpa using c3), hbad (.inr (by omega))]
      rw [if_neg (by simpa using c3)]
      by_cases c4 : 720 ≤ x.2
      · rw [if_pos (by simpa using c4), hbad (.inr (by omega))]
      rw [if_neg (by simpa using c4), chk_of (in64_of (by omega))];exact hnext q (by omega) (by omega) (by omega)
    by_cases c5 : 0 < (i : Int)
    · obtain ⟨j, rfl⟩ : ∃ j, i = j + 1 := ⟨i - 1, by omega⟩;obtain ⟨y, hy, hyv⟩ := hp j rfl;rw [if_pos (by simp), chk_of (in64_of (by omega)), show (((j + 1 : Nat) : Int) - 1) = (j : Int) by omega, idx_nat hy, cond_if]
      by_cases c6 : x.1 ≤ y.1
      · rw [if_pos (by simpa using c6), hbad (.inl (by omega))]
      · rw [if_neg (by simpa using c6)];exact htail (by omega)
    · rw [if_neg (by simpa using c5)];have := h0 (by omega);exact htail (by omega)
theorem seen9_ev {n : Nat} (hn : 100 < n) {f : Int} (hf : 0 ≤ f ∧ f ≤ 100000) {ls : List (Int × Int)} : ev_ref09_Seen n f ls = some (Pu.seenErr f ls) := by
  rw [ev_ref09_Seen, cond_if];unfold Pu.seenErr
  by_cases c : 40 < ls.length
  · rw [if_pos (by rw [decide_eq_true_eq]; omega), if_pos c]
  · rw [if_neg (by rw [decide_eq_true_eq]; omega), if_neg c];have := seen9_l (n := n) hf (ls := ls) (by omega) ls.length n 0 f (by omega) (by omega) (Int.le_refl _) (fun _ => rfl) (fun j hj => by omega)
    simpa using this
theorem chk_asc {f : Int} : ∀ {ls : List (Int × Int)} {v last : Int}, Pu.chkSn f v ls = true → (∀ x ∈ ls, x.1 ≤ last) → AscQ last v ls := by
  intro ls
  induction ls with
  | nil => intro v last _ _; trivial
  | cons x ls ih =>
    intro v last h hl;rw [Pu.chkSn] at h;simp only [Bool.and_eq_true, decide_eq_true_eq] at h;exact ⟨by omega, hl x (by simp), ih h.2 (fun y hy => hl y (by simp [hy]))⟩
theorem chk_last {f : Int} : ∀ {ls : List (Int × Int)} {v : Int} {z : Int × Int}, Pu.chkSn f v ls = true → ls[ls.length - 1]? = some z → (∀ x ∈ ls, x.1 ≤ z.1) ∧ v ≤ z.1 := by
  intro ls
  induction ls with
  | nil => intro v z _ h; simp at h
  | cons x ls ih =>
    intro v z h hz;rw [Pu.chkSn] at h;simp only [Bool.and_eq_true, decide_eq_true_eq] at h
    cases ls with
    | nil => simp at hz; subst hz; exact ⟨fun y hy => by simp at hy; subst hy; exact Int.le_refl _, by omega⟩
    | cons y ls =>
      obtain ⟨g1, g2⟩ := ih h.2 (by simpa using hz);refine ⟨fun w hw => ?_, by omega⟩;rcases List.mem_cons.1 hw with rfl | hw
      · exact g2
      · exact g1 w hw
theorem same9 {n : Nat} {ls : List (Int × Int)} (hl : ls.length ≤ 45) {w : Int} {r13 : Int × Int} {l1 l2 l3 s f : Int} (hend : ∀ m, ev_law09_PulseFewests_l2 n ls ls w r13 l1 l2 l3 s f (m + 1) (ls.length : Int) = some true) : ∀ (k m i : Nat), i + k = ls.length → k < m → ev_law09_PulseFewests_l2 n ls ls w r13 l1 l2 l3 s f m (i : Int) = some true := by
  intro k
  induction k with
  | zero =>
    intro m i hi hm;obtain ⟨m, rfl⟩ : ∃ m', m = m' + 1 := ⟨m - 1, by omega⟩;obtain rfl : i = ls.length := by omega
    exact hend m
  | succ k ih =>
    intro m i hi hm;obtain ⟨m, rfl⟩ : ∃ m', m = m' + 1 := ⟨m - 1, by omega⟩;have hx : ls[i]? = some ls[i] := List.getElem?_eq_getElem (by omega);have := ih m (i + 1) (by omega) (by omega);rw [show ((i + 1 : Nat) : Int) = (i : Int) + 1 by omega] at this;rw [ev_law09_PulseFewests_l2, cond_if, if_pos (by rw [decide_eq_true_eq]; omega), idx_nat hx, idx_nat hx, cond_if, if_neg (by simp), chk_of (in64_of (by omega)), this]
theorem j1_of {n : Nat} (hn : 100 < n) {ls : List (Int × Int)} (hl : ls.length ≤ 45) {w : Int} {r13 : Int × Int} {l1 l2 l3 s f : Int} (hv : ev_pulse_Fewest n l1 l2 l3 s f ls = some r13) (hend : ∀ m, ev_law09_PulseFewests_l2 n ls ls w r13 l1 l2 l3 s f (m + 1) (ls.length : Int) = some true) : ev_law09_PulseFewests_j1 n ls l1 l2 l3 s f w = some true := by
  rw [ev_law09_PulseFewests_j1, bind_of (x := ls) (by rw [ev_law09_seen, chk_of (room_iff.2 (by simp; omega))]; rfl), bind_of hv];have := same9 hl hend ls.length n 0 (by omega) (by omega)
  simpa using this
theorem err9 {n : Nat} (hn : 100 < n) {ls : List (Int × Int)} (hl : ls.length ≤ 45) {w : Int} (hw : w ≠ 0) {l1 l2 l3 s f : Int} (a1 : (Lit.int .i64 l1).wf = true) (a2 : (Lit.int .i64 l2).wf = true) (a3 : (Lit.int .i64 l3).wf = true) (ho : Pu.FewOut ⟨l1, l2, l3⟩ s f ls 0 w) : ev_law09_PulseFewests_j0 n ls f l1 l2 l3 s w = some true := by
  rw [ev_law09_PulseFewests_j0, cond_if, if_neg (by simpa using hw)];refine j1_of hn hl (few_of (by omega) a1 a2 a3 ho) fun m => ?_
  rw [ev_law09_PulseFewests_l2, cond_if, if_neg (by rw [decide_eq_true_eq]; omega), cond_if, if_pos (by simpa using hw), cond_if, if_pos (by simp), cond_if, if_pos (by simp), ev_law09_known, bind_of rfl]
theorem pulseFewests_ev {n : Nat} (hn : 12 ^ 80 < n) {l1 l2 l3 s f : Int} {ls : List (Int × Int)} (a1 : (Lit.int .i64 l1).wf = true) (a2 : (Lit.int .i64 l2).wf = true) (a3 : (Lit.int .i64 l3).wf = true) : ev_law09_PulseFewests n l1 l2 l3 s f ls = some true := by
  have hn1 : 100 < n := Nat.lt_of_le_of_lt (by decide) hn;rw [ev_law09_PulseFewests, cond_if]
  by_cases c0 : 45 < ls.length
  · rw [if_pos (by rw [decide_eq_true_eq]; omega), ev_law09_known, bind_of rfl]
  have hl : ls.length ≤ 45 := by omega
  rw [if_neg (by rw [decide_eq_true_eq]; omega), bind_of (check9_ev l1 l2 l3 a2), cond_if]
  by_cases c1 : Pu.lineErr l1 l2 l3 = 0
  case neg =>
    rw [if_pos (by simpa using c1)];exact err9 hn1 hl c1 a1 a2 a3 (by unfold Pu.FewOut; rw [if_pos (by simpa using c1)]; exact ⟨rfl, rfl⟩)
  have hlok := Pu.ok_of_err c1;rw [if_neg (by simp [c1]), ev_ref09_Minute]
  by_cases c2 : 0 ≤ f ∧ f ≤ 100000
  case neg =>
    rw [bind_of (x := false) (by
      rw [cond_if]
      by_cases q : 0 ≤ f
      · rw [if_pos (by simpa using q)]; congr 1; rw [decide_eq_false_iff_not]; omega
      · rw [if_neg (by simpa using q)]), cond_if, if_pos (by rfl)]
    exact err9 hn1 hl (by decide) a1 a2 a3 (by unfold Pu.FewOut; rw [if_neg (by simp [c1]), if_pos (by unfold btw; rw [decide_eq_false_iff_not]; exact c2)]; exact ⟨rfl, rfl⟩)
  have hb2 : btw 0 100000 f = true := by unfold btw; rw [decide_eq_true_eq]; exact c2
  rw [bind_of (x := true) (by rw [cond_if, if_pos (by simpa using c2.1)]; congr 1; simpa using c2.2), cond_if, if_neg (by simp), cond_if];have hj3 : ¬ (0 ≤ s ∧ s ≤ 719) → ev_law09_PulseFewests_j3 n ls f l1 l2 l3 s = some true := fun q => by
    rw [ev_law09_PulseFewests_j3];exact err9 hn1 hl (by decide) a1 a2 a3 (by unfold Pu.FewOut; rw [if_neg (by simp [c1]), if_neg (by simp [hb2]), if_pos (by unfold btw; rw [decide_eq_false_iff_not]; exact q)]; exact ⟨rfl, rfl⟩)
  by_cases c3 : s < 0
  · rw [if_pos (by simpa using c3)]; exact hj3 (by omega)
  rw [if_neg (by simpa using c3), cond_if]
  by_cases c4 : 720 ≤ s
  · rw [if_pos (by simpa using c4)]; exact hj3 (by omega)
  rw [if_neg (by simpa using c4), ev_law09_PulseFewests_j4, bind_of (seen9_ev hn1 c2)];have hb3 : btw 0 719 s = true := by unfold btw; rw [decide_eq_true_eq]; omega
  by_cases c5 : Pu.seenErr f ls = 0
  case neg =>
    exact err9 hn1 hl c5 a1 a2 a3 (by unfold Pu.FewOut; rw [if_neg (by simp [c1]), if_neg (by simp [hb2]), if_neg (by simp [hb3]), if_pos c5]; exact ⟨rfl, rfl⟩)
  have hsn : ls.length ≤ 40 ∧ Pu.chkSn f f ls = true := by
    unfold Pu.seenErr at c5
    split at c5
    · cases c5
    · split at c5
      · rename_i q1 q2; exact ⟨by omega, q2⟩
      · cases c5
  rw [c5];have hst : ev_ref09_New n l1 l2 l3 s f = some ((Pu.start ⟨l1, l2, l3⟩ s f).s, (Pu.start ⟨l1, l2, l3⟩ s f).k) ∧ (Pu.start ⟨l1, l2, l3⟩ s f).s = s ∧ 0 ≤ (Pu.start ⟨l1, l2, l3⟩ s f).k ∧ (Pu.start ⟨l1, l2, l3⟩ s f).k ≤ 360 := by
    have hlk := hlok;unfold Pu.Ln.ok at hlk;simp only at hlk;rw [ev_ref09_New, cond_if];unfold Pu.start;simp only
    by_cases q : l1 = 0
    · rw [if_pos (by simp; omega), if_pos q]; exact ⟨rfl, rfl, Int.le_refl (0 : Int), (by decide : (0 : Int) ≤ 360)⟩
    · have h0 := Int.emod_nonneg f (show l2 ≠ 0 by omega);have h1 := Int.emod_lt_of_pos f (show 0 < l2 by omega);rw [if_neg (by simp; omega), if_neg q, chk_of (by simp; omega), Int.tmod_eq_emod_of_nonneg c2.1];exact ⟨rfl, rfl, h0, by simp only; omega⟩
  obtain ⟨st1, st2, st3, st4⟩ := hst;obtain ⟨k, hk⟩ : ∃ k, k = (Pu.start ⟨l1, l2, l3⟩ s f).k := ⟨_, rfl⟩;rw [st2, ← hk] at st1;rw [← hk] at st3 st4;have hstd : Pu.start ⟨l1, l2, l3⟩ s f = ⟨s, k⟩ := by rw [hk]; exact (congrArg (fun z => Pu.Dl.mk z (Pu.start ⟨l1, l2, l3⟩ s f).k) st2).symm ▸ rfl
  have hok0 : OkQ 360 (startQ ⟨s, k⟩) := fun d c hc => by obtain ⟨rfl, rfl⟩ := hc; exact ⟨⟨by simp only; omega, by simp only; omega, st3, st4⟩, by decide⟩
  obtain ⟨B', hB'⟩ := okQ_seen (l := ⟨l1, l2, l3⟩) ls _ f 360 hok0 (by decide);obtain ⟨v, e, hspec⟩ := fspec_ex hB';have hout : Pu.FewOut ⟨l1, l2, l3⟩ s f ls v e := by
    unfold Pu.FewOut;rw [if_neg (by simp [c1]), if_neg (by simp [hb2]), if_neg (by simp [hb3]), if_neg (by simp [c5]), hstd, ← seenQ_eq];exact hspec
  have hmain : ∀ last : Int, f ≤ last → last ≤ f + 80 → AscQ last f ls → ev_law09_PulseFewests_j1 n ls l1 l2 l3 s f 0 = some true := by
    intro last g1 g2 g3;refine j1_of hn1 hl (few_of (by omega) a1 a2 a3 hout) fun m => ?_
    rw [ev_law09_PulseFewests_l2, cond_if, if_neg (by rw [decide_eq_true_eq]; omega), cond_if, if_neg (by simp), bind_of st1]
    by_cases q : e = 0 ∧ v ≤ 3
    · obtain ⟨rfl, q2⟩ := q;rcases hspec with ⟨_, s1, s2, s3⟩ | ⟨s1, _⟩
      · obtain ⟨d, hd⟩ := s2;have hv0 := (hB' d v hd).2;obtain ⟨w, rfl⟩ : ∃ w : Nat, v = w := ⟨v.toNat, by omega⟩;have := few_ev hn hlok (s := s) (k := k) (by omega) ⟨st3, st4⟩ c2 (by omega) (last := last) ⟨g1, g2⟩ g3 (r := ((w : Int), true)) (fun xs S hx => by
          have := l8_found (n := n) hx (n0 := w) (by omega) ⟨d, hd⟩ (fun d c hc => by have := s3 d c hc; omega) w n 0 (by omega) (by omega)
          simpa using this)
        rw [bind_of this, cond_if, if_neg (by simp), cond_if, if_pos (by simp), cond_if, if_pos (by simp), ev_law09_known, bind_of rfl]
      · cases s1
    · have := few_ev hn hlok (s := s) (k := k) (by omega) ⟨st3, st4⟩ c2 (by omega) (last := last) ⟨g1, g2⟩ g3 (r := ((0 : Int), false)) (fun xs S hx => by
        have := l8_none (n := n) hx (fun d c hc hR => by
          rcases hspec with ⟨s0, s1, s2, s3⟩ | ⟨s0, s1, s2⟩
          · have := s3 d c hR;exact q ⟨s0, by omega⟩
          · have := s2 d c hR
            omega) 4 n 0 (by omega) (by omega)
        simpa using this)
      rw [bind_of this, cond_if, if_pos (by rfl), cond_if];rcases hspec with ⟨s0, s1, s2, s3⟩ | ⟨s0, s1, s2⟩
      · subst s0;rw [if_neg (by simp), cond_if, if_pos (by simp), cond_if, if_pos (by rw [decide_eq_true_eq]; simp only; omega), cond_if, if_pos (by rw [decide_eq_true_eq]; exact s1), ev_law09_known, bind_of rfl]
      · subst s0; subst s1;rw [if_pos (by simp), cond_if, if_pos (by simp), ev_law09_known, bind_of rfl]
  rw [ev_law09_PulseFewests_j0, cond_if, if_pos (by simp), cond_if]
  by_cases c6 : 0 < ls.length
  · have hx : ls[ls.length - 1]? = some ls[ls.length - 1] := List.getElem?_eq_getElem (by omega);have e1 : ((ls.length : Int) - 1).toNat = ls.length - 1 := by omega
    obtain ⟨z, hz⟩ : ∃ z, z = ls[ls.length - 1] := ⟨_, rfl⟩;rw [← hz] at hx;obtain ⟨z1, z2⟩ := chk_last hsn.2 hx;rw [if_pos (by rw [decide_eq_true_eq]; omega), chk_of (in64_of (by omega)), idx_of (x := z) (by omega) (by rw [e1]; exact hx), chk_of (in64_of (by omega)), cond_if]
    by_cases c7 : f + 80 < z.1
    · rw [if_pos (by simpa using c7), ev_law09_known, bind_of rfl]
    · rw [if_neg (by simpa using c7)];exact hmain z.1 z2 (by omega) (chk_asc hsn.2 z1)
  · rw [if_neg (by rw [decide_eq_true_eq]; omega)];have : ls = [] := List.eq_nil_of_length_eq_zero (by omega);subst this;exact hmain f (Int.le_refl _) (by omega) trivial
theorem pulseFewests_evx {l1 : Int} {l2 : Int} {l3 : Int} {at_4 : Int} {at_5 : Int} {list6 : List (Int × Int)} (h0 : (Lit.int .i64 l1).wf = true ∧ (Lit.int .i64 l2).wf = true ∧ (Lit.int .i64 l3).wf = true) (h1 : (Lit.int .i64 at_4).wf = true ∧ (Lit.int .i64 at_5).wf = true) (h2 : (list6.length ≤ maxLen ∧ ∀ el53 ∈ list6, (Lit.int .i64 el53.1).wf = true ∧ (Lit.int .i64 el53.2).wf = true)) :
    ∃ n, ev_law09_PulseFewests n l1 l2 l3 at_4 at_5 list6 = some true := by
  obtain ⟨n, hn⟩ : ∃ n : Nat, 12 ^ 80 < n := ⟨_, Nat.lt_succ_self _⟩;exact ⟨n, pulseFewests_ev hn h0.1 h0.2.1 h0.2.2⟩
end Go.Proofs.Ytjmkjlhnipnkcaa.Sy
