/- Regulation, with the rules of chapter 7's example: visit by visit, fewer visits are left. -/
import Derived.Test.YthgbjhglhejalaaRBEvRateC
set_option linter.unusedSimpArgs false
set_option linter.unusedVariables false
namespace Go.Proofs.Ythgbjhglhejalaa.Sy
open Go.RowKit
set_option maxRecDepth 100000
def ub (b : Bool) : Int := if b = true then 1 else 0
theorem ub_or (b : Bool) : ub b = 0 ∨ ub b = 1 := by cases b <;> decide
theorem check_ev {n : Nat} (hn : 5 < n) : ev_rate_Check n 5 1 8 10 3 [(4, 6)] = some 0 := by
  obtain ⟨m, rfl⟩ : ∃ m, n = m + 6 := ⟨n - 6, by omega⟩
  rfl
theorem start_ev {n : Nat} (hn : 5 < n) {lo hi : Int} (b : Bool) (h0 : -300 ≤ lo) (h1 : lo ≤ hi) (h2 : hi ≤ 300) : ev_rate_start n 5 1 8 10 3 [(4, 6)] lo hi [b] = some (5, 1, 8, 10, 3, [(4, 6)], [], 0) := by
  have hs : ev_p_rate_shop_isState n 5 1 8 10 3 [(4, 6)] lo hi [b] = some true := by
    unfold ev_p_rate_shop_isState ev_rate_isSpan;rw [decide_eq_true h1, cond_true, wi2_rate (by omega)];have e : ((decide (-300 ≤ lo) && decide (lo ≤ 300)) && (decide (-300 ≤ hi) && decide (hi ≤ 300))) = true := by simp; omega
    rw [e]
    rfl
  unfold ev_rate_start ev_rate_open;rw [check_ev hn];simp only [Option.bind_some];rw [hs]
  rfl
theorem newSet_ev {n : Nat} (hn : 5 < n) (b : Bool) : ev_rate_newSet n [b] = some (ub b) := by
  obtain ⟨m, rfl⟩ : ∃ m, n = m + 6 := ⟨n - 6, by omega⟩;cases b <;> rfl
theorem Fewest_ev {n : Nat} (hn : 900 < n) {lo hi : Int} (b : Bool) (h0 : -300 ≤ lo) (h1 : lo ≤ hi) (h2 : hi ≤ 300) :
    ev_rate_Fewest n 5 1 8 10 3 [(4, 6)] lo hi [b] = some (match fewF (ub b) lo hi with | some v => ((v : Int), 0) | none => (0, 7)) := by
  obtain ⟨s', e1, _⟩ := fewest_ev (n := n) (by omega) (ub_or b) h0 (show lo ≤ 300 by omega) (hi := hi) tinv_nil;unfold ev_rate_Fewest;rw [start_ev (by omega) b h0 h1 h2, Option.bind_some, newSet_ev (by omega)];simp only [Option.bind_some];rw [e1, Option.bind_some];cases fewF (ub b) lo hi <;> rfl
theorem Act_ev {n : Nat} (hn : 900 < n) {lo hi : Int} (b : Bool) (h0 : -300 ≤ lo) (h1 : lo ≤ hi) (h2 : hi ≤ 300) {v : Nat} (hv : v ≤ 100) (hf : fewF (ub b) lo hi = some (v + 1)) {a : Int × Int} (ha : actF v (ub b) lo hi = some a) :
    ev_rate_Act n 5 1 8 10 3 [(4, 6)] lo hi [b] = some (a.1, a.2, 0) := by
  obtain ⟨s', e1, t1⟩ := fewest_ev (n := n) (by omega) (ub_or b) h0 (show lo ≤ 300 by omega) (hi := hi) tinv_nil;obtain ⟨r, e2⟩ := act_ev hn hv (ub_or b) h0 h1 h2 t1 ha;unfold ev_rate_Act;rw [start_ev (by omega) b h0 h1 h2, Option.bind_some, newSet_ev (by omega)];simp only [Option.bind_some];rw [e1, hf];simp only [Option.bind_some];have e3 : (((v + 1 : Nat) : Int) == 0) = false := by
    rw [beq_eq_false_iff_ne]; omega
  have e4 : ((v + 1 : Nat) : Int) = (v : Int) + 1 := by omega
  rw [e3, e4, e2]
  rfl
theorem After_ev {n : Nat} (hn : 900 < n) {lo hi : Int} (b : Bool) (h0 : -300 ≤ lo) (h1 : lo ≤ hi) (h2 : hi ≤ 300) {a : Int × Int} (ha : a ∈ actsL) {e : Int × Int × Int} (he : effA (ub b) a = some e)
    (g0 : -300 ≤ lo + e.1) (g1 : hi + e.2.1 ≤ 300) {seen : Int} (s0 : lo + e.1 - 1 ≤ seen) (s1 : seen ≤ hi + e.2.1 + 1) :
    ev_rate_After n 5 1 8 10 3 [(4, 6)] lo hi [b] a.1 a.2 seen = some (max (lo + e.1) (seen - 1), min (hi + e.2.1) (seen + 1), [e.2.2 == 1], 0) := by
  obtain ⟨hb1, hb2, hb3, hb4⟩ := eff_mem (ub_or b) ha he;unfold ev_rate_After;rw [start_ev (by omega) b h0 h1 h2, Option.bind_some, newSet_ev (by omega)];simp only [Option.bind_some];rw [move_ev (by omega) (ub_or b) h0 h1 h2 ha, he];have em : (decide (-300 ≤ lo + e.1) && decide (hi + e.2.1 ≤ 300)) = true := by simp [g0, g1]
  simp only [em, Option.bind_some];rw [chk_t (i64ok (by omega) (by omega)), chk_t (i64ok (by omega) (by omega)), wi1_rate (by omega), chk_t (i64ok (by omega) (by omega)), chk_t (i64ok (by omega) (by omega))];have ew : (decide (lo + e.1 - 1 ≤ seen) && decide (seen ≤ hi + e.2.1 + 1)) = true := by simp [s0, s1]
  simp only [ew, Option.bind_some];obtain ⟨m, rfl⟩ : ∃ m, n = m + 6 := ⟨n - 6, by omega⟩;rcases hb4 with h4 | h4 <;> rw [h4] <;> rfl
theorem fewL_spec {u lo hi : Int} : ∀ (k i : Nat) {v : Nat}, fewL u lo hi (List.range' i k) = some v → i ≤ v ∧ v < i + k ∧ hi ≤ stF v u lo ∧ ∀ w, i ≤ w → w < v → ¬ hi ≤ stF w u lo := by
  intro k
  induction k with
  | zero => intro i v h; simp [fewL] at h
  | succ k ih =>
    intro i v h;rw [List.range'_succ] at h;unfold fewL at h
    by_cases hd : hi ≤ stF i u lo
    · rw [List.find?_cons_of_pos (by simpa using hd)] at h;cases h;exact ⟨by omega, by omega, hd, fun w h1 h2 => by omega⟩
    · rw [List.find?_cons_of_neg (by simpa using hd)] at h;obtain ⟨h1, h2, h3, h4⟩ := ih (i + 1) h;refine ⟨by omega, by omega, h3, fun w h5 h6 => ?_⟩
      by_cases e : w = i
      · subst e; exact hd
      · exact h4 w (by omega) h6
theorem fewL_le {u lo hi : Int} : ∀ (k i w : Nat), i ≤ w → w < i + k → hi ≤ stF w u lo → ∃ v, fewL u lo hi (List.range' i k) = some v ∧ v ≤ w := by
  intro k
  induction k with
  | zero => intro i w h1 h2; omega
  | succ k ih =>
    intro i w h1 h2 h3;rw [List.range'_succ];unfold fewL
    by_cases hd : hi ≤ stF i u lo
    · exact ⟨i, by rw [List.find?_cons_of_pos (by simpa using hd)], h1⟩
    · rw [List.find?_cons_of_neg (by simpa using hd)];have : w ≠ i := fun e => hd (e ▸ h3)
      exact ih (i + 1) w (by omega) (by omega) h3
theorem few_spec {u lo hi : Int} {v : Nat} (h : fewF u lo hi = some v) : v ≤ 6 ∧ hi ≤ stF v u lo ∧ ∀ w, w < v → ¬ hi ≤ stF w u lo := by
  obtain ⟨h1, h2, h3, h4⟩ := fewL_spec 7 0 h;exact ⟨by omega, h3, fun w hw => h4 w (by omega) hw⟩
theorem few_le {u lo hi : Int} {w : Nat} (hw : w ≤ 6) (h : hi ≤ stF w u lo) : ∃ v, fewF u lo hi = some v ∧ v ≤ w := fewL_le 7 0 w (by omega) (by omega) h
theorem fold_pick {s : Int → Int → Int} {u r H : Int} : ∀ (l : List (Int × Int)) (x : Int), H ≤ l.foldl (stepS s u r) x → H ≤ x ∨ ∃ a ∈ l, ∃ b, effA u a = some b ∧ -300 ≤ r + b.1 ∧ r + b.1 ≤ 300 ∧ H ≤ min (imR (s b.2.2) 2 300 (300 - (r + b.1)).toNat - b.2.1) 300
  | [], x, h => .inl h
  | a :: l, x, h => by
    rw [List.foldl_cons] at h;rcases fold_pick l _ h with h1 | ⟨a', ha', h2⟩
    · unfold stepS at h1
      cases he : effA u a with
      | none => rw [he] at h1; exact .inl h1
      | some b =>
        rw [he] at h1;simp only [addI] at h1
        split at h1
        · rename_i q
          by_cases c : H ≤ x
          · exact .inl c
          · exact .inr ⟨a, List.mem_cons_self .., b, he, q.1, q.2, by omega⟩
        · exact .inl h1
    · exact .inr ⟨a', List.mem_cons_of_mem _ ha', h2⟩
theorem fold_ge {s : Int → Int → Int} {u r : Int} : ∀ (l : List (Int × Int)) (x : Int), x ≤ l.foldl (stepS s u r) x
  | [], x => Int.le_refl x
  | a :: l, x => by
    rw [List.foldl_cons];refine Int.le_trans ?_ (fold_ge l _);unfold stepS
    split
    · unfold addI; split <;> omega
    · exact Int.le_refl x
theorem fold_put {s : Int → Int → Int} {u r : Int} {a : Int × Int} {b : Int × Int × Int} (he : effA u a = some b) (h0 : -300 ≤ r + b.1) (h1 : r + b.1 ≤ 300) : ∀ (l : List (Int × Int)) (x : Int), a ∈ l → min (imR (s b.2.2) 2 300 (300 - (r + b.1)).toNat - b.2.1) 300 ≤ l.foldl (stepS s u r) x
  | [], x, h => absurd h (by simp)
  | c :: l, x, h => by
    rw [List.foldl_cons];rcases List.mem_cons.1 h with rfl | h
    · refine Int.le_trans ?_ (fold_ge l _);unfold stepS;rw [he];simp only [addI];rw [if_pos ⟨h0, h1⟩]
      omega
    · exact fold_put he h0 h1 l _ h
def MonoS (st : Int → Int) : Prop := ∀ r r' H : Int, -300 ≤ r → r ≤ r' → r' ≤ H → H ≤ 300 → H ≤ st r → H ≤ st r'
theorem im_mono {st : Int → Int} (h : MonoS st) : ∀ (k k' : Nat) (M : Int), k ≤ 600 → k' ≤ k → 300 - (k' : Int) ≤ M → M ≤ 300 → M ≤ imR st 2 300 k → M ≤ imR st 2 300 k' := by
  have key : ∀ (q : Nat) (M : Int), M ≤ 300 → (300 - (q : Int) + 2 ≤ st (300 - q) → M ≤ 300 - (q : Int) + 2) → M ≤ st (300 - (q : Int)) → M ≤ imR st 2 300 q := by
    intro q M _ h1 h2
    cases q with
    | zero =>
      have e : (300 : Int) - ((0 : Nat) : Int) = 300 := by omega
      rw [e] at h1 h2;unfold imR
      split
      · rename_i c; have := h1 c; omega
      · exact h2
    | succ q =>
      have e : (300 : Int) - ((q + 1 : Nat) : Int) = 300 - ((q : Int) + 1) := by omega
      rw [e] at h1 h2;unfold imR
      split
      · rename_i c; have := h1 c; omega
      · exact h2
  intro k
  induction k with
  | zero =>
    intro k' M _ h1 _ _ h4;have : k' = 0 := by omega
    subst this; exact h4
  | succ k ih =>
    intro k' M hk h1 h2 h3 h4
    by_cases e : k' = k + 1
    · subst e; exact h4
    · unfold imR at h4
      split at h4
      · rename_i c
        by_cases q : M ≤ 300 - ((k : Int) + 1) + 2
        · have hs : M ≤ st (300 - (k' : Int)) := h (300 - ((k : Int) + 1)) (300 - k') M (by omega) (by omega) (by omega) h3 (by omega);exact key k' M h3 (fun _ => by omega) hs
        · exact ih k' M (by omega) (by omega) h2 h3 (by omega)
      · rename_i c
        have hs : M ≤ st (300 - (k' : Int)) := h (300 - ((k : Int) + 1)) (300 - k') M (by omega) (by omega) (by omega) h3 h4;exact key k' M h3 (fun _ => by omega) hs
theorem good_mono {r r' H : Int} (h0 : r ≤ r') (h1 : r' ≤ H) (h : H ≤ goodF r) : H ≤ goodF r' := by
  unfold goodF at *
  split at h <;> split <;> omega
theorem st_mono : ∀ (v : Nat) (u : Int), (u = 0 ∨ u = 1) → MonoS (stF v u) := by
  intro v
  induction v with
  | zero => intro u _ r r' H h0 h1 h2 h3 h; exact good_mono h1 h2 h
  | succ v ih =>
    intro u hu r r' H h0 h1 h2 h3 h;rcases fold_pick actsL _ h with h | ⟨a, ha, b, he, g0, g1, g2⟩
    · exact Int.le_trans (good_mono h1 h2 h) (fold_ge _ _)
    · obtain ⟨hb1, hb2, hb3, hb4⟩ := eff_mem hu ha he;have hb := im_bd v b.2.2 (300 - (r + b.1)).toNat (by omega);have hm := im_mono (ih b.2.2 hb4) (300 - (r + b.1)).toNat (300 - (r' + b.1)).toNat (H + b.2.1) (by omega) (by omega) (by omega) (by omega) (by omega);have hp := fold_put (s := stF v) he (show -300 ≤ r' + b.1 by omega) (show r' + b.1 ≤ 300 by omega) actsL (goodF r') ha;have e : stF (v + 1) u r' = actsL.foldl (stepS (stF v) u r') (goodF r') := rfl;rw [e]
      omega
theorem act_some {v : Nat} {u lo hi : Int} (hu : u = 0 ∨ u = 1) (h0 : -300 ≤ lo) (h1 : lo ≤ hi) (hf : fewF u lo hi = some (v + 1)) : ∃ a, actF v u lo hi = some a := by
  obtain ⟨h3, h4, h5⟩ := few_spec hf;rcases fold_pick actsL _ h4 with h | ⟨a, ha, b, he, g0, g1, g2⟩
  · exact absurd h (h5 0 (by omega))
  · obtain ⟨hb1, hb2, hb3, hb4⟩ := eff_mem hu ha he;have hb := im_bd v b.2.2 (300 - (lo + b.1)).toNat (by omega);have hB : actB v u lo hi a = true := by
      unfold actB;rw [he];simp only [Bool.and_eq_true, decide_eq_true_eq]
      omega
    have := List.find?_isSome (p := actB v u lo hi) (xs := actsL) |>.2 ⟨a, ha, hB⟩;exact Option.isSome_iff_exists.1 this
theorem act_spec {v : Nat} {u lo hi : Int} {a : Int × Int} (h : actF v u lo hi = some a) : a ∈ actsL ∧ ∃ b, effA u a = some b ∧ -300 ≤ lo + b.1 ∧ hi + b.2.1 ≤ 300 ∧ hi + b.2.1 ≤ imR (stF v b.2.2) 2 300 (300 - (lo + b.1)).toNat := by
  have h1 := List.find?_some h;refine ⟨List.mem_of_find?_eq_some h, ?_⟩;unfold actB at h1
  cases he : effA u a with
  | none => rw [he] at h1; cases h1
  | some b =>
    rw [he] at h1;simp only [Bool.and_eq_true, decide_eq_true_eq] at h1;exact ⟨b, rfl, h1.1.1, h1.1.2, h1.2⟩
theorem next_ok {v : Nat} {u lo hi seen : Int} (hu : u = 0 ∨ u = 1) (h0 : -300 ≤ lo) (h1 : lo ≤ hi) (h2 : hi ≤ 300) (h : hi ≤ imR (stF v u) 2 300 (300 - lo).toNat) (s0 : lo - 1 ≤ seen) (s1 : seen ≤ hi + 1) :
    min hi (seen + 1) ≤ stF v u (max lo (seen - 1)) := by
  have hw : ∀ f : Int, lo ≤ f → f ≤ max lo (hi - 2) → min hi (f + 2) ≤ stF v u f := by
    intro f h3 h4;have e : (300 : Int) - (((300 - lo).toNat : Nat) : Int) = lo := by omega
    exact im_win (by omega) (300 - lo).toNat hi h h2 f (by omega) (by omega)
  by_cases c : max lo (seen - 1) ≤ max lo (hi - 2)
  · have := hw (max lo (seen - 1)) (by omega) c
    omega
  · have h3 := hw (max lo (hi - 2)) (by omega) (by omega);exact st_mono v u hu (max lo (hi - 2)) (max lo (seen - 1)) (min hi (seen + 1)) (by omega) (by omega) (by omega) (by omega) (by omega)
theorem few_ex : fewF 0 8 18 = some 2 := by decide +kernel
theorem act_ex : actF 1 0 8 18 = some (-2, -1) := by decide +kernel
theorem pubRate_ev {n : Nat} (hn : 900 < n) : ev_top_pubRate n = some true := by
  have e1 : ev_top_pubSpan n 8 18 = some (8, 18) := rfl;have e2 : ev_top_pubNut n = some (5, 1, 8, 10, 3, [(4, 6)]) := rfl;unfold ev_top_pubRate;rw [e1, e2];simp only [Option.bind_some];rw [Fewest_ev hn false (by omega) (by omega) (by omega), Act_ev hn false (by omega) (by omega) (by omega) (v := 1) (by omega) few_ex act_ex];have e3 : fewF (ub false) 8 18 = some 2 := few_ex;rw [e3]
  rfl
end Go.Proofs.Ythgbjhglhejalaa.Sy
