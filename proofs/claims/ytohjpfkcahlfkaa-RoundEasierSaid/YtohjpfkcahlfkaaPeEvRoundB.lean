/- Rounds: the program's search finds the first of the quickest rounds. -/
import Derived.Test.YtohjpfkcahlfkaaPeEvRoundO
import Derived.Test.YtohjpfkcahlfkaaPeEvRoundS
import Derived.Test.YtohjpfkcahlfkaaPeGRoundB
set_option linter.unusedSimpArgs false
set_option linter.unusedVariables false
namespace Go.Proofs.Ytohjpfkcahlfkaa.Sy
open Go.RowKit
set_option maxRecDepth 100000
def canP (goal : Int) (σ : Wk) (r : Bool) (s : Int) : Prop := (s = -1 ∧ r = false) ∨ (0 ≤ s ∧ hasP goal s = true ∧ hasP σ.wo s = false)
def candP (t : List Tw) (w : List (List Int)) (rest : Int) (wd : Wd) (goal : Int) : Bool → Wk → List Int → Int → Prop
  | _, σ, [], m => σ.wo = goal ∧ (homeP t w wd σ).1 = 0 ∧ m = (homeP t w wd σ).2.min
  | r, σ, s :: l, m => canP goal σ r s ∧ (stepP t w rest wd σ s).1 = 0 ∧ candP t w rest wd goal (s == -1) (stepP t w rest wd σ s).2 l m
def freeP (s : Int) : Nat := ((List.range 8).filter fun i => !Nat.testBit s.toNat i).length
theorem free_all : ((List.range 256).all fun s => (List.range 8).all fun i => Nat.testBit s i || decide (freeP (withP (s : Int) (i : Int)) + 1 = freeP (s : Int))) = true := by decide +kernel
theorem free_with {s i : Int} (hs : 0 ≤ s ∧ s < 256) (hi : 0 ≤ i ∧ i < 8) (h : hasP s i = false) : freeP (withP s i) + 1 = freeP s := by
  obtain ⟨a, rfl⟩ : ∃ a : Nat, s = a := ⟨s.toNat, by omega⟩;obtain ⟨b, rfl⟩ : ∃ b : Nat, i = b := ⟨i.toNat, by omega⟩;have h1 := List.all_eq_true.1 (List.all_eq_true.1 free_all a (List.mem_range.2 (by omega))) b (List.mem_range.2 (by omega));unfold hasP at h;rw [Int.toNat_natCast, Int.toNat_natCast] at h;rw [h, Bool.false_or] at h1;exact of_decide_eq_true h1
def measP (σ : Wk) (r : Bool) : Nat := 2 * freeP σ.wo + if r = true then 0 else 1
def stB : Bo → List Int × Int × Bool
  | none => ([], 0, false)
  | some x => (x.1, x.2, true)
section
variable {t : List Tw} {w : List (List Int)} {g : List Wd} {rest wage : Int} (h : OkR t w g rest wage) {wd : Wd} (hw : wd ∈ g)
theorem step_wo {σ : Wk} {s : Int} (h0 : (stepP t w rest wd σ s).1 = 0) : (s = -1 ∧ (stepP t w rest wd σ s).2.wo = σ.wo) ∨ (0 ≤ s ∧ s < t.length ∧ hasP σ.wo s = false ∧ (stepP t w rest wd σ s).2.wo = withP σ.wo s) := by
  unfold stepP at h0 ⊢
  by_cases h1 : s = -1
  · rw [if_pos h1]; exact .inl ⟨h1, rfl⟩
  · rw [if_neg h1] at h0 ⊢
    by_cases h2 : 0 ≤ s ∧ s < t.length
    · rw [if_pos h2] at h0 ⊢
      by_cases h3 : hasP σ.wo s = true
      · rw [if_pos h3] at h0; simp at h0
      · rw [if_neg h3] at h0 ⊢
        by_cases h4 : bitK .u16 .andNot (towP t s).2.2.1 wd.1 ≠ 0
        · rw [if_pos h4] at h0; simp at h0
        · rw [if_neg h4] at h0 ⊢
          by_cases h5 : wd.2.1 < σ.oil + (towP t s).2.2.2.1
          · rw [if_pos h5] at h0; simp at h0
          · rw [if_neg h5];exact .inr ⟨h2.1, h2.2, by simpa using h3, rfl⟩
    · rw [if_neg h2] at h0; simp at h0
include h hw in
theorem cand_min {goal : Int} : ∀ (l : List Int) (r : Bool) (σ : Wk) (m : Int), OkW t σ → candP t w rest wd goal r σ l m → σ.min ≤ m
  | [], r, σ, m, hσ, hc => by
    obtain ⟨_, h0, rfl⟩ := hc;exact (home_ok h hw hσ h0).1
  | s :: l, r, σ, m, hσ, hc => by
    obtain ⟨_, h0, hc⟩ := hc;obtain ⟨h1, h2⟩ := step_ok h hw hσ h0;have := cand_min l _ _ m h1 hc
    omega
include h in
theorem meas_step {goal : Int} {σ : Wk} (hσ : OkW t σ) {r : Bool} {s : Int} (hc : canP goal σ r s) (h0 : (stepP t w rest wd σ s).1 = 0) : measP (stepP t w rest wd σ s).2 (s == -1) < measP σ r := by
  have ht := h.tn;rcases step_wo h0 with ⟨e, hwo⟩ | ⟨h1, h2, h3, hwo⟩
  · have hr : r = false := by
      rcases hc with ⟨_, hr⟩ | ⟨hs, _⟩
      · exact hr
      · omega
    unfold measP;rw [hwo, e, hr];simp
  · have := free_with hσ.wo (i := s) (by omega) h3;have e : (s == -1) = false := by simp; omega
    unfold measP;rw [hwo, e];have : (if r = true then 0 else 1 : Nat) ≤ 1 := by split <;> omega
    have e2 : (if false = true then 0 else 1 : Nat) = 1 := rfl;rw [e2]
    omega
def TryOk (t : List Tw) (w : List (List Int)) (g : List Wd) (rest wage : Int) (wd : Wd) (goal : Int) (n : Nat) (σ : Wk) (r : Bool) (pre : List Int) : Prop :=
  ∀ acc, ∃ res, ev_p_round_search_try n goal (stB acc).1 (stB acc).2.1 (stB acc).2.2 t w g rest wage wd.1 wd.2.1 wd.2.2.1 wd.2.2.2 σ.pl σ.wo σ.oil σ.run σ.min pre = some (goal, (stB res).1, (stB res).2.1, (stB res).2.2) ∧
    Ext (fun l m => ∃ s, l = pre ++ s ∧ candP t w rest wd goal r σ s m) acc res
include h hw in
theorem try_head {goal : Int} (hgoal : 0 ≤ goal ∧ goal < 256) {n : Nat} (hn : 20 < n) {σ : Wk} (hσ : OkW t σ) {r : Bool} {pre : List Int} (hpre : pre.length ≤ 1000)
    (hself : ∀ s, canP goal σ r s → (stepP t w rest wd σ s).1 = 0 → TryOk t w g rest wage wd goal n (stepP t w rest wd σ s).2 (s == -1) (pre ++ [s]))
    (m : Nat) {i : Int} (hi : -1 ≤ i ∧ i < t.length) (acc : Bo) :
    ∃ r1, ev_p_round_search_try_l4 n r (ev_p_round_search_try n) (m + 1) i goal (stB acc).2.1 (stB acc).2.2 pre rest wage wd.1 wd.2.1 wd.2.2.1 wd.2.2.2 σ.pl σ.wo σ.oil σ.run σ.min (stB acc).1 t w g
      = ev_p_round_search_try_l4 n r (ev_p_round_search_try n) m (i + 1) goal (stB r1).2.1 (stB r1).2.2 pre rest wage wd.1 wd.2.1 wd.2.2.1 wd.2.2.2 σ.pl σ.wo σ.oil σ.run σ.min (stB r1).1 t w g
      ∧ Ext (fun l m => ∃ l', l = pre ++ i :: l' ∧ candP t w rest wd goal r σ (i :: l') m) acc r1 := by
  have ht := h.tn;have h64 : in64 (i + 1) = true := in64_of (by omega);have hj5 : canP goal σ r i → ∃ r1, ev_p_round_search_try_j5 n t w g rest wage wd.1 wd.2.1 wd.2.2.1 wd.2.2.2 σ.pl σ.wo σ.oil σ.run σ.min i pre goal (stB acc).1 (stB acc).2.1 (stB acc).2.2 (ev_p_round_search_try n) (fun i78q i79q i80q b81q l82q i83q i84q i85q i86q i87q i88q i89q i90q i91q i92q i93q l94q l95q l96q l97q => ev_p_round_search_try_l4 n r (ev_p_round_search_try n) m i78q i79q i80q b81q l82q i83q i84q i85q i86q i87q i88q i89q i90q i91q i92q i93q l94q l95q l96q l97q)
      = ev_p_round_search_try_l4 n r (ev_p_round_search_try n) m (i + 1) goal (stB r1).2.1 (stB r1).2.2 pre rest wage wd.1 wd.2.1 wd.2.2.1 wd.2.2.2 σ.pl σ.wo σ.oil σ.run σ.min (stB r1).1 t w g
      ∧ Ext (fun l m => ∃ l', l = pre ++ i :: l' ∧ candP t w rest wd goal r σ (i :: l') m) acc r1 := fun hc => by
    rw [ev_p_round_search_try_j5, bind_of (step_ev h hw (by omega) hσ i), cond_if]
    by_cases h0 : (stepP t w rest wd σ i).1 = 0
    · obtain ⟨r1, e, hext⟩ := hself i hc h0 acc;have hclip : ev_slices_Clip_Lint_int n pre = some pre := rfl;rw [if_pos (by simpa using h0), bind_of hclip, chk_of (by rfl), chk_of (room_iff.2 (by simp; omega))];dsimp only;rw [bind_of e, chk_of h64];refine ⟨r1, rfl, hext.congr fun l m => ⟨?_, ?_⟩⟩
      · rintro ⟨s, rfl, hs⟩
        exact ⟨s, by rw [List.append_assoc]; rfl, hc, h0, hs⟩
      · rintro ⟨s, rfl, _, _, hs⟩
        exact ⟨s, by rw [List.append_assoc]; rfl, hs⟩
    · rw [if_neg (by simpa using h0), chk_of h64];exact ⟨acc, rfl, Ext.none fun l m ⟨l', _, _, h1, _⟩ => h0 h1⟩
  have hno : ¬ canP goal σ r i → Ext (fun l m => ∃ l', l = pre ++ i :: l' ∧ candP t w rest wd goal r σ (i :: l') m) acc acc := fun hn => Ext.none fun l m ⟨l', _, hc, _⟩ => hn hc
  rw [ev_p_round_search_try_l4, cond_if, if_pos (decide_eq_true hi.2), cond_if]
  by_cases h1 : i = -1
  · rw [if_pos (by simpa using h1), cond_if]
    by_cases hr : r = true
    · rw [if_pos hr, chk_of h64];refine ⟨acc, rfl, hno ?_⟩
      rintro (⟨_, e⟩ | ⟨e, _⟩)
      · rw [hr] at e; cases e
      · omega
    · rw [if_neg hr, cond_if, if_neg (by simpa using h1)];exact hj5 (.inl ⟨h1, by simpa using hr⟩)
  · rw [if_neg (by simpa using h1), cond_if, if_pos (by simpa using h1), bind_of (has_ev hgoal (by omega)), cond_if]
    by_cases h2 : hasP goal i = true
    · rw [if_neg (by simp [h2]), bind_of (has_ev hσ.wo (by omega)), cond_if]
      by_cases h3 : hasP σ.wo i = true
      · rw [if_pos h3, chk_of h64];refine ⟨acc, rfl, hno ?_⟩
        rintro (⟨e, _⟩ | ⟨_, _, e⟩)
        · exact h1 e
        · rw [h3] at e; cases e
      · rw [if_neg h3];exact hj5 (.inr ⟨by omega, h2, by simpa using h3⟩)
    · rw [if_pos (by simpa using h2), chk_of h64];refine ⟨acc, rfl, hno ?_⟩
      rintro (⟨e, _⟩ | ⟨_, e, _⟩)
      · exact h1 e
      · exact h2 e
include h hw in
theorem try_loop {goal : Int} (hgoal : 0 ≤ goal ∧ goal < 256) {n : Nat} (hn : 20 < n) {σ : Wk} (hσ : OkW t σ) {r : Bool} {pre : List Int} (hpre : pre.length ≤ 1000)
    (hself : ∀ s, canP goal σ r s → (stepP t w rest wd σ s).1 = 0 → TryOk t w g rest wage wd goal n (stepP t w rest wd σ s).2 (s == -1) (pre ++ [s])) :
    ∀ (k m : Nat) (i : Int) (acc : Bo), i + k = t.length → k < m → -1 ≤ i →
    ∃ res, ev_p_round_search_try_l4 n r (ev_p_round_search_try n) m i goal (stB acc).2.1 (stB acc).2.2 pre rest wage wd.1 wd.2.1 wd.2.2.1 wd.2.2.2 σ.pl σ.wo σ.oil σ.run σ.min (stB acc).1 t w g = some (goal, (stB res).1, (stB res).2.1, (stB res).2.2)
      ∧ Ext (fun l m => ∃ s l', l = pre ++ s :: l' ∧ i ≤ s ∧ candP t w rest wd goal r σ (s :: l') m) acc res := by
  intro k
  induction k with
  | zero =>
    intro m i acc hi hm h1;obtain ⟨m, rfl⟩ : ∃ m', m = m' + 1 := ⟨m - 1, by omega⟩;refine ⟨acc, ?_, Ext.none fun l m ⟨s, l', _, hs, _, h0, _⟩ => ?_⟩
    · rw [ev_p_round_search_try_l4, cond_if, if_neg (by simp; omega)]
    · have ht := h.tn;rcases step_wo h0 with ⟨e, _⟩ | ⟨_, e, _⟩ <;> omega
  | succ k ih =>
    intro m i acc hi hm h1;obtain ⟨m, rfl⟩ : ∃ m', m = m' + 1 := ⟨m - 1, by omega⟩;obtain ⟨r1, e1, x1⟩ := try_head h hw hgoal hn hσ hpre hself m (i := i) (by omega) acc;obtain ⟨res, e2, x2⟩ := ih m (i + 1) r1 (by omega) (by omega) (by omega);refine ⟨res, e1.trans e2, (x1.comp x2 ?_).congr fun l m => ⟨?_, ?_⟩⟩
    · rintro l1 m1 l2 m2 ⟨l', rfl, _⟩ ⟨s, l'', rfl, hs, _⟩
      exact lx_lt (show i < s by omega) pre l' l''
    · rintro (⟨l', rfl, hc⟩ | ⟨s, l', rfl, hs, hc⟩)
      · exact ⟨i, l', rfl, Int.le_refl _, hc⟩
      · exact ⟨s, l', rfl, by omega, hc⟩
    · rintro ⟨s, l', rfl, hs, hc⟩
      by_cases e : i = s
      · subst e; exact .inl ⟨l', rfl, hc⟩
      · exact .inr ⟨s, l', rfl, by omega, hc⟩
include h hw in
theorem try_ok {goal : Int} (hgoal : 0 ≤ goal ∧ goal < 256) : ∀ (n : Nat) (σ : Wk) (r : Bool) (pre : List Int), measP σ r + 30 < n → OkW t σ → (pre = [] ∧ r = false ∨ ∃ p x, pre = p ++ [x] ∧ r = (x == -1)) → pre.length + measP σ r ≤ 1000 → TryOk t w g rest wage wd goal n σ r pre := by
  intro n
  induction n with
  | zero => intro σ r pre h1; omega
  | succ n ih =>
    intro σ r pre hm hσ hr hlen acc;have hself : ∀ s, canP goal σ r s → (stepP t w rest wd σ s).1 = 0 → TryOk t w g rest wage wd goal n (stepP t w rest wd σ s).2 (s == -1) (pre ++ [s]) := fun s hc h0 => by
      have := meas_step h hσ hc h0;exact ih _ _ _ (by omega) (step_ok h hw hσ h0).1 (.inr ⟨pre, s, rfl, rfl⟩) (by rw [List.length_append]; simp; omega)
    have ht := h.tn
    -- behind the node itself
    have hj2 : ∀ a, ∃ res, ev_p_round_search_try_j2 n (ev_p_round_search_try n) goal (stB a).2.1 (stB a).2.2 pre rest wage wd.1 wd.2.1 wd.2.2.1 wd.2.2.2 σ.pl σ.wo σ.oil σ.run σ.min (stB a).1 t w g = some (goal, (stB res).1, (stB res).2.1, (stB res).2.2)
        ∧ Ext (fun l m => ∃ s l', l = pre ++ s :: l' ∧ -1 ≤ s ∧ candP t w rest wd goal r σ (s :: l') m) a res := fun a => by
      obtain ⟨res, e, x⟩ := try_loop h hw hgoal (by omega) hσ (by omega) hself (t.length + 1) n (-1) a (by omega) (by omega) (by omega);refine ⟨res, ?_, x⟩;rcases hr with ⟨rfl, rfl⟩ | ⟨p, y, rfl, rfl⟩
      · rw [ev_p_round_search_try_j2, cond_if, if_neg (by simp), ev_p_round_search_try_j3];exact e
      · rw [ev_p_round_search_try_j2, cond_if, if_pos (by simp), chk_of (in64_of (by simp at hlen ⊢; omega)), idx_of (x := y) (by simp) (by simp), ev_p_round_search_try_j3];exact e
    have hall : ∀ a1, Ext (fun l m => l = pre ∧ candP t w rest wd goal r σ [] m) acc a1 → ∃ res, ev_p_round_search_try_j2 n (ev_p_round_search_try n) goal (stB a1).2.1 (stB a1).2.2 pre rest wage wd.1 wd.2.1 wd.2.2.1 wd.2.2.2 σ.pl σ.wo σ.oil σ.run σ.min (stB a1).1 t w g = some (goal, (stB res).1, (stB res).2.1, (stB res).2.2)
        ∧ Ext (fun l m => ∃ s, l = pre ++ s ∧ candP t w rest wd goal r σ s m) acc res := fun a1 x1 => by
      obtain ⟨res, e, x2⟩ := hj2 a1;refine ⟨res, e, (x1.comp x2 ?_).congr fun l m => ⟨?_, ?_⟩⟩
      · rintro l1 m1 l2 m2 ⟨rfl, _⟩ ⟨s, l', rfl, _⟩
        exact lx_ext _ _
      · rintro (⟨rfl, hc⟩ | ⟨s, l', rfl, _, hc⟩)
        · exact ⟨[], by rw [List.append_nil], hc⟩
        · exact ⟨s :: l', rfl, hc⟩
      · rintro ⟨s, rfl, hc⟩
        cases s with
        | nil => exact .inl ⟨by rw [List.append_nil], hc⟩
        | cons s l' =>
          refine .inr ⟨s, l', rfl, ?_, hc⟩;rcases hc.1 with ⟨e, _⟩ | ⟨e, _⟩ <;> omega
    have hj0 : ∃ res, ev_p_round_search_try_j0 n σ.wo goal t w g rest wage wd.1 wd.2.1 wd.2.2.1 wd.2.2.2 σ.pl σ.oil σ.run σ.min (stB acc).2.2 (stB acc).2.1 pre (stB acc).1 (ev_p_round_search_try n) = some (goal, (stB res).1, (stB res).2.1, (stB res).2.2)
        ∧ Ext (fun l m => ∃ s, l = pre ++ s ∧ candP t w rest wd goal r σ s m) acc res := by
      rw [ev_p_round_search_try_j0, cond_if]
      by_cases hg : σ.wo = goal
      · rw [if_pos (by simpa using hg), bind_of (home_ev h hσ), cond_if]
        by_cases h0 : (homeP t w wd σ).1 = 0
        · rw [if_pos (by simpa using h0), cond_if];have hcl : ev_slices_Clone_Lint_int n pre = some pre := by
            rw [ev_slices_Clone_Lint_int, chk_of (room_iff.2 (by simp; omega))]; rfl
          have hcand : candP t w rest wd goal r σ [] (homeP t w wd σ).2.min := ⟨hg, h0, rfl⟩;have huniq : ∀ m, candP t w rest wd goal r σ [] m → m = (homeP t w wd σ).2.min := fun m hc => hc.2.2
          have htake : (∀ l0 m0, acc = some (l0, m0) → (homeP t w wd σ).2.min < m0) → Ext (fun l m => l = pre ∧ candP t w rest wd goal r σ [] m) acc (some (pre, (homeP t w wd σ).2.min)) := fun hlt => by
            refine .inr ⟨pre, _, rfl, ⟨rfl, hcand⟩, hlt, fun l' m' ⟨e1, hc⟩ => ?_⟩;rw [e1, huniq m' hc];exact .inr ⟨rfl, lx_irr _⟩
          cases hacc : acc with
          | none =>
            obtain ⟨res, e, x⟩ := hall (some (pre, (homeP t w wd σ).2.min)) (htake (fun l0 m0 e => by rw [hacc] at e; cases e));rw [hacc] at x;refine ⟨res, ?_, x⟩;rw [if_pos (by rfl), ev_p_round_search_try_j1, bind_of hcl];exact e
          | some a =>
            obtain ⟨l0, m0⟩ := a;rw [if_neg (by simp [stB]), cond_if]
            by_cases hlt : (homeP t w wd σ).2.min < m0
            · obtain ⟨res, e, x⟩ := hall (some (pre, (homeP t w wd σ).2.min)) (htake (fun l1 m1 e => by rw [hacc] at e; cases e; exact hlt));rw [hacc] at x;refine ⟨res, ?_, x⟩;show (if decide ((homeP t w wd σ).2.min < m0) = true then _ else _) = _;rw [if_pos (decide_eq_true hlt), ev_p_round_search_try_j1, bind_of hcl];exact e
            · obtain ⟨res, e, x⟩ := hall acc (by
                rw [hacc];exact Ext.prune fun l m ⟨_, hc⟩ => by rw [huniq m hc]; omega)
              rw [hacc] at x e;refine ⟨res, ?_, x⟩;show (if decide ((homeP t w wd σ).2.min < m0) = true then _ else _) = _;rw [if_neg (fun e => hlt (of_decide_eq_true e)), ev_p_round_search_try_j6];exact e
        · obtain ⟨res, e, x⟩ := hall acc (Ext.none fun l m ⟨_, hc⟩ => h0 hc.2.1);refine ⟨res, ?_, x⟩;rw [if_neg (by simpa using h0), ev_p_round_search_try_j6];exact e
      · obtain ⟨res, e, x⟩ := hall acc (Ext.none fun l m ⟨_, hc⟩ => hg hc.1);refine ⟨res, ?_, x⟩;rw [if_neg (by simpa using hg)];exact e
    rw [ev_p_round_search_try]
    cases hacc : acc with
    | none =>
      rw [hacc] at hj0;exact hj0
    | some a =>
      rw [hacc] at hj0;obtain ⟨l0, m0⟩ := a
      by_cases hp : m0 ≤ σ.min
      · refine ⟨some (l0, m0), ?_, Ext.prune fun l m ⟨s, _, hc⟩ => ?_⟩
        · rw [cond_if, if_pos (show (stB (some (l0, m0))).2.2 = true from rfl), cond_if, if_pos (decide_eq_true (show (stB (some (l0, m0))).2.1 ≤ σ.min from hp))]
        · have := cand_min h hw s r σ m hσ hc; omega
      · obtain ⟨res, e, x⟩ := hj0;refine ⟨res, ?_, x⟩;rw [cond_if, if_pos (show (stB (some (l0, m0))).2.2 = true from rfl), cond_if, if_neg (fun e : decide ((stB (some (l0, m0))).2.1 ≤ σ.min) = true => hp (of_decide_eq_true e))];exact e
end
end Go.Proofs.Ytohjpfkcahlfkaa.Sy
