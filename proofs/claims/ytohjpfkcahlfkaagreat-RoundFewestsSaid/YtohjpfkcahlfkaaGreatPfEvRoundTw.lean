/- Rounds: the document's error of towers, and its best round. -/
import Derived.Test.YtohjpfkcahlfkaaGreatPfEvRoundY
set_option linter.unusedSimpArgs false
set_option linter.unusedVariables false
namespace Go.Proofs.YtohjpfkcahlfkaaGreat.Sy
open Go.RowKit
set_option maxRecDepth 100000
section
variable {t : List Tw} {w : List (List Int)} {g : List Wd} {rest wage : Int}
theorem refTowers_ev (ht : t.length ≤ 8) {l : List Int} (hl : l.length ≤ 100) : ev_ref11_Towers 2200 t w g rest wage l = some (towersP t.length l) := by
  have l2 : ∀ (i : Nat) (hi : i < l.length) (k1 : Int → Option Int) (k m c : Nat), c + k = i → k < m → ev_ref11_Towers_l2 2200 (i : Int) l k1 m (c : Int) = if l[i] ∈ (l.take i).drop c then some 6 else k1 ((i + 1 : Nat) : Int) := by
    intro i hi k1 k
    induction k with
    | zero =>
      intro m c hc hm;obtain ⟨m, rfl⟩ : ∃ m', m = m' + 1 := ⟨m - 1, by omega⟩;rw [ev_ref11_Towers_l2, cond_if, if_neg (by simp; omega), chk_of (in64_of (by omega)), if_neg]
      · rfl
      · rw [List.drop_eq_nil_of_le (by rw [List.length_take]; omega)]; simp
    | succ k ih =>
      intro m c hc hm;obtain ⟨m, rfl⟩ : ∃ m', m = m' + 1 := ⟨m - 1, by omega⟩;have hlt : c < l.length := by omega
      have hlt2 : c < (l.take i).length := by rw [List.length_take]; omega
      have e : (l.take i).drop c = l[c] :: (l.take i).drop (c + 1) := by
        rw [List.drop_eq_getElem_cons hlt2, List.getElem_take]
      rw [ev_ref11_Towers_l2, cond_if, if_pos (decide_eq_true (by omega)), idx_nat (List.getElem?_eq_getElem hi), idx_nat (List.getElem?_eq_getElem hlt), cond_if]
      by_cases h1 : l[i] = l[c]
      · rw [if_pos (by simpa using h1), if_pos];rw [e, h1]; exact List.Mem.head _
      · rw [if_neg (by simpa using h1), chk_of (in64_of (by omega))];refine (ih m (c + 1) (by omega) (by omega)).trans ?_
        by_cases h2 : l[i] ∈ (l.take i).drop (c + 1)
        · rw [if_pos h2, if_pos];rw [e]; exact List.mem_cons_of_mem _ h2
        · rw [if_neg h2, if_neg];rw [e];exact fun hm => (List.mem_cons.1 hm).elim h1 h2
  have l1 : ∀ (k m i : Nat), i + k = l.length → k < m → (l.take i).Nodup → ev_ref11_Towers_l1 2200 l m (i : Int) = some (if l.Nodup then 0 else 6) := by
    intro k
    induction k with
    | zero =>
      intro m i hi hm hn;obtain ⟨m, rfl⟩ : ∃ m', m = m' + 1 := ⟨m - 1, by omega⟩;rw [List.take_of_length_le (by omega)] at hn;rw [ev_ref11_Towers_l1, cond_if, if_neg (by simp; omega), if_pos hn]
    | succ k ih =>
      intro m i hi hm hn;obtain ⟨m, rfl⟩ : ∃ m', m = m' + 1 := ⟨m - 1, by omega⟩;have hlt : i < l.length := by omega
      have h2 := l2 i hlt (fun i10q => ev_ref11_Towers_l1 2200 l m i10q) i 2200 0 (by omega) (by omega);rw [List.drop_zero, show ((0 : Nat) : Int) = 0 from rfl] at h2;rw [ev_ref11_Towers_l1, cond_if, if_pos (decide_eq_true (by omega)), h2]
      by_cases h3 : l[i] ∈ l.take i
      · rw [if_pos h3, if_neg];intro hnd;obtain ⟨j, hj⟩ := List.getElem?_of_mem h3;rw [List.getElem?_take] at hj
        split at hj
        · rename_i hjc
          have hjl : j < l.length := by omega
          rw [List.getElem?_eq_getElem hjl] at hj;exact (List.pairwise_iff_getElem.1 hnd j i hjl hlt hjc) (Option.some.inj hj)
        · cases hj
      · rw [if_neg h3];refine ih m (i + 1) (by omega) (by omega) ?_;rw [List.take_succ_eq_append_getElem hlt, List.nodup_append];refine ⟨hn, by simp, fun a ha b hb e => ?_⟩;rw [List.mem_singleton] at hb;exact h3 (by rw [← hb, ← e]; exact ha)
  have l0 : ∀ (k m i : Nat), i + k = l.length → k < m → ev_ref11_Towers_l0 2200 l t m (i : Int) = some (if (∀ x ∈ l.drop i, 0 ≤ x ∧ x < t.length) then (if l.Nodup then 0 else 6) else 2) := by
    intro k
    induction k with
    | zero =>
      intro m i hi hm;obtain ⟨m, rfl⟩ : ∃ m', m = m' + 1 := ⟨m - 1, by omega⟩;rw [ev_ref11_Towers_l0, cond_if, if_neg (by simp; omega), if_pos (by rw [List.drop_eq_nil_of_le (by omega)]; simp)];exact l1 l.length 2200 0 (by omega) (by omega) (by simp)
    | succ k ih =>
      intro m i hi hm;obtain ⟨m, rfl⟩ : ∃ m', m = m' + 1 := ⟨m - 1, by omega⟩;have hlt : i < l.length := by omega
      rw [ev_ref11_Towers_l0, cond_if, if_pos (decide_eq_true (by omega)), idx_nat (List.getElem?_eq_getElem hlt), chk_of (in64_of (by omega)), in_ev, Option.bind_some, cond_if]
      by_cases hb : btw 0 ((t.length : Int) - 1) l[i] = true
      · have hb2 := btw_iff.1 hb;rw [if_neg (by simp [hb]), chk_of (in64_of (by omega))];refine (ih m (i + 1) (by omega) (by omega)).trans ?_;have e : (∀ x ∈ l.drop i, 0 ≤ x ∧ x < t.length) ↔ (∀ x ∈ l.drop (i + 1), 0 ≤ x ∧ x < t.length) := by
          rw [List.drop_eq_getElem_cons hlt]
          constructor
          · exact fun hh x hx => hh x (List.mem_cons_of_mem _ hx)
          · intro hh x hx;rcases List.mem_cons.1 hx with rfl | hx
            · omega
            · exact hh x hx
        by_cases h4 : ∀ x ∈ l.drop (i + 1), 0 ≤ x ∧ x < t.length
        · rw [if_pos h4, if_pos (e.2 h4)]
        · rw [if_neg h4, if_neg (fun hh => h4 (e.1 hh))]
      · rw [if_pos (by simpa using hb), if_neg];intro hh;have := hh l[i] (by rw [List.drop_eq_getElem_cons hlt]; exact List.Mem.head _);exact hb (btw_iff.2 (by omega))
  have h0 := l0 l.length 2200 0 (by omega) (by omega);rw [List.drop_zero, show ((0 : Nat) : Int) = 0 from rfl] at h0;rw [ev_ref11_Towers, cond_if, towersP]
  by_cases h1 : 5 < l.length
  · rw [if_pos (decide_eq_true (by omega)), if_pos h1]
  · rw [if_neg (by simp; omega), if_neg h1, h0]
    by_cases h2 : inB t.length l = true
    · have h2' := inB_iff.1 h2;have h3 := twice_iff l 0 fun x hx => (h2' x hx).1
      rw [if_pos h2', if_pos h2]
      by_cases h4 : l.Nodup
      · have := h3.2 ⟨h4, fun x _ => hasP_zero x⟩;rw [if_pos h4, if_neg (by rw [this]; simp)]
      · rw [if_neg h4, if_pos];cases h5 : twiceB 0 l
        · exact absurd (h3.1 h5).1 h4
        · rfl
    · rw [if_neg h2, if_neg (fun hh => h2 (inB_iff.2 hh))]
theorem refBest_ev (h : OkR t w g rest wage) {x : Int} {wd : Wd} (hwd : g[x.toNat]? = some wd) {l : List Int} (hl : towersP t.length l = 0) :
    ∃ res, ev_ref11_Best 2200 t w g rest wage wd.1 wd.2.1 wd.2.2.1 wd.2.2.2 l = some (stB res) ∧ Bst (fun s m => candP t w rest wd (setP 0 l) false (beginP t) s m) res := by
  have ht := h.tn;obtain ⟨l5, lr, ln⟩ := towers_iff.1 hl;have h8 : ∀ s ∈ l, 0 ≤ s ∧ s < 8 := fun s hs => by have := lr s hs; omega
  have hgoal := setP_ok l 0 (by decide) h8;have hT : RemT (setP 0 l) (beginP t) l := ⟨ln, h8, fun k k0 k8 => by
    rw [has_setP l 0 k k0 fun y hy => (h8 y hy).1, show (beginP t).wo = 0 from rfl, hasP_zero];simp, fun k k0 k8 hk => by rw [show (beginP t).wo = 0 from rfl, hasP_zero] at hk; cases hk⟩
  obtain ⟨res, e, hb⟩ := ref_ok h (List.mem_of_getElem? hwd) hgoal 2200 (beginP t) [] l (by omega) begin_ok hT (by omega) (by simp; omega);refine ⟨res, ?_, hb.congr fun s m => ⟨?_, fun hc => ⟨s, rfl, hc⟩⟩⟩
  · have hbg : ev_ref11_Begin 2200 t w g rest wage = some ((t.length : Int), false, false, false, false, false, false, false, false, 0, 0, 0) := rfl;simp only [show (beginP t).wo = 0 from rfl, hasP_zero] at e;rw [ev_ref11_Best, bind_of hbg];refine (bind_of e).trans ?_
    rfl
  · rintro ⟨s', rfl, hc⟩; exact hc
end
end Go.Proofs.YtohjpfkcahlfkaaGreat.Sy
