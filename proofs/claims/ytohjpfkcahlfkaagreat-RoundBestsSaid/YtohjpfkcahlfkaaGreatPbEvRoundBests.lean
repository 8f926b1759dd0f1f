/- RoundBests: the quickest round of any winder to any towers is what the document says. -/
import Derived.Test.YtohjpfkcahlfkaaGreatPbEvRoundY
import Derived.Test.YtohjpfkcahlfkaaGreatPbEvRoundQ
import Derived.Test.YtohjpfkcahlfkaaGreatPbGRoundBests
set_option linter.unusedSimpArgs false
set_option linter.unusedVariables false
namespace Go.Proofs.YtohjpfkcahlfkaaGreat.Sy
open Go.RowKit
set_option maxRecDepth 100000
section
variable {t : List Tw} {w : List (List Int)} {g : List Wd} {rest wage : Int}
theorem refTowers_ev (ht : t.length ≤ 8) {l : List Int} (hl : l.length ≤ 100) : ev_ref11_Towers 2200 t w g rest wage l = some (towersP t.length l) := by
  have l2 : ∀ (i : Nat) (hi : i < l.length) (k1 : Int → Option Int) (k m c : Nat), c + k = i → k < m → ev_ref11_Towers_l2 2200 (i : Int) l k1 m (c : Int) = if l[i] ∈ (l.take i).drop c then some 6 else k1 ((i + 1 : Nat) : Int) := by
    intro i hi k1 k
    induction k with
    | zero =>
      intro m c hc hm
      obtain ⟨m, rfl⟩ : ∃ m', m = m' + 1 := ⟨m - 1, by omega⟩
      rw [ev_ref11_Towers_l2, cond_if, if_neg (by simp; omega), chk_of (in64_of (by omega)), if_neg]
      · rfl
      · rw [List.drop_eq_nil_of_le (by rw [List.length_take]; omega)]; simp
    | succ k ih =>
      intro m c hc hm
      obtain ⟨m, rfl⟩ : ∃ m', m = m' + 1 := ⟨m - 1, by omega⟩
      have hlt : c < l.length := by omega
      have hlt2 : c < (l.take i).length := by rw [List.length_take]; omega
      have e : (l.take i).drop c = l[c] :: (l.take i).drop (c + 1) := by
        rw [List.drop_eq_getElem_cons hlt2, List.getElem_take]
      rw [ev_ref11_Towers_l2, cond_if, if_pos (decide_eq_true (by omega)), idx_nat (List.getElem?_eq_getElem hi), idx_nat (List.getElem?_eq_getElem hlt), cond_if]
      by_cases h1 : l[i] = l[c]
      · rw [if_pos (by simpa using h1), if_pos]
        rw [e, h1]; exact List.Mem.head _
      · rw [if_neg (by simpa using h1), chk_of (in64_of (by omega))]
        refine (ih m (c + 1) (by omega) (by omega)).trans ?_
        by_cases h2 : l[i] ∈ (l.take i).drop (c + 1)
        · rw [if_pos h2, if_pos]
          rw [e]; exact List.mem_cons_of_mem _ h2
        · rw [if_neg h2, if_neg]
          rw [e]
          exact fun hm => (List.mem_cons.1 hm).elim h1 h2
  have l1 : ∀ (k m i : Nat), i + k = l.length → k < m → (l.take i).Nodup → ev_ref11_Towers_l1 2200 l m (i : Int) = some (if l.Nodup then 0 else 6) := by
    intro k
    induction k with
    | zero =>
      intro m i hi hm hn
      obtain ⟨m, rfl⟩ : ∃ m', m = m' + 1 := ⟨m - 1, by omega⟩
      rw [List.take_of_length_le (by omega)] at hn
      rw [ev_ref11_Towers_l1, cond_if, if_neg (by simp; omega), if_pos hn]
    | succ k ih =>
      intro m i hi hm hn
      obtain ⟨m, rfl⟩ : ∃ m', m = m' + 1 := ⟨m - 1, by omega⟩
      have hlt : i < l.length := by omega
      have h2 := l2 i hlt (fun i10q => ev_ref11_Towers_l1 2200 l m i10q) i 2200 0 (by omega) (by omega)
      rw [List.drop_zero, show ((0 : Nat) : Int) = 0 from rfl] at h2
      rw [ev_ref11_Towers_l1, cond_if, if_pos (decide_eq_true (by omega)), h2]
      by_cases h3 : l[i] ∈ l.take i
      · rw [if_pos h3, if_neg]
        intro hnd
        obtain ⟨j, hj⟩ := List.getElem?_of_mem h3
        rw [List.getElem?_take] at hj
        split at hj
        · rename_i hjc
          have hjl : j < l.length := by omega
          rw [List.getElem?_eq_getElem hjl] at hj
          exact (List.pairwise_iff_getElem.1 hnd j i hjl hlt hjc) (Option.some.inj hj)
        · cases hj
      · rw [if_neg h3]
        refine ih m (i + 1) (by omega) (by omega) ?_
        rw [List.take_succ_eq_append_getElem hlt, List.nodup_append]
        refine ⟨hn, by simp, fun a ha b hb e => ?_⟩
        rw [List.mem_singleton] at hb
        exact h3 (by rw [← hb, ← e]; exact ha)
  have l0 : ∀ (k m i : Nat), i + k = l.length → k < m → ev_ref11_Towers_l0 2200 l t m (i : Int) = some (if (∀ x ∈ l.drop i, 0 ≤ x ∧ x < t.length) then (if l.Nodup then 0 else 6) else 2) := by
    intro k
    induction k with
    | zero =>
      intro m i hi hm
      obtain ⟨m, rfl⟩ : ∃ m', m = m' + 1 := ⟨m - 1, by omega⟩
      rw [ev_ref11_Towers_l0, cond_if, if_neg (by simp; omega), if_pos (by rw [List.drop_eq_nil_of_le (by omega)]; simp)]
      exact l1 l.length 2200 0 (by omega) (by omega) (by simp)
    | succ k ih =>
      intro m i hi hm
      obtain ⟨m, rfl⟩ : ∃ m', m = m' + 1 := ⟨m - 1, by omega⟩
      have hlt : i < l.length := by omega
      rw [ev_ref11_Towers_l0, cond_if, if_pos (decide_eq_true (by omega)), idx_nat (List.getElem?_eq_getElem hlt), chk_of (in64_of (by omega)), in_ev, Option.bind_some, cond_if]
      by_cases hb : btw 0 ((t.length : Int) - 1) l[i] = true
      · have hb2 := btw_iff.1 hb
        rw [if_neg (by simp [hb]), chk_of (in64_of (by omega))]
        refine (ih m (i + 1) (by omega) (by omega)).trans ?_
        have e : (∀ x ∈ l.drop i, 0 ≤ x ∧ x < t.length) ↔ (∀ x ∈ l.drop (i + 1), 0 ≤ x ∧ x < t.length) := by
          rw [List.drop_eq_getElem_cons hlt]
          constructor
          · exact fun hh x hx => hh x (List.mem_cons_of_mem _ hx)
          · intro hh x hx
            rcases List.mem_cons.1 hx with rfl | hx
            · omega
            · exact hh x hx
        by_cases h4 : ∀ x ∈ l.drop (i + 1), 0 ≤ x ∧ x < t.length
        · rw [if_pos h4, if_pos (e.2 h4)]
        · rw [if_neg h4, if_neg (fun hh => h4 (e.1 hh))]
      · rw [if_pos (by simpa using hb), if_neg]
        intro hh
        have := hh l[i] (by rw [List.drop_eq_getElem_cons hlt]; exact List.Mem.head _)
        exact hb (btw_iff.2 (by omega))
  have h0 := l0 l.length 2200 0 (by omega) (by omega)
  rw [List.drop_zero, show ((0 : Nat) : Int) = 0 from rfl] at h0
  rw [ev_ref11_Towers, cond_if, towersP]
  by_cases h1 : 5 < l.length
  · rw [if_pos (decide_eq_true (by omega)), if_pos h1]
  · rw [if_neg (by simp; omega), if_neg h1, h0]
    by_cases h2 : inB t.length l = true
    · have h2' := inB_iff.1 h2
      have h3 := twice_iff l 0 fun x hx => (h2' x hx).1
      rw [if_pos h2', if_pos h2]
      by_cases h4 : l.Nodup
      · have := h3.2 ⟨h4, fun x _ => hasP_zero x⟩
        rw [if_pos h4, if_neg (by rw [this]; simp)]
      · rw [if_neg h4, if_pos]
        cases h5 : twiceB 0 l
        · exact absurd (h3.1 h5).1 h4
        · rfl
    · rw [if_neg h2, if_neg (fun hh => h2 (inB_iff.2 hh))]
theorem refBest_ev (h : OkR t w g rest wage) {x : Int} {wd : Wd} (hwd : g[x.toNat]? = some wd) {l : List Int} (hl : towersP t.length l = 0) :
    ∃ res, ev_ref11_Best 2200 t w g rest wage wd.1 wd.2.1 wd.2.2.1 wd.2.2.2 l = some (stB res) ∧ Bst (fun s m => candP t w rest wd (setP 0 l) false (beginP t) s m) res := by
  have ht := h.tn
  obtain ⟨l5, lr, ln⟩ := towers_iff.1 hl
  have h8 : ∀ s ∈ l, 0 ≤ s ∧ s < 8 := fun s hs => by have := lr s hs; omega
  have hgoal := setP_ok l 0 (by decide) h8
  have hT : RemT (setP 0 l) (beginP t) l := ⟨ln, h8, fun k k0 k8 => by
    rw [has_setP l 0 k k0 fun y hy => (h8 y hy).1, show (beginP t).wo = 0 from rfl, hasP_zero]
    simp, fun k k0 k8 hk => by rw [show (beginP t).wo = 0 from rfl, hasP_zero] at hk; cases hk⟩
  obtain ⟨res, e, hb⟩ := ref_ok h (List.mem_of_getElem? hwd) hgoal 2200 (beginP t) [] l (by omega) begin_ok hT (by omega) (by simp; omega)
  refine ⟨res, ?_, hb.congr fun s m => ⟨?_, fun hc => ⟨s, rfl, hc⟩⟩⟩
  · have hbg : ev_ref11_Begin 2200 t w g rest wage = some ((t.length : Int), false, false, false, false, false, false, false, false, 0, 0, 0) := rfl
    simp only [show (beginP t).wo = 0 from rfl, hasP_zero] at e
    rw [ev_ref11_Best, bind_of hbg]
    refine (bind_of e).trans ?_
    rfl
  · rintro ⟨s', rfl, hc⟩; exact hc
theorem end_j3 {x : Int} {l : List Int} {e : Int} (he : e ≠ 0) : ev_law11_RoundBests_j3 2200 ([], 0, e) g x t w rest wage l e = some true := by
  rw [ev_law11_RoundBests_j3, cond_if, if_pos (by simpa using he), cond_if, if_pos (by simp), cond_if, if_pos (by simp), cond_if, if_pos (by simp), bind_of known11]
end
theorem roundBests_evx {rr1 : List (Int × Int × Int × Int × Int)} {rr2 : List ((List Int))} {rr3 : List (Int × Int × Int × Int)} {rr4 : Int} {rr5 : Int} {winder6 : Int} {towers7 : List Int} (h0 : (rr1.length ≤ maxLen ∧ ∀ el71 ∈ rr1, (Lit.int .i64 el71.1).wf = true ∧ (Lit.int .i64 el71.2.1).wf = true ∧ (Lit.int .u16 el71.2.2.1).wf = true ∧ (Lit.int .i64 el71.2.2.2.1).wf = true ∧ (Lit.int .i64 el71.2.2.2.2).wf = true) ∧ (rr2.length ≤ maxLen ∧ ∀ el27 ∈ rr2, ((el27).length ≤ maxLen ∧ ∀ el3 ∈ el27, (Lit.int .i64 el3).wf = true)) ∧ (rr3.length ≤ maxLen ∧ ∀ el50 ∈ rr3, (Lit.int .u16 el50.1).wf = true ∧ (Lit.int .i64 el50.2.1).wf = true ∧ (Lit.int .i64 el50.2.2.1).wf = true ∧ (Lit.int .i64 el50.2.2.2).wf = true) ∧ (Lit.int .i64 rr4).wf = true ∧ (Lit.int .i64 rr5).wf = true) (h1 : (Lit.int .i64 winder6).wf = true) (h2 : (towers7.length ≤ maxLen ∧ ∀ el3 ∈ towers7, (Lit.int .i64 el3).wf = true)) :
    ∃ n, ev_law11_RoundBests n rr1 rr2 rr3 rr4 rr5 winder6 towers7 = some true := by
  refine ⟨2200, ?_⟩
  obtain ⟨b, hb, hbf⟩ := large_ev (n := 2200) (by decide) (t := rr1) (w := rr2) (g := rr3) (rest := rr4) (wage := rr5)
  rw [ev_law11_RoundBests, bind_of hb, cond_if]
  cases b
  · obtain ⟨a1, a2, a3, a4⟩ := hbf rfl
    rw [if_neg (by simp), cond_if]
    by_cases h5 : towers7.length = 5
    · rw [if_pos (by simp; omega), bind_of known11]
    · rw [if_neg (by simp; omega), cond_if]
      by_cases hl : 9 < towers7.length
      · rw [if_pos (decide_eq_true (by omega)), bind_of known11]
      · have hcop : ev_law11_copied 2200 rr1 rr2 rr3 rr4 rr5 = some (rr1, rr2, rr3, rr4, rr5) := copied_ev (by omega) (by omega) (fun d hd => by have := a4 d hd; omega) (by omega) (by omega)
        have hc := check_any (n := 2200) (by decide) (t := rr1) (w := rr2) (g := rr3) (rest := rr4) (wage := rr5) (by omega) (by omega) (by omega) fun r h => by have := a4 r h; omega
        have hrc := refCheck_any (n := 2200) (by decide) (t := rr1) (w := rr2) (g := rr3) (rest := rr4) (wage := rr5) (by omega) (by omega) (by omega) fun r h => by have := a4 r h; omega
        have hsame := rules_same (n := 2200) (t := rr1) (w := rr2) (g := rr3) (rest := rr4) (wage := rr5) (by omega) (by omega) (by omega) fun r h => by have := a4 r h; omega
        have key : ∃ r14, ev_round_Best 2200 rr1 rr2 rr3 rr4 rr5 winder6 towers7 = some r14 ∧ ev_law11_RoundBests_j1 2200 (checkP rr1 rr2 rr3 rr4 rr5) winder6 rr1 rr2 rr3 rr4 rr5 towers7 r14 = some true := by
          by_cases hck : checkP rr1 rr2 rr3 rr4 rr5 = 0
          · have hok := checkP_ok hck
            have hg := hok.gn
            have ht := hok.tn
            have hj1 : ∀ r14, ev_law11_RoundBests_j1 2200 (checkP rr1 rr2 rr3 rr4 rr5) winder6 rr1 rr2 rr3 rr4 rr5 towers7 r14 = cond (decide (winder6 < 0)) (ev_law11_RoundBests_j2 2200 rr1 rr2 rr3 rr4 rr5 towers7 r14 winder6) (cond (decide ((rr3.length : Int) ≤ winder6)) (ev_law11_RoundBests_j2 2200 rr1 rr2 rr3 rr4 rr5 towers7 r14 winder6) (ev_law11_RoundBests_j4 2200 rr1 rr2 rr3 rr4 rr5 towers7 r14 winder6 (checkP rr1 rr2 rr3 rr4 rr5))) := fun r14 => by
              rw [ev_law11_RoundBests_j1, cond_if, if_pos (by simpa using hck)]
            simp only [hj1]
            rw [ev_round_Best, bind_of (check_ev (by decide) hok), cond_if, if_neg (by simp), bind_of (isNumber_ev (by decide) (by omega)), cond_if]
            by_cases hx : 0 ≤ winder6 ∧ winder6 < rr3.length
            · have hlt : winder6.toNat < rr3.length := by omega
              have hbx := fun hz => best_ev (n := 2200) (by decide) hok hx (List.getElem?_eq_getElem hlt) (l := towers7) hz
              have hct := checkTowers_ev (n := 2200) (by decide) (t := rr1) (w := rr2) (g := rr3) (rest := rr4) (wage := rr5) (by omega) (l := towers7) (by omega)
              have hrt := refTowers_ev (t := rr1) (w := rr2) (g := rr3) (rest := rr4) (wage := rr5) (by omega) (l := towers7) (by omega)
              have hj : ∀ r14, ev_law11_RoundBests_j3 2200 r14 rr3 winder6 rr1 rr2 rr4 rr5 towers7 (towersP rr1.length towers7) = some true → cond (decide (winder6 < 0)) (ev_law11_RoundBests_j2 2200 rr1 rr2 rr3 rr4 rr5 towers7 r14 winder6) (cond (decide ((rr3.length : Int) ≤ winder6)) (ev_law11_RoundBests_j2 2200 rr1 rr2 rr3 rr4 rr5 towers7 r14 winder6) (ev_law11_RoundBests_j4 2200 rr1 rr2 rr3 rr4 rr5 towers7 r14 winder6 (checkP rr1 rr2 rr3 rr4 rr5))) = some true := fun r14 hh => by
                rw [cond_if, if_neg (by simp; omega), cond_if, if_neg (by simp; omega), ev_law11_RoundBests_j4, ev_law11_RoundBests_j5, cond_if, if_pos (by simpa using hck), bind_of hrt]
                exact hh
              by_cases hz : towersP rr1.length towers7 = 0
              · obtain ⟨res, hbest, hres⟩ := hbx hz
                obtain ⟨res', hrb, hres'⟩ := refBest_ev hok (x := winder6) (List.getElem?_eq_getElem hlt) hz
                obtain rfl := hres.uniq hres'
                rw [ev_round_Best, bind_of (check_ev (by decide) hok), cond_if, if_neg (by simp), bind_of (isNumber_ev (by decide) (by omega)), cond_if] at hbest
                refine ⟨bestR res, hbest, hj _ ?_⟩
                rw [hz, ev_law11_RoundBests_j3, cond_if, if_neg (by simp), idx_of hx.1 (List.getElem?_eq_getElem hlt), bind_of hrb]
                cases hr : res with
                | none =>
                  rw [cond_if, if_pos (by simp [stB]), cond_if, if_pos (by simp [bestR]), cond_if, if_pos (by simp [bestR]), cond_if, if_pos (by simp [bestR]), bind_of known11]
                | some a =>
                  have hlen : a.1.length ≤ 17 := by
                    rw [hr] at hres
                    have := cand_len hok (List.getElem_mem hlt) a.1 _ _ _ begin_ok hres.1
                    rw [begin_meas] at this; exact this
                  have hsm : ev_ref11_Same 2200 (bestR (some a)).1 (stB (some a)).1 = some true := same_refl (a := a.1) (by omega) (by omega)
                  rw [cond_if, if_neg (by simp [stB]), cond_if, if_pos (by simp [bestR]), bind_of hsm, cond_if, if_pos rfl, cond_if, if_pos (by simp [bestR, stB]), bind_of known11]
              · rw [if_neg (by simp; omega)]
                rw [if_neg hz] at hct
                refine ⟨([], 0, towersP rr1.length towers7), ?_, hj _ (end_j3 hz)⟩
                rw [bind_of hct, cond_if, if_pos (by simpa using hz)]
            · rw [if_pos (by simp; omega)]
              have hj2 : ev_law11_RoundBests_j2 2200 rr1 rr2 rr3 rr4 rr5 towers7 ([], 0, 7) winder6 = some true := by
                rw [ev_law11_RoundBests_j2, cond_if, if_neg (by simp)]
                exact end_j3 (by decide)
              refine ⟨_, rfl, ?_⟩
              rw [cond_if]
              by_cases h6 : winder6 < 0
              · rw [if_pos (decide_eq_true h6)]; exact hj2
              · rw [if_neg (by simpa using h6), cond_if, if_pos (decide_eq_true (by omega))]; exact hj2
          · refine ⟨([], 0, checkP rr1 rr2 rr3 rr4 rr5), ?_, ?_⟩
            · rw [ev_round_Best, bind_of hc, cond_if, if_pos (by simpa using hck)]
            · rw [ev_law11_RoundBests_j1, cond_if, if_neg (by simpa using hck), ev_law11_RoundBests_j4, ev_law11_RoundBests_j5, cond_if, if_neg (by simpa using hck)]
              exact end_j3 hck
        obtain ⟨r14, k1, k2⟩ := key
        rw [if_neg (by simp; omega), ev_law11_RoundBests_j0, bind_of hcop, bind_of (ints_ev (by omega)), bind_of k1, bind_of hrc, bind_of hsame, cond_if, if_neg (by simp), bind_of (same_refl (by omega) (by omega)), cond_if, if_neg (by simp)]
        exact k2
  · rw [if_pos rfl, bind_of known11]
end Go.Proofs.YtohjpfkcahlfkaaGreat.Sy
