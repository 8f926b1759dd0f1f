/- A clock that stops as its weight is down, in its book. -/
import Derived.Test.YtmgcinejodpopaaGTopDropBook
import Derived.Test.YtmgcinejodpopaaEvBook
import Derived.Test.YtmgcinejodpopaaEvDrop
set_option linter.unusedSimpArgs false
set_option linter.unusedVariables false
namespace Go.Proofs.Ytmgcinejodpopaa.Sy
open Go.RowKit
set_option maxRecDepth 100000

theorem pubHours_ev (n : Nat) (hn : 30 < n) (a b : Int) : ev_top_pubHours n a b = some (List.replicate 24 (a, b)) := by
  have key : ∀ (k m : Nat) (i : Int) (l : List (Int × Int)), i + k = 24 → 0 ≤ i → k < m → l.length + k = 24 → ev_top_pubHours_l0 n m i a b l = some (l ++ List.replicate k (a, b)) := by
    intro k
    induction k with
    | zero =>
      intro m i l hi h0 hm hl
      cases m with
      | zero => omega
      | succ m => rw [ev_top_pubHours_l0, cond_if, if_neg (by simp; omega)]; simp
    | succ k ih =>
      intro m i l hi h0 hm hl
      cases m with
      | zero => omega
      | succ m =>
        rw [ev_top_pubHours_l0, cond_if, if_pos (by simp; omega), chk_of (room_iff.2 (by simp; omega)), chk_of (in64_of (by omega)), ih m (i + 1) _ (by omega) (by omega) (by omega) (by simp; omega)]
        simp [List.replicate_succ]
  rw [ev_top_pubHours, key 24 n 0 [] (by omega) (by omega) (by omega) (by simp)]
  simp
theorem pubDrop_ev : ev_top_pubDrop 2200 = some true := by decide +kernel
theorem pubBook_ev : ev_top_pubBook 2200 = some true := by decide +kernel
/-- behind the stop -/
theorem noons_still (v : Int) (hv : 0 ≤ v) : ∀ (k : Nat) (d w : Int), noonsP k d [] (v * 86400, 0, w, true) = List.replicate k v := by
  intro k
  induction k with
  | zero => intro d w; rfl
  | succ k ih =>
    intro d w
    simp only [noonsP, runP, toP, if_true, ih, List.replicate_succ]
    congr 1
    exact Int.mul_ediv_cancel _ (by decide)
def dropWant (s : Int) (d : Int) : Int := if s < 24 * d then s % 12 * 1000 * 3600 else 0
theorem noons_stop {s : Int} (hs : 0 ≤ s) : ∀ (k : Nat) (d : Int), 0 ≤ d → ∀ c : CK, (c = (0, 0, (d - 1) * 86400, false) ∧ 24 * (d - 1) < s ∨ d = 0 ∧ c = (0, 0, 0, false)) →
    ∀ j : Nat, j < k → (noonsP k d [((s * 3600), 3, 0)] c)[j]? = some (dropWant s (d + j)) := by
  intro k
  induction k with
  | zero => intro d _ c _ j hj; omega
  | succ k ih =>
    intro d hd c hc j hj
    have hnow : ∃ w, c = (0, 0, w * 86400, false) ∧ 24 * w ≤ 24 * d ∧ 0 ≤ 24 * w + 24 ∧ (24 * w < s ∨ w = 0 ∧ d = 0) ∧ (w = d - 1 ∨ w = d ∧ d = 0) := by
      rcases hc with ⟨rfl, h⟩ | ⟨rfl, rfl⟩
      · exact ⟨d - 1, rfl, by omega, by omega, .inl h, .inl rfl⟩
      · exact ⟨0, by simp, by omega, by omega, .inr ⟨rfl, rfl⟩, .inr ⟨rfl, rfl⟩⟩
    obtain ⟨w, rfl, hw1, hw2, hw3, hw4⟩ := hnow
    by_cases hstop : s * 3600 ≤ d * 86400
    · -- it stops ahead of this noon
      have hrun : runP [((s * 3600), 3, 0)] (0, 0, w * 86400, false) (d * 86400) = (((s % 12 * 1000 * 3600) * 86400, 0, d * 86400, true), []) := by
        simp only [runP, hstop, if_true]
        simp only [doP, toP]
        simp only [show ((3 : Int) = 1) = False by simp, show ((3 : Int) = 2) = False by simp, if_false, Bool.false_eq_true, decide_true, if_true]
        have e : (0 + (s * 3600 - w * 86400) * (86400000 + 0)) % 3732480000000 = s % 12 * 1000 * 3600 * 86400 := by omega
        rw [e]
      simp only [noonsP, hrun]
      rw [noons_still _ (by omega)]
      cases j with
      | zero =>
        simp only [List.getElem?_cons_zero, Option.some.injEq]
        rw [Int.mul_ediv_cancel _ (by decide)]
        unfold dropWant
        split <;> omega
      | succ j =>
        simp only [List.getElem?_cons_succ]
        rw [List.getElem?_replicate, if_pos (by omega)]
        simp only [Option.some.injEq]
        unfold dropWant
        rw [if_pos (by omega)]
    · have hrun : runP [((s * 3600), 3, 0)] (0, 0, w * 86400, false) (d * 86400) = ((0, 0, d * 86400, false), [((s * 3600), 3, 0)]) := by
        simp only [runP, hstop, if_false, toP]
        simp only [Bool.false_eq_true, if_false]
        have e : (0 + (d * 86400 - w * 86400) * (86400000 + 0)) % 3732480000000 = 0 := by omega
        rw [e]
      simp only [noonsP, hrun]
      cases j with
      | zero =>
        simp only [List.getElem?_cons_zero, Option.some.injEq]
        unfold dropWant
        rw [if_neg (by omega)]; rfl
      | succ j =>
        simp only [List.getElem?_cons_succ]
        have := ih (d + 1) (by omega) (0, 0, d * 86400, false) (.inl ⟨by rw [show d + 1 - 1 = d by omega], by omega⟩) j (by omega)
        rw [this]
        congr 2
        omega
theorem ev_TopDropBook_l {n : Nat} {s : Int} {r5 : Int × Int × Int} {r6 : List Int × Int} (h5 : r5.1 = s) (hs : 0 ≤ s ∧ s ≤ 2000) (h6 : ∀ j : Nat, j < 150 → r6.1[j]? = some (dropWant s j)) (hd : ev_top_pubDrop n = some true) (hb : ev_top_pubBook n = some true) : ∀ (k m d : Nat), d + k = 150 → k < m → ev_top_TopDropBook_l2 n r5 r6 m (d : Int) = some true := by
  intro k
  induction k with
  | zero =>
    intro m d hd' hm
    cases m with
    | zero => omega
    | succ m => rw [ev_top_TopDropBook_l2, cond_if, if_neg (by simp; omega), bind_of hd, cond_if, if_pos rfl, bind_of hb]
  | succ k ih =>
    intro m d hd' hm
    cases m with
    | zero => omega
    | succ m =>
      have hx := h6 d (by omega)
      have hnext := ih m (d + 1) (by omega) (by omega)
      have e : Int.tmod s 12 = s % 12 := Int.tmod_eq_emod_of_nonneg hs.1
      rw [ev_top_TopDropBook_l2, cond_if, if_pos (by simp; omega), chk_of (in64_of (by omega)), cond_if, h5, e]
      unfold dropWant at hx
      by_cases hc : s < 24 * (d : Int)
      · rw [if_pos hc] at hx
        rw [if_pos (by simpa using hc), chk_of (in64_of (by omega)), chk_of (in64_of (by omega)), idx_nat hx, cond_if, if_neg (by simp), chk_of (in64_of (by omega))]
        rw [← hnext]; congr 1
      · rw [if_neg hc] at hx
        rw [if_neg (by simpa using hc), idx_nat hx, cond_if, if_neg (by simp), chk_of (in64_of (by omega))]
        rw [← hnext]; congr 1
theorem noonsP_len : ∀ (k : Nat) (d : Int) (l : List BE) (c : CK), (noonsP k d l c).length = k := by
  intro k
  induction k with
  | zero => intro d l c; rfl
  | succ k ih => intro d l c; simp [noonsP, ih]
theorem topDropBook_ev {line1 : Int} {use2 : Int} (h0 : (Lit.int .u16 line1).wf = true) (h1 : (Lit.int .u8 use2).wf = true) :
    ∃ n, ev_top_TopDropBook n line1 use2 = some true := by
  have w0 : 0 ≤ line1 ∧ line1 ≤ 65535 := by
    simpa only [Lit.wf, Bool.and_eq_true, decide_eq_true_eq, show IntKind.u16.min = 0 from rfl, show IntKind.u16.max = 65535 from rfl] using h0
  have w1 := wf8.1 h1
  refine ⟨2200, ?_⟩
  have e1 : Int.tmod use2 9 = use2 % 9 := Int.tmod_eq_emod_of_nonneg w1.1
  have e2 : Int.tmod line1 3000 = line1 % 3000 := Int.tmod_eq_emod_of_nonneg w0.1
  obtain ⟨a, ha⟩ : ∃ a, a = 1 + use2 % 9 := ⟨_, rfl⟩
  obtain ⟨b, hb⟩ : ∃ b, b = 1 + line1 % 3000 := ⟨_, rfl⟩
  rw [ev_top_TopDropBook, chk_of (in64_of (by omega)), e1, ← ha, chk_of (in64_of (by omega)), chk_of (in64_of (by omega)), e2, ← hb, chk_of (in64_of (by omega))]
  have ha' : 1 ≤ a ∧ a ≤ 9 := by omega
  have hb' : 1 ≤ b ∧ b ≤ 3000 := by omega
  have hq0 := Int.ediv_nonneg (show 0 ≤ b by omega) (show 0 ≤ a by omega)
  have hq1 : b / a ≤ b := Int.ediv_le_self _ (by omega)
  have hsp : ev_top_pubSpan 2200 a a = some (a, a) := by rw [ev_top_pubSpan]
  have hh : OkH (List.replicate 24 (a, a)) := ⟨by simp, fun x hx => by obtain ⟨_, rfl⟩ := List.mem_replicate.1 hx; simp only; omega⟩
  have hg : ev_drop_Goes 2200 b (List.replicate 24 (a, a)) b 0 = some (min (b / a) 2000, min (b / a) 2000, 0) := by
    rw [ev_Goes (by decide) hb' hh (by omega) (by omega)]
    simp only [List.map_replicate]
    rw [goesG_const (by omega) 2000 b 0 (by omega)]
    congr 1
    simp only [Prod.mk.injEq, and_true]
    omega
  have et : Int.tdiv b a = b / a := Int.tdiv_eq_ediv_of_nonneg (by omega)
  obtain ⟨s, hs⟩ : ∃ s, s = min (b / a) 2000 := ⟨_, rfl⟩
  rw [bind_of hsp, bind_of (pubHours_ev 2200 (by decide) a a), bind_of hg, cond_if, if_neg (by simp), cond_if, if_neg (by simp), chk_of (by simp; omega), et, chk_of (in64_of (by omega)), cond_if, if_neg (by simp), ← hs]
  have hs' : 0 ≤ s ∧ s ≤ 2000 := by omega
  have hes : OkEs [((s * 3600), 3, 0)] := ⟨fun x hx => by rw [List.mem_singleton] at hx; subst hx; exact ⟨by simp only; omega, .inr (.inr (.inl ⟨rfl, rfl⟩))⟩, List.pairwise_singleton _ _, by simp⟩
  rw [ev_top_TopDropBook_j0, chk_of (in64_of (by simp only; omega)), bind_of (ev_Noons hes (by decide) (by decide) (by decide) (by decide) (by decide)), cond_if, if_neg (by simp), cond_if, if_neg (by simp [noonsP_len]), ev_top_TopDropBook_j1]
  refine ev_TopDropBook_l (s := s) rfl hs' (fun j hj => ?_) pubDrop_ev pubBook_ev 150 2200 0 (by omega) (by omega)
  have := noons_stop hs'.1 150 0 (by omega) (0, 0, 0, false) (.inr ⟨rfl, rfl⟩) j hj
  simpa using this
end Go.Proofs.Ytmgcinejodpopaa.Sy
