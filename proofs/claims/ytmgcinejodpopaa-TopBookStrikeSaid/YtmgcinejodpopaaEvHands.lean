/- What a clock of the books shows at a time, in plain terms. -/
import Derived.Test.YtmgcinejodpopaaEvBook
set_option linter.unusedSimpArgs false
set_option linter.unusedVariables false
namespace Go.Proofs.Ytmgcinejodpopaa.Sy
open Go.RowKit
set_option maxRecDepth 100000

theorem ev_replayV {σ1 : Type} {yb1 : CK → σ1 → Option (Bool × σ1)} {n : Nat} {t : Int} (ht : t ≤ 3155760000) : ∀ (l : List BE) (m : Nat) (c : CK) (y : σ1), l.length < m → CKok c → c.2.2.1 ≤ t → (∀ x ∈ l, okE x) → (∀ x ∈ l, c.2.2.1 ≤ x.1) → l.Pairwise (fun a b => a.1 < b.1) → l.length ≤ 4611686018427387904 →
    ev_book_entries_replay_1_v1_l1 yb1 n t m c.1 c.2.1 c.2.2.1 c.2.2.2 l y = (yb1 (runP l c t).1 y).bind fun q => some (if q.1 = true then 0 else 1, ((runP l c t).1.1, (runP l c t).1.2.1, (runP l c t).1.2.2.1, (runP l c t).1.2.2.2, q.2, (runP l c t).2)) := by
  intro l
  induction l with
  | nil =>
    intro m c y hm hc hn _ _ _ _
    cases m with
    | zero => simp at hm
    | succ m =>
      rw [ev_book_entries_replay_1_v1_l1, cond_if, if_neg (by simp), bind_of (ev_to hc hn ht)]
      simp only [runP]
      congr 1; funext q
      cases q.1 <;> simp [cond_if]
  | cons x l ih =>
    intro m c y hm hc hn hok hlo hp hlen
    cases m with
    | zero => simp at hm
    | succ m =>
      rw [ev_book_entries_replay_1_v1_l1, cond_if, if_pos (by simp), idx_of (x := x) (by decide) (by simp), cond_if]
      simp only [runP]
      by_cases hx : x.1 ≤ t
      · rw [if_pos (by simpa using hx), if_pos hx, ev_book_entries_replay_1_v1_j2, idx_of (x := x) (by decide) (by simp), bind_of (ev_do hc (hok x (by simp)) (hlo x (by simp))), chk_of (by simp; omega)]
        rw [List.pairwise_cons] at hp
        have := ih m (doP c x) y (by simp at hm; omega) (doP_ok hc (hok x (by simp))) (by rw [doP_now]; exact hx) (fun z hz => hok z (by simp [hz])) (fun z hz => by rw [doP_now]; exact Int.le_of_lt (hp.1 z hz)) hp.2 (by simp at hlen; omega)
        rw [← this]
        congr 1
        simp
      · rw [if_neg (by simpa using hx), if_neg hx, bind_of (ev_to hc hn ht)]
        congr 1; funext q
        cases q.1 <;> simp [cond_if]
/-- the clock of entries at a time -/
def bkP (l : List BE) (t : Int) : CK := (runP l (0, 0, 0, false) t).1
theorem ck0 : CKok (0, 0, 0, false) := ⟨by decide, by decide, by decide, by decide, by decide, by decide⟩
theorem bkP_ok {l : List BE} (h : ∀ x ∈ l, okE x) {t : Int} (h0 : 0 ≤ t) (h1 : t ≤ 3155760000) : CKok (bkP l t) := (runP_ok h0 h1 l _ ck0 h).1
theorem ev_Hands {n : Nat} {l : List BE} (h : OkEs l) {t : Int} (h0 : 0 ≤ t) (h1 : t ≤ 3155760000) (hn : 2100 < n) : ev_book_Hands n l t = some ((bkP l t).1 / 86400, !(bkP l t).2.2.2, 0) := by
  have hlen := h.len
  have hok := bkP_ok h.ok h0 h1
  have e : Int.tdiv (bkP l t).1 86400 = (bkP l t).1 / 86400 := Int.tdiv_eq_ediv_of_nonneg hok.s0
  have hs1 := hok.s1
  have hs0 := hok.s0
  have hyb : loopStep (ev_book_Hands_r0 n) (bkP l t) ((false, 0), 0) = some (true, ((!(bkP l t).2.2.2, (bkP l t).1 / 86400), 0)) := by
    rw [loopStep_of (r := (0, (!(bkP l t).2.2.2, (bkP l t).1 / 86400))) (by rw [ev_book_Hands_r0, e, chk_of (in64_of (by omega))])]; rfl
  have hv : ev_slices_Values_Lint_int n ([t] : List Int) = some [t] := by rw [ev_slices_Values_Lint_int]
  have hr : ev_book_entries_replay_v1 n l [t] = some (l, [t]) := by rw [ev_book_entries_replay_v1]
  have hrun : ev_book_entries_replay_1_v1 (loopStep (ev_book_Hands_r0 n)) n ((false, 0), 0) l [t] = some ((!(bkP l t).2.2.2, (bkP l t).1 / 86400), 0) := by
    have hrep := ev_replayV (yb1 := loopStep (ev_book_Hands_r0 n)) (n := n) h1 l n (0, 0, 0, false) ((false, 0), 0) (by omega) ck0 h0 h.ok (fun x hx => (h.ok x hx).1.1) h.asc (by omega)
    have hyb' : loopStep (ev_book_Hands_r0 n) (runP l (0, 0, 0, false) t).1 ((false, 0), 0) = some (true, ((!(bkP l t).2.2.2, (bkP l t).1 / 86400), 0)) := hyb
    rw [hyb'] at hrep
    simp only [Option.bind_some, if_true] at hrep
    have hr0 := loopStep_of (f := ev_book_entries_replay_1_v1_r0 (loopStep (ev_book_Hands_r0 n)) n) (x := t) (s := (0, 0, 0, false, ((false, 0), 0), l)) hrep
    obtain ⟨m, rfl⟩ : ∃ m, n = m + 2 := ⟨n - 2, by omega⟩
    rw [ev_book_entries_replay_1_v1]
    have hval : ev_slices_Values_Lint_int_1 (loopStep (ev_book_entries_replay_1_v1_r0 (loopStep (ev_book_Hands_r0 (m + 2))) (m + 2))) (m + 2) ((0, 0, 0, false, ((false, 0), 0), l), 0) [t] = some (((runP l (0, 0, 0, false) t).1.1, (runP l (0, 0, 0, false) t).1.2.1, (runP l (0, 0, 0, false) t).1.2.2.1, (runP l (0, 0, 0, false) t).1.2.2.2, ((!(bkP l t).2.2.2, (bkP l t).1 / 86400), 0), (runP l (0, 0, 0, false) t).2), 0) := by
      rw [ev_slices_Values_Lint_int_1, ev_slices_Values_Lint_int_1_l0, cond_if, if_pos (by simp), idx_of (x := t) (by decide) (by rfl), bind_of hr0, cond_if, if_neg (by simp), chk_of (by decide), ev_slices_Values_Lint_int_1_l0, cond_if, if_neg (by simp)]
    rw [bind_of hval, cond_if, if_pos (by rfl)]
  rw [ev_book_Hands, bind_of (ev_check h (by omega)), cond_if, if_neg (by simp), bind_of (wi1_book (by omega)), cond_if, if_neg (by simp; omega), bind_of hv, bind_of hr, bind_of hrun, cond_if, if_pos (by rfl)]
end Go.Proofs.Ytmgcinejodpopaa.Sy
