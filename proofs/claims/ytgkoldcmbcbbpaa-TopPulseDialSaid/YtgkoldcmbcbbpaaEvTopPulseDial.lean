/- A secondary dial is a dial. -/
import Derived.Test.YtgkoldcmbcbbpaaGTopPulseDial
import Derived.Test.YtgkoldcmbcbbpaaEvFaults
set_option linter.unusedSimpArgs false
set_option linter.unusedVariables false
namespace Go.Proofs.Ytgkoldcmbcbbpaa.Sy
open Go.RowKit
set_option maxRecDepth 100000

theorem pubDialQ_ev : ev_top_pubDial 6100 = some true := by decide +kernel
theorem pubPulseQ_ev : ev_top_pubPulse 6100 = some true := by decide +kernel
theorem topPulseDial_evx {from_1 : Int} {many2 : Int} {by_3 : List Int} (h0 : (Lit.int .u16 from_1).wf = true) (h1 : (Lit.int .u8 many2).wf = true) (h2 : (by_3.length ≤ maxLen ∧ ∀ el5 ∈ by_3, (Lit.int .u8 el5).wf = true)) :
    ∃ n, ev_top_TopPulseDial n from_1 many2 by_3 = some true := by
  have w0 : 0 ≤ from_1 ∧ from_1 ≤ 65535 := by
    simpa only [Lit.wf, Bool.and_eq_true, decide_eq_true_eq, show IntKind.u16.min = 0 from rfl, show IntKind.u16.max = 65535 from rfl] using h0
  have w1 := wf8.1 h1
  have e1 : Int.tmod from_1 50000 = from_1 % 50000 := Int.tmod_eq_emod_of_nonneg w0.1
  obtain ⟨st, hst⟩ : ∃ st, st = from_1 % 50000 := ⟨_, rfl⟩
  have e2 : Int.tmod st 720 = st % 720 := Int.tmod_eq_emod_of_nonneg (by omega)
  obtain ⟨l, lost, dbl, hF, hok, hadj, hc0, hc1, hc2⟩ := ev_pubFaults (n := 6100) (by decide) (from_ := st) (until_ := st + many2) (by omega) (by omega) (by omega) (fun x hx => wf8.1 (h2.2 x hx))
  have hR0 := ev_Run (n := 6100) (by decide) (sh := st % 720) (by omega) (from_ := st) (until_ := st + many2) (by omega) (by omega) (fs := []) ⟨by simp, List.Pairwise.nil, by simp⟩
  have hR1 := ev_Run (n := 6100) (by decide) (sh := st % 720) (by omega) (from_ := st) (until_ := st + many2) (by omega) (by omega) hok
  rw [hadj] at hR1
  have hz : adjP [] = 0 := rfl
  rw [hz] at hR0
  have hv0 : (st % 720 + (st + many2 - st) + 0) % 720 = (st + many2) % 720 := by omega
  have hv1 : (st % 720 + (st + many2 - st) + (dbl - lost)) % 720 = (st + many2 + (dbl - lost)) % 720 := by omega
  rw [hv0] at hR0
  rw [hv1] at hR1
  refine ⟨6100, ?_⟩
  rw [ev_top_TopPulseDial, e1, ← hst, chk_of (in64_of (by omega)), chk_of (in64_of (by omega)), chk_of (in64_of (by omega)), bind_of hF]
  simp only [e2]
  rw [bind_of hR0, bind_of hR1, cond_if, if_neg (by simp), cond_if, if_neg (by simp), ev_top_TopPulseDial_j0]
  have hsp : ∀ a b : Int, ev_top_pubSpan 6100 a b = some (a, b) := fun a b => by rw [ev_top_pubSpan]
  have hS : ∀ e : Int, -3600 ≤ e ∧ e ≤ 3600 → ev_dial_Shows 6100 60 e e [((0, 0, [], 0, 0) : Face)] 0 (60 * (st + many2)) 0 0 = some ([(drivenP 60 (60 * (st + many2) + e) % 43200, drivenP 60 (60 * (st + many2) + e) % 43200)], 0) := fun e he => ev_Shows0 (by decide) (by decide) (by decide) he (by omega)
  have hs0 := hS 0 (by decide)
  have hs1 := hS (60 * (dbl - lost)) (by omega)
  have q0 : drivenP 60 (60 * (st + many2) + 0) % 43200 = 60 * ((st + many2) % 720) := by unfold drivenP; omega
  have q1 : drivenP 60 (60 * (st + many2) + 60 * (dbl - lost)) % 43200 = 60 * ((st + many2 + (dbl - lost)) % 720) := by unfold drivenP; omega
  rw [q0] at hs0
  rw [q1] at hs1
  have z0 : (60 : Int) * 0 * (dbl - lost) = 0 := by omega
  have z1 : (60 : Int) * 1 * (dbl - lost) = 60 * (dbl - lost) := by omega
  have l2 : ev_top_TopPulseDial_l1 6100 (l, lost, dbl) from_1 many2 ((st + many2) % 720, 0) ((st + many2 + (dbl - lost)) % 720, 0) 6098 2 = some true := by
    rw [ev_top_TopPulseDial_l1, cond_if, if_neg (by decide), bind_of pubDialQ_ev, cond_if, if_pos rfl, bind_of pubPulseQ_ev]
  have l1 : ev_top_TopPulseDial_l1 6100 (l, lost, dbl) from_1 many2 ((st + many2) % 720, 0) ((st + many2 + (dbl - lost)) % 720, 0) 6099 1 = some true := by
    rw [ev_top_TopPulseDial_l1, cond_if, if_pos (by decide), chk_of (by decide)]
    simp only [e1, ← hst]
    rw [z1, chk_of (in64_of (by omega)), chk_of (in64_of (by omega)), bind_of (hsp _ _), chk_of (in64_of (by omega))]
    simp only
    rw [bind_of hs1, chk_of (by decide), idx_of (x := (st + many2 + (dbl - lost)) % 720) (by decide) (by rfl), chk_of (in64_of (by omega)), cond_if, if_neg (by simp), cond_if, if_neg (by simp), idx_of (x := (60 * ((st + many2 + (dbl - lost)) % 720), 60 * ((st + many2 + (dbl - lost)) % 720))) (by decide) (by rfl), bind_of (hsp _ _), cond_if, if_neg (by simp), chk_of (by decide)]
    exact l2
  rw [ev_top_TopPulseDial_l1, cond_if, if_pos (by decide), chk_of (by decide)]
  simp only [e1, ← hst]
  rw [z0, chk_of (in64_of (by omega)), chk_of (in64_of (by omega)), bind_of (hsp _ _), chk_of (in64_of (by omega))]
  simp only
  rw [bind_of hs0, chk_of (by decide), idx_of (x := (st + many2) % 720) (by decide) (by rfl), chk_of (in64_of (by omega)), cond_if, if_neg (by simp), cond_if, if_neg (by simp), idx_of (x := (60 * ((st + many2) % 720), 60 * ((st + many2) % 720))) (by decide) (by rfl), bind_of (hsp _ _), cond_if, if_neg (by simp), chk_of (by decide)]
  exact l1
end Go.Proofs.Ytgkoldcmbcbbpaa.Sy
