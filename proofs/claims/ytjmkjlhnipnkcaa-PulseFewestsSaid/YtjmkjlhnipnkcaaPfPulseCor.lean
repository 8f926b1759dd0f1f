/- The walk of pulse's correction of a dial behind a long impulse. -/
import Derived.Test.YtjmkjlhnipnkcaaPfPulseLow
set_option linter.unusedSimpArgs false
set_option linter.unusedVariables false
namespace Go.Proofs.Ytjmkjlhnipnkcaa
open Go.RowKit Go.Shelf
theorem div_reach {e c : Int} (h : c ≤ (e - 1) / 2) (he : e ≤ 360) : c ≤ 179 := by omega
set_option maxHeartbeats 1000000 in
theorem corrected_any (r e c s k : Int) (w : World) (h1 : 1 ≤ r) (h2 : r ≤ 3) (h3 : 2 ≤ e) (h4 : e ≤ 360) (h5 : 0 ≤ c) (h6 : c ≤ 179) (h7 : 0 ≤ s) (h8 : s < 720) (h9 : 0 ≤ k) (h10 : k ≤ 1000000000) :
    Calls Try.prog 57 #[.agg #[.int .i64 r, .int .i64 e, .int .i64 c], .agg #[.int .i64 s, .int .i64 k]] w (Ret w (.agg #[.int .i64 (Pu.cor ⟨r, e, c⟩ ⟨s, k⟩).s, .int .i64 (Pu.cor ⟨r, e, c⟩ ⟨s, k⟩).k])) := by
  have HC := Lib.hid (fun W b (hb : -c ≤ b ∧ b ≤ c) => on_any s 0 b W h7 (by omega) (by omega) (by omega));have m0 : 0 ≤ s % e := Int.emod_nonneg _ (by omega);have m1 : s % e < e := Int.emod_lt_of_pos _ (by omega)
  go_enter Try.func57, Try.ntmps57
  go_wp2_with (first | (go_at_call 31; refine (within_new (by first | omega | (simp; done) | (simp; omega))).mono ?_; rintro e w1 ⟨rfl, hb1⟩; obtain ⟨hc1, hf1, hs1⟩ := bcell hb1; have hz1 := hb1.size; (try simp at hz1)) | (go_at_call 58; refine (HC.out _ _ ?_).mono ?_; (simp only [Bool.not_eq_false', btw_iff] at *; omega); rintro e w1 ⟨rfl, hb1⟩; obtain ⟨hc1, hf1, hs1⟩ := bcell hb1; have hz1 := hb1.size; (try simp at hz1)))
  all_goals (refine bodyPost_ret (v := .agg #[.int .i64 (Pu.cor ⟨r, e, c⟩ ⟨s, k⟩).s, .int .i64 (Pu.cor ⟨r, e, c⟩ ⟨s, k⟩).k]) ?_ rfl (ret_any rfl (by repeat first | exact Below.refl _ _ | assumption | (refine Below.alloc ?_ (by first | omega | (simp; done) | (simp; omega)) _) | (refine Below.setCell ?_ (by first | omega | (simp; done) | (simp; omega)) _) | (refine Below.drew ?_) | (refine belowDrewN ?_) | (refine Below.trans ?_ (Below.mono (by assumption) (by first | omega | (simp; done) | (simp; omega)))))); (simp (maxDischargeDepth := 9) [results, Try.results57, go_sem, *]); (try simp only [beq_iff_eq, beq_eq_false_iff_ne, bne_iff_ne, bne_eq_false_iff_eq, ne_eq, Bool.not_eq_true, Bool.not_eq_true', Bool.not_eq_false', btw_iff, btw_not', Int.not_lt, Int.not_le] at *); (all_goals (try simp [Pu.cor, Pu.cby, *]); all_goals (try (repeat' split)); all_goals (try first | rfl | omega | (exfalso; omega) | (simp_all; done) | (simp_all; omega) | (constructor <;> omega))))
end Go.Proofs.Ytjmkjlhnipnkcaa
