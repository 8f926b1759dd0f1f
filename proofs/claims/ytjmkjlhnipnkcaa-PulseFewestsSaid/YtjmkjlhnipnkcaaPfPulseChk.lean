/- The walks of pulse.Check, open, start, isMinute, isShown, isRight. -/
import Derived.Test.YtjmkjlhnipnkcaaPfPulseLow
set_option linter.unusedSimpArgs false
set_option linter.unusedVariables false
namespace Go.Proofs.Ytjmkjlhnipnkcaa
open Go.RowKit Go.Shelf
set_option maxHeartbeats 400000 in
theorem isMinute_any (t : Int) (w : World) : Calls Try.prog 29 #[.int .i64 t] w (Ret w (.bool (btw 0 100000 t))) := by
  go_enter Try.func29, Try.ntmps29
  go_wp2_with (go_at_call 31; refine (within_new (by first | omega | (simp; done) | (simp; omega))).mono ?_; rintro e w1 ⟨rfl, hb1⟩; obtain ⟨hc1, hf1, hs1⟩ := bcell hb1; have hz1 := hb1.size; (try simp at hz1))
  go_ret
  exact ret_bool rfl (by repeat first | exact Below.refl _ _ | assumption | (refine Below.alloc ?_ (by first | omega | (simp; done) | (simp; omega)) _) | (refine Below.setCell ?_ (by first | omega | (simp; done) | (simp; omega)) _) | (refine Below.drew ?_) | (refine belowDrewN ?_) | (refine Below.trans ?_ (Below.mono (by assumption) (by first | omega | (simp; done) | (simp; omega)))))
set_option maxHeartbeats 400000 in
theorem isShown_any (t : Int) (w : World) : Calls Try.prog 30 #[.int .i64 t] w (Ret w (.bool (btw 0 719 t))) := by
  go_enter Try.func30, Try.ntmps30
  go_wp2_with (go_at_call 31; refine (within_new (by first | omega | (simp; done) | (simp; omega))).mono ?_; rintro e w1 ⟨rfl, hb1⟩; obtain ⟨hc1, hf1, hs1⟩ := bcell hb1; have hz1 := hb1.size; (try simp at hz1))
  go_ret
  exact ret_bool rfl (by repeat first | exact Below.refl _ _ | assumption | (refine Below.alloc ?_ (by first | omega | (simp; done) | (simp; omega)) _) | (refine Below.setCell ?_ (by first | omega | (simp; done) | (simp; omega)) _) | (refine Below.drew ?_) | (refine belowDrewN ?_) | (refine Below.trans ?_ (Below.mono (by assumption) (by first | omega | (simp; done) | (simp; omega)))))
set_option maxHeartbeats 400000 in
theorem isRight_any (s k t : Int) (w : World) (ht : 0 ≤ t) : Calls Try.prog 38 #[.agg #[.int .i64 s, .int .i64 k], .int .i64 t] w (Ret w (.bool (s == t % 720))) := by
  go_enter Try.func38, Try.ntmps38
  go_wp2
  go_ret
  exact ret_bool rfl (by repeat first | exact Below.refl _ _ | assumption | (refine Below.alloc ?_ (by first | omega | (simp; done) | (simp; omega)) _) | (refine Below.setCell ?_ (by first | omega | (simp; done) | (simp; omega)) _) | (refine Below.drew ?_) | (refine belowDrewN ?_) | (refine Below.trans ?_ (Below.mono (by assumption) (by first | omega | (simp; done) | (simp; omega)))))
set_option maxHeartbeats 400000 in
theorem start_any (r e c s t : Int) (w : World) (h : (Pu.Ln.mk r e c).ok) (ht : 0 ≤ t) :
    Calls Try.prog 34 #[.agg #[.int .i64 r, .int .i64 e, .int .i64 c], .int .i64 s, .int .i64 t] w (Ret w (.agg #[.int .i64 (Pu.start ⟨r, e, c⟩ s t).s, .int .i64 (Pu.start ⟨r, e, c⟩ s t).k])) := by
  rcases h with ⟨h4, h5, h6⟩ | ⟨h4, h5, h6, h7, h8, h9, h10⟩
  · dsimp only at h4 h5 h6;subst h4 h5 h6
    go_enter Try.func34, Try.ntmps34
    go_wp2
    (refine bodyPost_ret (v := .agg #[.int .i64 (Pu.start ⟨0, 0, 0⟩ s t).s, .int .i64 (Pu.start ⟨0, 0, 0⟩ s t).k]) ?_ rfl (ret_any rfl (by repeat first | exact Below.refl _ _ | assumption | (refine Below.alloc ?_ (by first | omega | (simp; done) | (simp; omega)) _) | (refine Below.setCell ?_ (by first | omega | (simp; done) | (simp; omega)) _) | (refine Below.drew ?_) | (refine belowDrewN ?_) | (refine Below.trans ?_ (Below.mono (by assumption) (by first | omega | (simp; done) | (simp; omega)))))); (simp (maxDischargeDepth := 9) [results, Try.results34, go_sem, *]); (try simp only [beq_iff_eq, beq_eq_false_iff_ne, bne_iff_ne, bne_eq_false_iff_eq, ne_eq, Bool.not_eq_true, Bool.not_eq_true', Bool.not_eq_false', btw_iff, btw_not', Int.not_lt, Int.not_le] at *); (all_goals (try simp [Pu.start, *]); all_goals (try (repeat' split)); all_goals (try first | rfl | omega | (exfalso; omega) | (simp_all; done) | (simp_all; omega) | (constructor <;> omega))))
  · dsimp only at h4 h5 h6 h7;have hne : (r == 0) = false := by simp; omega
    clear h8 h9 h10
    go_enter Try.func34, Try.ntmps34
    go_wp2
    (refine bodyPost_ret (v := .agg #[.int .i64 (Pu.start ⟨r, e, c⟩ s t).s, .int .i64 (Pu.start ⟨r, e, c⟩ s t).k]) ?_ rfl (ret_any rfl (by repeat first | exact Below.refl _ _ | assumption | (refine Below.alloc ?_ (by first | omega | (simp; done) | (simp; omega)) _) | (refine Below.setCell ?_ (by first | omega | (simp; done) | (simp; omega)) _) | (refine Below.drew ?_) | (refine belowDrewN ?_) | (refine Below.trans ?_ (Below.mono (by assumption) (by first | omega | (simp; done) | (simp; omega)))))); (simp (maxDischargeDepth := 9) [results, Try.results34, go_sem, *]); (try simp only [beq_iff_eq, beq_eq_false_iff_ne, bne_iff_ne, bne_eq_false_iff_eq, ne_eq, Bool.not_eq_true, Bool.not_eq_true', Bool.not_eq_false', btw_iff, btw_not', Int.not_lt, Int.not_le] at *); (all_goals (try simp [Pu.start, *]); all_goals (try (repeat' split)); all_goals (try first | rfl | omega | (exfalso; omega) | (simp_all; done) | (simp_all; omega) | (constructor <;> omega))))
set_option maxHeartbeats 1000000 in
theorem check_any (r e c : Int) (w : World) (hr : (Lit.int .i64 r).wf = true) (he : (Lit.int .i64 e).wf = true) (hc : (Lit.int .i64 c).wf = true) :
    Calls Try.prog 12 #[.agg #[.int .i64 r, .int .i64 e, .int .i64 c]] w (Ret w (.int .i64 (Pu.lineErr r e c))) := by
  by_cases h2 : 2 ≤ e ∧ e ≤ 360
  · have hb : btw 2 360 e = true := btw_iff.2 h2;obtain ⟨h3, h4⟩ := h2;have m0 : 0 ≤ 720 % e := Int.emod_nonneg _ (by omega)
    go_enter Try.func12, Try.ntmps12
    go_wp2_with (go_at_call 31; refine (within_new (by first | omega | (simp; done) | (simp; omega))).mono ?_; rintro e w1 ⟨rfl, hb1⟩; obtain ⟨hc1, hf1, hs1⟩ := bcell hb1; have hz1 := hb1.size; (try simp at hz1))
    all_goals (go_ret; refine ret_int ?_ (by repeat first | exact Below.refl _ _ | assumption | (refine Below.alloc ?_ (by first | omega | (simp; done) | (simp; omega)) _) | (refine Below.setCell ?_ (by first | omega | (simp; done) | (simp; omega)) _) | (refine Below.drew ?_) | (refine belowDrewN ?_) | (refine Below.trans ?_ (Below.mono (by assumption) (by first | omega | (simp; done) | (simp; omega))))); (try simp only [Bool.not_eq_true', Bool.not_eq_false', btw_iff, btw_not', beq_iff_eq, beq_eq_false_iff_ne, bne_iff_ne, bne_eq_false_iff_eq, ne_eq, Bool.not_eq_true, decide_eq_true_eq, decide_eq_false_iff_not, Int.not_lt, Int.not_le] at *); unfold Pu.lineErr; (repeat' split) <;> (first | rfl | (exfalso; omega) | (simp_all; done) | (simp_all; omega)))
  · have hb : btw 2 360 e = false := btw_not'.2 h2;have h2' : e < 2 ∨ 360 < e := by omega
    clear h2
    have HB := Lib.hid h2'; clear h2'
    go_enter Try.func12, Try.ntmps12
    go_wp2_with (go_at_call 31; refine (within_new (by first | omega | (simp; done) | (simp; omega))).mono ?_; rintro e w1 ⟨rfl, hb1⟩; obtain ⟨hc1, hf1, hs1⟩ := bcell hb1; have hz1 := hb1.size; (try simp at hz1))
    all_goals (go_ret; refine ret_int ?_ (by repeat first | exact Below.refl _ _ | assumption | (refine Below.alloc ?_ (by first | omega | (simp; done) | (simp; omega)) _) | (refine Below.setCell ?_ (by first | omega | (simp; done) | (simp; omega)) _) | (refine Below.drew ?_) | (refine belowDrewN ?_) | (refine Below.trans ?_ (Below.mono (by assumption) (by first | omega | (simp; done) | (simp; omega))))); have hb' := HB.out; (try simp only [Bool.not_eq_true', Bool.not_eq_false', btw_iff, btw_not', beq_iff_eq, beq_eq_false_iff_ne, bne_iff_ne, bne_eq_false_iff_eq, ne_eq, Bool.not_eq_true, decide_eq_true_eq, decide_eq_false_iff_not, Int.not_lt, Int.not_le] at *); unfold Pu.lineErr; (repeat' split) <;> (first | rfl | (exfalso; omega) | (simp_all; done) | (simp_all; omega)))
end Go.Proofs.Ytjmkjlhnipnkcaa
