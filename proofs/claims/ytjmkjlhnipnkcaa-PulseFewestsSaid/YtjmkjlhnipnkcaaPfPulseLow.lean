/- The walks of pulse's small functions: each returns what the plain function says, and leaves alone what was there. -/
import Derived.Test.YtjmkjlhnipnkcaaPfPulseWithin
import Derived.Test.YtjmkjlhnipnkcaaPfPulsePlain
set_option linter.unusedSimpArgs false
set_option linter.unusedVariables false
namespace Go.Proofs.Ytjmkjlhnipnkcaa
open Go.RowKit Go.Shelf
set_option maxHeartbeats 400000 in
theorem isLong_any (r e c t : Int) (w : World) (h : (Pu.Ln.mk r e c).ok) (ht : 0 ≤ t) :
    Calls Try.prog 48 #[.agg #[.int .i64 r, .int .i64 e, .int .i64 c], .int .i64 t] w (Ret w (.bool (Pu.isLong ⟨r, e, c⟩ t))) := by
  rcases h with ⟨rfl, rfl, rfl⟩ | ⟨h1, h2, h3, h4, h5, h6, h7⟩
  · go_enter Try.func48, Try.ntmps48
    go_wp2
    go_ret
    exact ret_bool (by simp [Pu.isLong]) (by repeat first | exact Below.refl _ _ | assumption | (refine Below.alloc ?_ (by first | omega | (simp; done) | (simp; omega)) _) | (refine Below.setCell ?_ (by first | omega | (simp; done) | (simp; omega)) _) | (refine Below.drew ?_) | (refine belowDrewN ?_) | (refine Below.trans ?_ (Below.mono (by assumption) (by first | omega | (simp; done) | (simp; omega)))))
  · simp only at h1 h2 h3 h4;have hne : (r != 0) = true := by simp; omega
    clear h5 h6 h7
    go_enter Try.func48, Try.ntmps48
    go_wp2
    go_ret
    refine ret_bool ?_ (by repeat first | exact Below.refl _ _ | assumption | (refine Below.alloc ?_ (by first | omega | (simp; done) | (simp; omega)) _) | (refine Below.setCell ?_ (by first | omega | (simp; done) | (simp; omega)) _) | (refine Below.drew ?_) | (refine belowDrewN ?_) | (refine Below.trans ?_ (Below.mono (by assumption) (by first | omega | (simp; done) | (simp; omega)))));have : (r == 0) = false := by simp; omega
    simp [Pu.isLong, this]
set_option maxHeartbeats 400000 in
theorem on_any (s k b : Int) (w : World) (h0 : 0 ≤ s) (h1 : s ≤ 1000) (h2 : -720 ≤ b) (h3 : b ≤ 720) :
    Calls Try.prog 58 #[.agg #[.int .i64 s, .int .i64 k], .int .i64 b] w (Ret w (.agg #[.int .i64 ((s + b + 720) % 720), .int .i64 k])) := by
  go_enter Try.func58, Try.ntmps58
  go_wp2
  exact bodyPost_ret (v := .agg #[.int .i64 ((s + b + 720) % 720), .int .i64 k]) (by simp [results, Try.results58, go_sem]) rfl (ret_any rfl (by repeat first | exact Below.refl _ _ | assumption | (refine Below.alloc ?_ (by first | omega | (simp; done) | (simp; omega)) _) | (refine Below.setCell ?_ (by first | omega | (simp; done) | (simp; omega)) _) | (refine Below.drew ?_) | (refine belowDrewN ?_) | (refine Below.trans ?_ (Below.mono (by assumption) (by first | omega | (simp; done) | (simp; omega))))))
set_option maxHeartbeats 800000 in
theorem move_any (r e c s k : Int) (long : Bool) (w : World) (h : (Pu.Ln.mk r e c).ok) (h0 : 0 ≤ s) (h1 : s < 720) (h2 : 0 ≤ k) (h3 : k ≤ 1000000000) :
    Calls Try.prog 56 #[.agg #[.int .i64 r, .int .i64 e, .int .i64 c], .agg #[.int .i64 s, .int .i64 k], .bool long] w (Ret w (.agg #[.int .i64 (Pu.mv ⟨r, e, c⟩ long ⟨s, k⟩).s, .int .i64 (Pu.mv ⟨r, e, c⟩ long ⟨s, k⟩).k])) := by
  have HC := Lib.hid (fun W k => on_any s k 1 W h0 (by omega) (by omega) (by omega));rcases h with ⟨rfl, rfl, rfl⟩ | ⟨h4, h5, h6, h7, h8, h9, h10⟩
  · go_enter Try.func56, Try.ntmps56
    go_wp2_with fail
    (refine wp_region_quiet_lit (by kernel_rfl) (by kernel_rfl) ?_; (repeat (any_goals (first | go_big_quiet_step (fail) | quiet_step (fail) | (refine wpQuiet_step (fun K hK => ?_); go_simp; split <;> (refine hK _ ?_; clear hK K))))); (all_goals (refine wpQuiet_nil ?_; intro _ hw'; obtain ⟨nq, hw''⟩ := hw'; subst hw'')))
    all_goals (go_wp2_with ((refine (HC.out _ _).mono ?_); rintro e w1 ⟨rfl, hb1⟩; obtain ⟨hc1, hf1, hs1⟩ := bcell hb1; have hz1 := hb1.size; (try simp at hz1)))
    all_goals (refine bodyPost_ret (v := .agg #[.int .i64 (Pu.mv ⟨0, 0, 0⟩ long ⟨s, k⟩).s, .int .i64 (Pu.mv ⟨0, 0, 0⟩ long ⟨s, k⟩).k]) ?_ rfl (ret_any rfl (by repeat first | exact Below.refl _ _ | assumption | (refine Below.alloc ?_ (by first | omega | (simp; done) | (simp; omega)) _) | (refine Below.setCell ?_ (by first | omega | (simp; done) | (simp; omega)) _) | (refine Below.drew ?_) | (refine belowDrewN ?_) | (refine Below.trans ?_ (Below.mono (by assumption) (by first | omega | (simp; done) | (simp; omega)))))); (simp (maxDischargeDepth := 9) [results, Try.results56, go_sem, *]); (try simp only [beq_iff_eq, beq_eq_false_iff_ne, bne_iff_ne, bne_eq_false_iff_eq, ne_eq, Bool.not_eq_true, Bool.not_eq_true', Bool.not_eq_false', btw_iff, btw_not', Int.not_lt, Int.not_le] at *); (all_goals (try simp [Pu.mv, *]); all_goals (try (repeat' split)); all_goals (try first | rfl | omega | (exfalso; omega) | (simp_all; done) | (simp_all; omega) | (constructor <;> omega))))
  · simp only at h4 h5 h6 h7 h8
    clear h8 h9 h10
    go_enter Try.func56, Try.ntmps56
    go_wp2_with fail
    (refine wp_region_quiet_lit (by kernel_rfl) (by kernel_rfl) ?_; (repeat (any_goals (first | go_big_quiet_step (fail) | quiet_step (fail) | (refine wpQuiet_step (fun K hK => ?_); go_simp; split <;> (refine hK _ ?_; clear hK K))))); (all_goals (refine wpQuiet_nil ?_; intro _ hw'; obtain ⟨nq, hw''⟩ := hw'; subst hw'')))
    all_goals (go_wp2_with ((refine (HC.out _ _).mono ?_); rintro e w1 ⟨rfl, hb1⟩; obtain ⟨hc1, hf1, hs1⟩ := bcell hb1; have hz1 := hb1.size; (try simp at hz1)))
    all_goals (refine bodyPost_ret (v := .agg #[.int .i64 (Pu.mv ⟨r, e, c⟩ long ⟨s, k⟩).s, .int .i64 (Pu.mv ⟨r, e, c⟩ long ⟨s, k⟩).k]) ?_ rfl (ret_any rfl (by repeat first | exact Below.refl _ _ | assumption | (refine Below.alloc ?_ (by first | omega | (simp; done) | (simp; omega)) _) | (refine Below.setCell ?_ (by first | omega | (simp; done) | (simp; omega)) _) | (refine Below.drew ?_) | (refine belowDrewN ?_) | (refine Below.trans ?_ (Below.mono (by assumption) (by first | omega | (simp; done) | (simp; omega)))))); (simp (maxDischargeDepth := 9) [results, Try.results56, go_sem, *]); (try simp only [beq_iff_eq, beq_eq_false_iff_ne, bne_iff_ne, bne_eq_false_iff_eq, ne_eq, Bool.not_eq_true, Bool.not_eq_true', Bool.not_eq_false', btw_iff, btw_not', Int.not_lt, Int.not_le] at *); (all_goals (try simp [Pu.mv, *]); all_goals (try (repeat' split)); all_goals (try first | rfl | omega | (exfalso; omega) | (simp_all; done) | (simp_all; omega) | (constructor <;> omega))))
end Go.Proofs.Ytjmkjlhnipnkcaa
