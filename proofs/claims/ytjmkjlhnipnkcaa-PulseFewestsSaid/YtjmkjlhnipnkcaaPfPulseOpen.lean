/- The walk of pulse.open. -/
import Derived.Test.YtjmkjlhnipnkcaaPfPulseImp
import Derived.Test.YtjmkjlhnipnkcaaPfPulseChk
import Derived.Deep.RegionHeld3
set_option linter.unusedSimpArgs false
set_option linter.unusedVariables false
namespace Go.Proofs.Ytjmkjlhnipnkcaa
open Go.RowKit Go.Shelf
set_option maxHeartbeats 400000 in
theorem open_any (r e c : Int) (w : World) (hr : (Lit.int .i64 r).wf = true) (he : (Lit.int .i64 e).wf = true) (hc : (Lit.int .i64 c).wf = true) :
    Calls Try.prog 28 #[.agg #[.int .i64 r, .int .i64 e, .int .i64 c]] w (Ret w (.tuple #[.agg #[.int .i64 r, .int .i64 e, .int .i64 c], .int .i64 (Pu.lineErr r e c)])) := by
  have HC := Lib.hid (fun W => check_any r e c W hr he hc)
  go_enter Try.func28, Try.ntmps28
  go_wp2_with fail
  refine wp_name ?_;intro W hW;have hb0 : Below w.heap.size w W := by rw [hW]; exact (by repeat first | exact Below.refl _ _ | assumption | (refine Below.alloc ?_ (by first | omega | (simp; done) | (simp; omega)) _) | (refine Below.setCell ?_ (by first | omega | (simp; done) | (simp; omega)) _) | (refine Below.drew ?_) | (refine belowDrewN ?_) | (refine Below.trans ?_ (Below.mono (by assumption) (by first | omega | (simp; done) | (simp; omega)))))
  have B0 : Blk W w.heap.size #[.int .i64 r, .int .i64 e, .int .i64 c] 24 := by rw [hW]; exact (by repeat first | exact blk_at (by first | rfl | omega | (simp; done) | (simp; omega)) | assumption | refine Blk.alloc ?_ _ | refine Blk.drew ?_ | refine Blk.drewN ?_ _ | (refine Blk.other ?_ _ (by first | omega | (simp; done) | (simp; omega))) | (refine Blk.below ?_ (by assumption)))
  have B1 : Blk W (w.heap.size + 1) #[.int .i64 0, .int .i64 0, .int .i64 0] 64 := by rw [hW]; exact (by repeat first | exact blk_at (by first | rfl | omega | (simp; done) | (simp; omega)) | assumption | refine Blk.alloc ?_ _ | refine Blk.drew ?_ | refine Blk.drewN ?_ _ | (refine Blk.other ?_ _ (by first | omega | (simp; done) | (simp; omega))) | (refine Blk.below ?_ (by assumption)))
  have hz : w.heap.size + 2 ≤ W.heap.size := by rw [hW]; simp
  clear hW
  have S0 : ∀ W', Below W.heap.size W W' → Blk W' w.heap.size #[.int .i64 r, .int .i64 e, .int .i64 c] 24 ∧ Blk W' (w.heap.size + 1) #[.int .i64 0, .int .i64 0, .int .i64 0] 64 := fun W' h => ⟨B0.below h, B1.below h⟩
  have f1 := B1.free;have c00 := B0.cell 0 rfl; have c01 := B0.cell 1 rfl; have c02 := B0.cell 2 rfl;have c10 := B1.cell 0 rfl; have c11 := B1.cell 1 rfl; have c12 := B1.cell 2 rfl;have hl : w.heap.size < W.heap.size := by omega
  go_region_held3 (fun w' => w'.cell? ⟨w.heap.size, 0, none⟩ = some (.int .i64 r) ∧ w'.cell? ⟨w.heap.size, 1, none⟩ = some (.int .i64 e) ∧ w'.cell? ⟨w.heap.size, 2, none⟩ = some (.int .i64 c)) (first | exact ⟨c00, c01, c02⟩ | exact ⟨(hc1 _ _ hl).trans c00, (hc1 _ _ hl).trans c01, (hc1 _ _ hl).trans c02⟩ | (go_keep; done))
    (first | (go_at_call 12; refine (HC.out _).mono ?_; rintro e w1 ⟨rfl, hb1⟩; obtain ⟨hc1, hf1, hs1⟩ := bcell hb1; have hz1 := hb1.size; (try simp at hz1); have b1' := B1.drew.below hb1; have f1' := b1'.free; have d10 := b1'.cell 0 rfl; have d11 := b1'.cell 1 rfl; have d12 := b1'.cell 2 rfl))
  go_wp2
  (refine bodyPost_ret (v := .tuple #[.agg #[.int .i64 r, .int .i64 e, .int .i64 c], .int .i64 (Pu.lineErr r e c)]) ?_ rfl (ret_any rfl (by repeat first | exact Below.refl _ _ | assumption | (refine Below.alloc ?_ (by first | omega | (simp; done) | (simp; omega)) _) | (refine Below.setCell ?_ (by first | omega | (simp; done) | (simp; omega)) _) | (refine Below.drew ?_) | (refine belowDrewN ?_) | (refine Below.trans ?_ (Below.mono (by assumption) (by first | omega | (simp; done) | (simp; omega)))))); (simp (maxDischargeDepth := 9) [results, Try.results28, go_sem, *]); (try simp only [beq_iff_eq, beq_eq_false_iff_ne, bne_iff_ne, bne_eq_false_iff_eq, ne_eq, Bool.not_eq_true, Bool.not_eq_true', Bool.not_eq_false', btw_iff, btw_not', Int.not_lt, Int.not_le] at *); done)
end Go.Proofs.Ytjmkjlhnipnkcaa
