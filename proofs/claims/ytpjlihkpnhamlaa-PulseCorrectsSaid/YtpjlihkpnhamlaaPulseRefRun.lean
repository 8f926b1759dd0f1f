/- The walk of the reference's Run: minute by minute. -/
import Derived.Test.YtpjlihkpnhamlaaPulseRefImp
import Derived.Test.YtpjlihkpnhamlaaTail
set_option linter.unusedSimpArgs false
set_option linter.unusedVariables false
namespace Go.Proofs.Ytpjlihkpnhamlaa
open Go.RowKit Go.Shelf

namespace Pu
theorem movesAt_le (fs : List (Int × Int)) (t : Int) : movesAt fs t ≤ 2 := by
  unfold movesAt
  split
  · split <;> omega
  · omega
/-- a dial after n impulses, from the one behind the minute f on -/
def runN (l : Ln) (f : Int) (fs : List (Int × Int)) (d : Dl) : Nat → Dl
  | 0 => d
  | n + 1 => imp l (f + n + 1) (movesAt fs (f + n + 1)) (runN l f fs d n)
theorem runN_ok {l : Ln} {f : Int} {fs : List (Int × Int)} {d : Dl} {B : Int} (h : d.ok B) (hB : 0 ≤ B) : ∀ n : Nat, (runN l f fs d n).ok (B + 2 * n)
  | 0 => by simpa [runN] using h
  | n + 1 => by
    have := imp_ok (l := l) (t := f + n + 1) (m := movesAt fs (f + n + 1)) (runN_ok (l := l) (f := f) (fs := fs) h hB n) (by omega)
    have hm := movesAt_le fs (f + n + 1)
    simp only [runN]
    unfold Dl.ok at *
    omega
end Pu

theorem later_trans {w wr : World} (hb : Below w.heap.size w wr) (x : Later wr) : Below w.heap.size w x.1 := hb.trans (x.2.mono hb.size)
def RefRunRel (r e c f U : Int) (fs : List (Int × Int)) (s k : Int) (w : World) (i : Value) (wr : World) : Prop :=
  ∃ (n : Nat), (n : Int) ≤ U - f ∧ i = .int .i64 (f + n + 1) ∧ Below w.heap.size w wr ∧ w.heap.size + 3 ≤ wr.heap.size ∧ Blk wr w.heap.size #[.int .i64 (Pu.runN ⟨r, e, c⟩ f fs ⟨s, k⟩ n).s, .int .i64 (Pu.runN ⟨r, e, c⟩ f fs ⟨s, k⟩ n).k] 37 ∧
    Blk wr (w.heap.size + 1) #[.int .i64 r, .int .i64 e, .int .i64 c] 24 ∧ Blk wr (w.heap.size + 1 + 1) #[.int .i64 0, .int .i64 0] 37

set_option maxHeartbeats 1000000 in
theorem refRun_any (r e c f U s k : Int) (a : Option Addr) (cp : Nat) (fs : List (Int × Int)) (w : World) (h : (Pu.Ln.mk r e c).ok) (hf : IsPairs w a fs) (f0 : 0 ≤ f) (f1 : f ≤ U) (u1 : U ≤ 1000000) (h0 : 0 ≤ s) (h1 : s < 720) (h2 : 0 ≤ k) (h3 : k ≤ 1000000) :
    Calls Try.prog 20 #[.agg #[.int .i64 s, .int .i64 k], .agg #[.int .i64 r, .int .i64 e, .int .i64 c], .int .i64 f, .slice a fs.length cp, .int .i64 U] w
      (Ret w (.agg #[.int .i64 (Pu.runN ⟨r, e, c⟩ f fs ⟨s, k⟩ (U - f).toNat).s, .int .i64 (Pu.runN ⟨r, e, c⟩ f fs ⟨s, k⟩ (U - f).toNat).k])) := by
  have hlen := hf.1
  have HZ := Lib.hid hf; clear hf
  have HI := Lib.hid (fun W s k t (m : Nat) (hd : Pu.Dl.ok 500000000 ⟨s, k⟩) (ht : 0 ≤ t) (hm : m ≤ 2) => refImpulse_any r e c s k t m W h ht hm hd.1 hd.2.1 hd.2.2.1 hd.2.2.2)
  have HM := Lib.hid (fun W t (hW : Below w.heap.size w W) => refMoves_any a cp fs t W (HZ.out.below hW))
  have HO := Lib.hid (Pu.runN_ok (l := ⟨r, e, c⟩) (f := f) (fs := fs) (d := ⟨s, k⟩) (B := k) ⟨h0, h1, h2, Int.le_refl _⟩ h2)
  clear h
  go_enter Try.func20, Try.ntmps20
  go_wp2_with fail
  refine wp_name ?_
  intro W hW
  have hb0 : Below w.heap.size w W := by rw [hW]; exact (by repeat first | exact Below.refl _ _ | assumption | (refine Below.alloc ?_ (by first | omega | (simp; done) | (simp; omega)) _) | (refine Below.setCell ?_ (by first | omega | (simp; done) | (simp; omega)) _) | (refine Below.drew ?_) | (refine belowDrewN ?_) | (refine Below.trans ?_ (Below.mono (by assumption) (by first | omega | (simp; done) | (simp; omega)))))
  have B0 : Blk W w.heap.size #[.int .i64 s, .int .i64 k] 37 := by rw [hW]; exact (by repeat first | exact blk_at (by first | rfl | omega | (simp; done) | (simp; omega)) | assumption | refine Blk.alloc ?_ _ | refine Blk.drew ?_ | refine Blk.drewN ?_ _ | (refine Blk.other ?_ _ (by first | omega | (simp; done) | (simp; omega))) | (refine Blk.below ?_ (by assumption)))
  have B1 : Blk W (w.heap.size + 1) #[.int .i64 r, .int .i64 e, .int .i64 c] 24 := by rw [hW]; exact (by repeat first | exact blk_at (by first | rfl | omega | (simp; done) | (simp; omega)) | assumption | refine Blk.alloc ?_ _ | refine Blk.drew ?_ | refine Blk.drewN ?_ _ | (refine Blk.other ?_ _ (by first | omega | (simp; done) | (simp; omega))) | (refine Blk.below ?_ (by assumption)))
  have B2 : Blk W (w.heap.size + 1 + 1) #[.int .i64 0, .int .i64 0] 37 := by rw [hW]; exact (by repeat first | exact blk_at (by first | rfl | omega | (simp; done) | (simp; omega)) | assumption | refine Blk.alloc ?_ _ | refine Blk.drew ?_ | refine Blk.drewN ?_ _ | (refine Blk.other ?_ _ (by first | omega | (simp; done) | (simp; omega))) | (refine Blk.below ?_ (by assumption)))
  have hz0 : w.heap.size + 3 ≤ W.heap.size := by rw [hW]; simp
  clear hW
  go_loopw [11] (fun i wr => RefRunRel r e c f U fs s k w i wr) (fun i _ => (U + 1 - intOf i).toNat)
  case atStart => exact ⟨0, by omega, by go_num, hb0, hz0, B0, B1, B2⟩
  case round =>
    obtain ⟨n, hn, rfl, hb, hz, b0, b1, b2⟩ := hrel
    clear B0 B1 B2 hb0 hz0
    have ho := HO.out n
    by_cases hlt : f + n + 1 ≤ U
    · have x00 := b0.later 0 rfl; have x01 := b0.later 1 rfl
      have x10 := b1.later 0 rfl; have x11 := b1.later 1 rfl; have x12 := b1.later 2 rfl
      go_wp2_with fail
      (refine wp_region_tail 7 (by kernel_rfl) (by kernel_rfl) ?_; simp only [List.take_succ_cons, List.take_zero, List.drop_succ_cons, List.drop_zero]; (repeat (any_goals (first | go_big_quiet_step ((first | (go_at_call 44; exact later_call (HM.out _ _ (later_trans hb _))) | (go_at_call 43; exact later_call (HI.out _ _ _ _ _ ⟨ho.1, ho.2.1, ho.2.2.1, by have := ho.2.2.2; dsimp only; omega⟩ (by omega) (Pu.movesAt_le _ _))))) | quiet_step ((first | (go_at_call 44; exact later_call (HM.out _ _ (later_trans hb _))) | (go_at_call 43; exact later_call (HI.out _ _ _ _ _ ⟨ho.1, ho.2.1, ho.2.2.1, by have := ho.2.2.2; dsimp only; omega⟩ (by omega) (Pu.movesAt_le _ _))))) | (refine wpQuiet_step (fun K hK => ?_); go_simp; split <;> (refine hK _ ?_; clear hK K))))); (all_goals (refine wpQuiet_nil ?_; intro wq hw'; obtain ⟨⟨_, hbq⟩, hw''⟩ := hw'; subst hw'')))
      have b0' := b0.below hbq; have b1' := b1.below hbq; have b2' := b2.below hbq
      have hzq := hbq.size
      have g0 := b0'.free
      have c00 := b0'.cell 0 rfl; have c01 := b0'.cell 1 rfl
      have hbb : Below w.heap.size w wq := hb.trans (hbq.mono hb.size)
      clear x00 x01 x10 x11 x12
      go_wp2
      exact ⟨⟨n + 1, by omega, by go_num, (by repeat first | exact Below.refl _ _ | assumption | (refine Below.alloc ?_ (by first | omega | (simp; done) | (simp; omega)) _) | (refine Below.setCell ?_ (by first | omega | (simp; done) | (simp; omega)) _) | (refine Below.drew ?_) | (refine belowDrewN ?_) | (refine Below.trans ?_ (Below.mono (by assumption) (by first | omega | (simp; done) | (simp; omega))))), by simp; omega, (b0'.set 0 _).set 1 _, (b1'.other _ (by first | omega | (simp; done) | (simp; omega))).other _ (by first | omega | (simp; done) | (simp; omega)), (b2'.other _ (by first | omega | (simp; done) | (simp; omega))).other _ (by first | omega | (simp; done) | (simp; omega))⟩, by simp [intOf]; omega⟩
    · have hn' : (U - f).toNat = n := by omega
      have c00 := b0.cell 0 rfl; have c01 := b0.cell 1 rfl
      have c20 := b2.cell 0 rfl; have c21 := b2.cell 1 rfl
      have g2 := b2.free
      have HN := Lib.hid hn'; clear hn'
      go_wp2_with fail
      (refine bodyPost_ret (v := .agg #[.int .i64 (Pu.runN ⟨r, e, c⟩ f fs ⟨s, k⟩ (U - f).toNat).s, .int .i64 (Pu.runN ⟨r, e, c⟩ f fs ⟨s, k⟩ (U - f).toNat).k]) ?_ rfl (ret_any rfl (by repeat first | exact Below.refl _ _ | assumption | (refine Below.alloc ?_ (by first | omega | (simp; done) | (simp; omega)) _) | (refine Below.setCell ?_ (by first | omega | (simp; done) | (simp; omega)) _) | (refine Below.drew ?_) | (refine belowDrewN ?_) | (refine Below.trans ?_ (Below.mono (by assumption) (by first | omega | (simp; done) | (simp; omega)))))); (simp (maxDischargeDepth := 9) [results, Try.results20, go_sem, *]); (try simp only [beq_iff_eq, beq_eq_false_iff_ne, bne_iff_ne, bne_eq_false_iff_eq, ne_eq, Bool.not_eq_true, Bool.not_eq_true', Bool.not_eq_false', btw_iff, btw_not', Int.not_lt, Int.not_le] at *); (rw [HN.out]; exact ⟨rfl, rfl⟩))
end Go.Proofs.Ytpjlihkpnhamlaa
