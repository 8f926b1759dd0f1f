/- The walk of pulse's impulse of a minute. -/
import Derived.Test.YtjmkjlhnipnkcaaPfPulseCor
set_option linter.unusedSimpArgs false
set_option linter.unusedVariables false
namespace Go.Proofs.Ytjmkjlhnipnkcaa
open Go.RowKit Go.Shelf
set_option maxHeartbeats 1000000 in
theorem impulse_any (r e c s k t : Int) (m : Nat) (w : World) (h : (Pu.Ln.mk r e c).ok) (ht : 0 ≤ t) (hm : m ≤ 2) (h0 : 0 ≤ s) (h1 : s < 720) (h2 : 0 ≤ k) (h3 : k ≤ 500000000) :
    Calls Try.prog 50 #[.agg #[.int .i64 r, .int .i64 e, .int .i64 c], .agg #[.int .i64 s, .int .i64 k], .int .i64 t, .int .i64 m] w (Ret w (.agg #[.int .i64 (Pu.imp ⟨r, e, c⟩ t m ⟨s, k⟩).s, .int .i64 (Pu.imp ⟨r, e, c⟩ t m ⟨s, k⟩).k])) := by
  obtain ⟨long, hlong⟩ : ∃ b, Pu.isLong ⟨r, e, c⟩ t = b := ⟨_, rfl⟩;have HL := Lib.hid (fun W => isLong_any r e c t W h ht);rw [hlong] at HL;have HM := Lib.hid (fun W s k (hd : Pu.Dl.ok (1000000000) ⟨s, k⟩) => move_any r e c s k long W h hd.1 hd.2.1 hd.2.2.1 hd.2.2.2);have HLO := Lib.hid hlong;have hok := fun n => Pu.mvs_ok (l := ⟨r, e, c⟩) (long := long) (d := ⟨s, k⟩) (B := k) ⟨h0, h1, h2, Int.le_refl _⟩ n
  have HO := Lib.hid hok;have H := Lib.hid h
  clear h hok
  clear hlong
  go_enter Try.func50, Try.ntmps50
  go_wp2_with (go_at_call 48; refine (HL.out _).mono ?_; rintro e w1 ⟨rfl, hb1⟩; obtain ⟨hc1, hf1, hs1⟩ := bcell hb1; have hz1 := hb1.size; (try simp at hz1))
  have hb0 : Below w.heap.size w w1 := (by repeat first | exact Below.refl _ _ | assumption | (refine Below.alloc ?_ (by first | omega | (simp; done) | (simp; omega)) _) | (refine Below.setCell ?_ (by first | omega | (simp; done) | (simp; omega)) _) | (refine Below.drew ?_) | (refine belowDrewN ?_) | (refine Below.trans ?_ (Below.mono (by assumption) (by first | omega | (simp; done) | (simp; omega)))));have B0 : Blk w1 w.heap.size #[.int .i64 r, .int .i64 e, .int .i64 c] 64 := (((Blk.new w _ _).alloc _).alloc _).below hb1;have B1 : Blk w1 (w.heap.size + 1) #[.int .i64 s, .int .i64 k] 72 := by
    have := ((Blk.new (w.alloc (.cells #[.int .i64 r, .int .i64 e, .int .i64 c] 64)) #[.int .i64 s, .int .i64 k] 72).alloc (.cells #[.int .i64 0, .int .i64 0] 72)).below hb1
    simpa using this
  have B2 : Blk w1 (w.heap.size + 1 + 1) #[.int .i64 0, .int .i64 0] 72 := by
    have := (Blk.new ((w.alloc (.cells #[.int .i64 r, .int .i64 e, .int .i64 c] 64)).alloc (.cells #[.int .i64 s, .int .i64 k] 72)) #[.int .i64 0, .int .i64 0] 72).below hb1
    simpa using this
  clear hb1 hc1 hf1 hs1
  go_loopw [14] (fun i wr => ∃ j : Nat, j ≤ m ∧ i = .int .i64 j ∧ Below w.heap.size w wr ∧ w.heap.size + 3 ≤ wr.heap.size ∧ Blk wr w.heap.size #[.int .i64 r, .int .i64 e, .int .i64 c] 64 ∧
    Blk wr (w.heap.size + 1) #[.int .i64 (Pu.mvs ⟨r, e, c⟩ long j ⟨s, k⟩).s, .int .i64 (Pu.mvs ⟨r, e, c⟩ long j ⟨s, k⟩).k] 72 ∧ Blk wr (w.heap.size + 1 + 1) #[.int .i64 0, .int .i64 0] 72) (fun i _ => m - (intOf i).toNat)
  case atStart => exact ⟨0, Nat.zero_le _, rfl, hb0, by omega, B0, B1, B2⟩
  case round =>
    obtain ⟨j, hj, rfl, hb, hz, b0, b1, b2⟩ := hrel
    clear B0 B1 B2 hb0 hz1
    have f0 := b0.free; have f1 := b1.free; have f2 := b2.free;have c00 := b0.cell 0 rfl; have c01 := b0.cell 1 rfl; have c02 := b0.cell 2 rfl;have c10 := b1.cell 0 rfl; have c11 := b1.cell 1 rfl;have c20 := b2.cell 0 rfl; have c21 := b2.cell 1 rfl
    go_wp2_with fail
    · have hjm : j < m := by assumption
      have ho := HO.out j;refine (HM.out wr _ _ ⟨ho.1, ho.2.1, ho.2.2.1, by have := ho.2.2.2; simp only; omega⟩).mono ?_
      rintro e w1 ⟨rfl, hb1⟩; obtain ⟨hc1, hf1, hs1⟩ := bcell hb1; have hz1 := hb1.size; (try simp at hz1)
      clear hc1 hf1 hs1
      have b0' := b0.below hb1; have b1' := b1.below hb1; have b2' := b2.below hb1;have f1' := b1'.free; have c10' := b1'.cell 0 rfl; have c11' := b1'.cell 1 rfl
      go_wp2
      go_roundw
      case rel => exact ⟨j + 1, by omega, by go_num, (by repeat first | exact Below.refl _ _ | assumption | (refine Below.alloc ?_ (by first | omega | (simp; done) | (simp; omega)) _) | (refine Below.setCell ?_ (by first | omega | (simp; done) | (simp; omega)) _) | (refine Below.drew ?_) | (refine belowDrewN ?_) | (refine Below.trans ?_ (Below.mono (by assumption) (by first | omega | (simp; done) | (simp; omega))))), by simp; omega, (b0'.other _ (by simp)).other _ (by simp), (b1'.set 0 _).set 1 _, (b2'.other _ (by simp)).other _ (by simp)⟩
      case measure => simp [intOf]; omega
    · have hj' : j = m := by have : ¬ j < m := by assumption
                             omega
      subst hj';obtain rfl : long = true := by assumption
      have ho := HO.out j;obtain ⟨g1, g2, g3, g4, g5, g6⟩ : 1 ≤ r ∧ r ≤ 3 ∧ 2 ≤ e ∧ e ≤ 360 ∧ 0 ≤ c ∧ c ≤ 179 := by
        rcases H.out with ⟨q1, _⟩ | ⟨q1, q2, q3, q4, _, q6, q7⟩
        · exfalso
          have := HLO.out;simp only at q1;simp [Pu.isLong, q1] at this
        · exact ⟨q1, q2, q3, q4, q6, div_reach q7 q4⟩
      refine (corrected_any r e c _ _ wr g1 g2 g3 g4 g5 g6 ho.1 ho.2.1 ho.2.2.1 (by have := ho.2.2.2; omega)).mono ?_
      rintro e w1 ⟨rfl, hb1⟩; obtain ⟨hc1, hf1, hs1⟩ := bcell hb1; have hz1 := hb1.size; (try simp at hz1)
      clear hc1 hf1 hs1
      have b2' := b2.below hb1;have f2' := b2'.free; have c20' := b2'.cell 0 rfl; have c21' := b2'.cell 1 rfl;have HE := Lib.hid (show Pu.cor ⟨r, e, c⟩ (Pu.mvs ⟨r, e, c⟩ true j ⟨s, k⟩) = Pu.imp ⟨r, e, c⟩ t j ⟨s, k⟩ by simp [Pu.imp, HLO.out])
      go_wp2
      (refine bodyPost_ret (v := .agg #[.int .i64 (Pu.imp ⟨r, e, c⟩ t j ⟨s, k⟩).s, .int .i64 (Pu.imp ⟨r, e, c⟩ t j ⟨s, k⟩).k]) ?_ rfl (ret_any rfl (by repeat first | exact Below.refl _ _ | assumption | (refine Below.alloc ?_ (by first | omega | (simp; done) | (simp; omega)) _) | (refine Below.setCell ?_ (by first | omega | (simp; done) | (simp; omega)) _) | (refine Below.drew ?_) | (refine belowDrewN ?_) | (refine Below.trans ?_ (Below.mono (by assumption) (by first | omega | (simp; done) | (simp; omega)))))); (simp (maxDischargeDepth := 9) [results, Try.results50, go_sem, *]); (try simp only [beq_iff_eq, beq_eq_false_iff_ne, bne_iff_ne, bne_eq_false_iff_eq, ne_eq, Bool.not_eq_true, Bool.not_eq_true', Bool.not_eq_false', btw_iff, btw_not', Int.not_lt, Int.not_le] at *); (rw [← HE.out]; exact ⟨rfl, rfl⟩))
    · have hj' : j = m := by have : ¬ j < m := by assumption
                             omega
      subst hj';obtain rfl : long = false := by assumption
      have HE := Lib.hid (show Pu.mvs ⟨r, e, c⟩ false j ⟨s, k⟩ = Pu.imp ⟨r, e, c⟩ t j ⟨s, k⟩ by simp [Pu.imp, HLO.out])
      (refine bodyPost_ret (v := .agg #[.int .i64 (Pu.imp ⟨r, e, c⟩ t j ⟨s, k⟩).s, .int .i64 (Pu.imp ⟨r, e, c⟩ t j ⟨s, k⟩).k]) ?_ rfl (ret_any rfl (by repeat first | exact Below.refl _ _ | assumption | (refine Below.alloc ?_ (by first | omega | (simp; done) | (simp; omega)) _) | (refine Below.setCell ?_ (by first | omega | (simp; done) | (simp; omega)) _) | (refine Below.drew ?_) | (refine belowDrewN ?_) | (refine Below.trans ?_ (Below.mono (by assumption) (by first | omega | (simp; done) | (simp; omega)))))); (simp (maxDischargeDepth := 9) [results, Try.results50, go_sem, *]); (try simp only [beq_iff_eq, beq_eq_false_iff_ne, bne_iff_ne, bne_eq_false_iff_eq, ne_eq, Bool.not_eq_true, Bool.not_eq_true', Bool.not_eq_false', btw_iff, btw_not', Int.not_lt, Int.not_le] at *); (rw [← HE.out]; exact ⟨rfl, rfl⟩))
end Go.Proofs.Ytjmkjlhnipnkcaa
