/- The walk of the reference's impulse of a minute. -/
import Derived.Test.YtpjlihkpnhamlaaPulseRef
set_option linter.unusedSimpArgs false
set_option linter.unusedVariables false
namespace Go.Proofs.Ytpjlihkpnhamlaa
open Go.RowKit Go.Shelf

set_option maxHeartbeats 2000000 in
theorem refImpulse_any (r e c s k t : Int) (m : Nat) (w : World) (h : (Pu.Ln.mk r e c).ok) (ht : 0 ≤ t) (hm : m ≤ 2) (h0 : 0 ≤ s) (h1 : s < 720) (h2 : 0 ≤ k) (h3 : k ≤ 500000000) :
    Calls Try.prog 43 #[.agg #[.int .i64 s, .int .i64 k], .agg #[.int .i64 r, .int .i64 e, .int .i64 c], .int .i64 t, .int .i64 m] w (Ret w (.agg #[.int .i64 (Pu.imp ⟨r, e, c⟩ t m ⟨s, k⟩).s, .int .i64 (Pu.imp ⟨r, e, c⟩ t m ⟨s, k⟩).k])) := by
  obtain ⟨long, hlong⟩ : ∃ b, Pu.isLong ⟨r, e, c⟩ t = b := ⟨_, rfl⟩
  have HL := Lib.hid (fun W => refLong_any r e c t W h ht)
  rw [hlong] at HL
  have HLO := Lib.hid hlong
  have HI := Lib.hid (Pu.rimp_imp h (t := t) (m := m) (d := ⟨s, k⟩) (B := k) ⟨h0, h1, h2, Int.le_refl _⟩)
  have hok := fun n => Pu.mvs_ok (l := ⟨r, e, c⟩) (long := long) (d := ⟨s, k⟩) (B := k) ⟨h0, h1, h2, Int.le_refl _⟩ n
  have HO := Lib.hid hok
  have H := Lib.hid h
  clear h hok
  clear hlong
  go_enter Try.func43, Try.ntmps43
  go_wp2_with (go_at_call 42; refine (HL.out _).mono ?_; rintro e w1 ⟨rfl, hb1⟩; obtain ⟨hc1, hf1, hs1⟩ := bcell hb1; have hz1 := hb1.size; (try simp at hz1))
  have hb0 : Below w.heap.size w w1 := (by repeat first | exact Below.refl _ _ | assumption | (refine Below.alloc ?_ (by first | omega | (simp; done) | (simp; omega)) _) | (refine Below.setCell ?_ (by first | omega | (simp; done) | (simp; omega)) _) | (refine Below.drew ?_) | (refine belowDrewN ?_) | (refine Below.trans ?_ (Below.mono (by assumption) (by first | omega | (simp; done) | (simp; omega)))))
  have B0 : Blk w1 w.heap.size #[.int .i64 s, .int .i64 k] 37 := Blk.below (by repeat first | exact blk_at (by first | rfl | omega | (simp; done) | (simp; omega)) | assumption | refine Blk.alloc ?_ _ | refine Blk.drew ?_ | refine Blk.drewN ?_ _ | (refine Blk.other ?_ _ (by first | omega | (simp; done) | (simp; omega))) | (refine Blk.below ?_ (by assumption))) hb1
  have B1 : Blk w1 (w.heap.size + 1) #[.int .i64 r, .int .i64 e, .int .i64 c] 24 := Blk.below (by repeat first | exact blk_at (by first | rfl | omega | (simp; done) | (simp; omega)) | assumption | refine Blk.alloc ?_ _ | refine Blk.drew ?_ | refine Blk.drewN ?_ _ | (refine Blk.other ?_ _ (by first | omega | (simp; done) | (simp; omega))) | (refine Blk.below ?_ (by assumption))) hb1
  have B2 : Blk w1 (w.heap.size + 1 + 1) #[.int .i64 0, .int .i64 0] 37 := Blk.below (by repeat first | exact blk_at (by first | rfl | omega | (simp; done) | (simp; omega)) | assumption | refine Blk.alloc ?_ _ | refine Blk.drew ?_ | refine Blk.drewN ?_ _ | (refine Blk.other ?_ _ (by first | omega | (simp; done) | (simp; omega))) | (refine Blk.below ?_ (by assumption))) hb1
  clear hb1 hc1 hf1 hs1
  go_loopw [3] (fun i wr => ∃ j : Nat, j ≤ m ∧ i = .int .i64 (m - j : Nat) ∧ Below w.heap.size w wr ∧ w.heap.size + 3 ≤ wr.heap.size ∧ Blk wr (w.heap.size + 1) #[.int .i64 r, .int .i64 e, .int .i64 c] 24 ∧
    Blk wr w.heap.size #[.int .i64 (Pu.mvs ⟨r, e, c⟩ long j ⟨s, k⟩).s, .int .i64 (Pu.mvs ⟨r, e, c⟩ long j ⟨s, k⟩).k] 37 ∧ Blk wr (w.heap.size + 1 + 1) #[.int .i64 0, .int .i64 0] 37) (fun i _ => (intOf i).toNat)
  case atStart => exact ⟨0, Nat.zero_le _, rfl, hb0, by omega, B1, B0, B2⟩
  case round =>
    obtain ⟨j, hj, rfl, hb, hz, b1, b0, b2⟩ := hrel
    clear B0 B1 B2 hb0 hz1
    have f0 := b0.free; have f2 := b2.free
    have c00 := b0.cell 0 rfl; have c01 := b0.cell 1 rfl
    have c10 := b1.cell 0 rfl; have c11 := b1.cell 1 rfl; have c12 := b1.cell 2 rfl
    have c20 := b2.cell 0 rfl; have c21 := b2.cell 1 rfl
    have ho := HO.out j
    have q0 := ho.1; have q1 := ho.2.1; have q2 := ho.2.2.1; have q3 := ho.2.2.2
    rcases H.out with ⟨g1, g2, g3⟩ | ⟨g1, g2, g3, g4, g5, g6, g7⟩
    · dsimp only at g1 g2 g3
      subst g1 g2 g3
      obtain rfl : long = false := by have := HLO.out; simpa [Pu.isLong] using this.symm
      by_cases hjm : j < m
      · have hlt : (0 : Int) < (m - j : Nat) := by omega
        go_wp2_with fail
        (refine wp_region_quiet_lit (by kernel_rfl) (by kernel_rfl) ?_; (repeat (any_goals (first | go_big_quiet_step (fail) | quiet_step (fail) | (refine wpQuiet_step (fun K hK => ?_); go_simp; split <;> (refine hK _ ?_; clear hK K))))); (all_goals (refine wpQuiet_nil ?_; intro _ hw'; obtain ⟨nq, hw''⟩ := hw'; subst hw'')))
        all_goals go_wp2
        refine ⟨⟨j + 1, by omega, by congr 1; omega, (by repeat first | exact Below.refl _ _ | assumption | (refine Below.alloc ?_ (by first | omega | (simp; done) | (simp; omega)) _) | (refine Below.setCell ?_ (by first | omega | (simp; done) | (simp; omega)) _) | (refine Below.drew ?_) | (refine belowDrewN ?_) | (refine Below.trans ?_ (Below.mono (by assumption) (by first | omega | (simp; done) | (simp; omega))))), by simp; omega, ((b1.drewN nq).other _ (by first | omega | (simp; done) | (simp; omega))).other _ (by first | omega | (simp; done) | (simp; omega)), ?_, ((b2.drewN nq).other _ (by first | omega | (simp; done) | (simp; omega))).other _ (by first | omega | (simp; done) | (simp; omega))⟩, by simp [intOf]; omega⟩
        have hm : Pu.mvs ⟨0, 0, 0⟩ false (j + 1) ⟨s, k⟩ = ⟨((Pu.mvs ⟨0, 0, 0⟩ false j ⟨s, k⟩).s + 1) % 720, (Pu.mvs ⟨0, 0, 0⟩ false j ⟨s, k⟩).k + 1⟩ := by simp [Pu.mvs, Pu.mv]
        rw [hm]
        exact ((b0.drewN nq).set 0 _).set 1 _
      · have hj' : j = m := by omega
        subst hj'
        go_wp2_with fail
        have HE := Lib.hid (show Pu.mvs ⟨0, 0, 0⟩ false j ⟨s, k⟩ = Pu.imp ⟨0, 0, 0⟩ t j ⟨s, k⟩ by simp [Pu.imp, HLO.out])
        (refine bodyPost_ret (v := .agg #[.int .i64 (Pu.imp ⟨0, 0, 0⟩ t j ⟨s, k⟩).s, .int .i64 (Pu.imp ⟨0, 0, 0⟩ t j ⟨s, k⟩).k]) ?_ rfl (ret_any rfl (by repeat first | exact Below.refl _ _ | assumption | (refine Below.alloc ?_ (by first | omega | (simp; done) | (simp; omega)) _) | (refine Below.setCell ?_ (by first | omega | (simp; done) | (simp; omega)) _) | (refine Below.drew ?_) | (refine belowDrewN ?_) | (refine Below.trans ?_ (Below.mono (by assumption) (by first | omega | (simp; done) | (simp; omega)))))); (simp (maxDischargeDepth := 9) [results, Try.results43, go_sem, *]); (try simp only [beq_iff_eq, beq_eq_false_iff_ne, bne_iff_ne, bne_eq_false_iff_eq, ne_eq, Bool.not_eq_true, Bool.not_eq_true', Bool.not_eq_false', btw_iff, btw_not', Int.not_lt, Int.not_le] at *); (rw [← HE.out]; exact ⟨rfl, rfl⟩))
    · dsimp only at g1 g2 g3 g4
      by_cases hjm : j < m
      · have hlt : (0 : Int) < (m - j : Nat) := by omega
        have m0 : 0 ≤ (Pu.mvs ⟨r, e, c⟩ long j ⟨s, k⟩).s % e := Int.emod_nonneg _ (by omega)
        clear g5 g6 g7
        have h0' := b0.lt; have h1' := b1.lt; have h2' := b2.lt
        by_cases r2 : r = 2
        · subst r2
          cases long
          · by_cases q : (Pu.mvs ⟨2, e, c⟩ false j ⟨s, k⟩).s % e = e - 1
            · have HT := Lib.hid (show Pu.mvs ⟨2, e, c⟩ false (j + 1) ⟨s, k⟩ = Pu.mvs ⟨2, e, c⟩ false j ⟨s, k⟩ by simp [Pu.mvs, Pu.mv, q])
              have q' : ((Pu.mvs ⟨2, e, c⟩ false j ⟨s, k⟩).s % e == e - 1) = true := by simpa using q
              clear q
              go_wp2_with fail
              (refine wp_region_quiet_lit (by kernel_rfl) (by kernel_rfl) ?_; (repeat (any_goals (first | go_big_quiet_step (fail) | quiet_step (fail) | (refine wpQuiet_step (fun K hK => ?_); go_simp; split <;> (refine hK _ ?_; clear hK K))))); (all_goals (refine wpQuiet_nil ?_; intro _ hw'; obtain ⟨nq, hw''⟩ := hw'; subst hw'')))
              all_goals go_wp2
              refine ⟨⟨j + 1, by omega, by congr 1; omega, (by repeat first | exact Below.refl _ _ | assumption | (refine Below.alloc ?_ (by first | omega | (simp; done) | (simp; omega)) _) | (refine Below.setCell ?_ (by first | omega | (simp; done) | (simp; omega)) _) | (refine Below.drew ?_) | (refine belowDrewN ?_) | (refine Below.trans ?_ (Below.mono (by assumption) (by first | omega | (simp; done) | (simp; omega))))), by simp; omega, (b1.drewN nq), ?_, (b2.drewN nq)⟩, by simp [intOf]; omega⟩
              rw [HT.out]
              exact b0.drewN nq
            · have HT := Lib.hid (show Pu.mvs ⟨2, e, c⟩ false (j + 1) ⟨s, k⟩ = ⟨((Pu.mvs ⟨2, e, c⟩ false j ⟨s, k⟩).s + 1) % 720, (Pu.mvs ⟨2, e, c⟩ false j ⟨s, k⟩).k + 1⟩ by simp [Pu.mvs, Pu.mv, q])
              have q' : ((Pu.mvs ⟨2, e, c⟩ false j ⟨s, k⟩).s % e == e - 1) = false := by simpa using q
              clear q
              go_wp2_with fail
              (refine wp_region_quiet_lit (by kernel_rfl) (by kernel_rfl) ?_; (repeat (any_goals (first | go_big_quiet_step (fail) | quiet_step (fail) | (refine wpQuiet_step (fun K hK => ?_); go_simp; split <;> (refine hK _ ?_; clear hK K))))); (all_goals (refine wpQuiet_nil ?_; intro _ hw'; obtain ⟨nq, hw''⟩ := hw'; subst hw'')))
              all_goals go_wp2
              refine ⟨⟨j + 1, by omega, by congr 1; omega, (by repeat first | exact Below.refl _ _ | assumption | (refine Below.alloc ?_ (by first | omega | (simp; done) | (simp; omega)) _) | (refine Below.setCell ?_ (by first | omega | (simp; done) | (simp; omega)) _) | (refine Below.drew ?_) | (refine belowDrewN ?_) | (refine Below.trans ?_ (Below.mono (by assumption) (by first | omega | (simp; done) | (simp; omega))))), by simp; omega, ((b1.drewN nq).other _ (by first | omega | (simp; done) | (simp; omega))).other _ (by first | omega | (simp; done) | (simp; omega)), ?_, ((b2.drewN nq).other _ (by first | omega | (simp; done) | (simp; omega))).other _ (by first | omega | (simp; done) | (simp; omega))⟩, by simp [intOf]; omega⟩
              rw [HT.out]
              exact ((b0.drewN nq).set 0 _).set 1 _
          · have HT := Lib.hid (show Pu.mvs ⟨2, e, c⟩ true (j + 1) ⟨s, k⟩ = ⟨((Pu.mvs ⟨2, e, c⟩ true j ⟨s, k⟩).s + 1) % 720, (Pu.mvs ⟨2, e, c⟩ true j ⟨s, k⟩).k + 1⟩ by simp [Pu.mvs, Pu.mv])
            go_wp2_with fail
            (refine wp_region_quiet_lit (by kernel_rfl) (by kernel_rfl) ?_; (repeat (any_goals (first | go_big_quiet_step (fail) | quiet_step (fail) | (refine wpQuiet_step (fun K hK => ?_); go_simp; split <;> (refine hK _ ?_; clear hK K))))); (all_goals (refine wpQuiet_nil ?_; intro _ hw'; obtain ⟨nq, hw''⟩ := hw'; subst hw'')))
            all_goals go_wp2
            refine ⟨⟨j + 1, by omega, by congr 1; omega, (by repeat first | exact Below.refl _ _ | assumption | (refine Below.alloc ?_ (by first | omega | (simp; done) | (simp; omega)) _) | (refine Below.setCell ?_ (by first | omega | (simp; done) | (simp; omega)) _) | (refine Below.drew ?_) | (refine belowDrewN ?_) | (refine Below.trans ?_ (Below.mono (by assumption) (by first | omega | (simp; done) | (simp; omega))))), by simp; omega, ((b1.drewN nq).other _ (by first | omega | (simp; done) | (simp; omega))).other _ (by first | omega | (simp; done) | (simp; omega)), ?_, ((b2.drewN nq).other _ (by first | omega | (simp; done) | (simp; omega))).other _ (by first | omega | (simp; done) | (simp; omega))⟩, by simp [intOf]; omega⟩
            rw [HT.out]
            exact ((b0.drewN nq).set 0 _).set 1 _
        · have HT := Lib.hid (show Pu.mvs ⟨r, e, c⟩ long (j + 1) ⟨s, k⟩ = ⟨((Pu.mvs ⟨r, e, c⟩ long j ⟨s, k⟩).s + 1) % 720, (Pu.mvs ⟨r, e, c⟩ long j ⟨s, k⟩).k + 1⟩ by simp [Pu.mvs, Pu.mv, r2])
          have r2' : (r == 2) = false := by simpa using r2
          go_wp2_with fail
          (refine wp_region_quiet_lit (by kernel_rfl) (by kernel_rfl) ?_; (repeat (any_goals (first | go_big_quiet_step (fail) | quiet_step (fail) | (refine wpQuiet_step (fun K hK => ?_); go_simp; split <;> (refine hK _ ?_; clear hK K))))); (all_goals (refine wpQuiet_nil ?_; intro _ hw'; obtain ⟨nq, hw''⟩ := hw'; subst hw'')))
          all_goals go_wp2
          refine ⟨⟨j + 1, by omega, by congr 1; omega, (by repeat first | exact Below.refl _ _ | assumption | (refine Below.alloc ?_ (by first | omega | (simp; done) | (simp; omega)) _) | (refine Below.setCell ?_ (by first | omega | (simp; done) | (simp; omega)) _) | (refine Below.drew ?_) | (refine belowDrewN ?_) | (refine Below.trans ?_ (Below.mono (by assumption) (by first | omega | (simp; done) | (simp; omega))))), by simp; omega, ((b1.drewN nq).other _ (by first | omega | (simp; done) | (simp; omega))).other _ (by first | omega | (simp; done) | (simp; omega)), ?_, ((b2.drewN nq).other _ (by first | omega | (simp; done) | (simp; omega))).other _ (by first | omega | (simp; done) | (simp; omega))⟩, by simp [intOf]; omega⟩
          rw [HT.out]
          exact ((b0.drewN nq).set 0 _).set 1 _
      · have hj' : j = m := by omega
        subst hj'
        cases long
        · go_wp2_with fail
          have HE := Lib.hid (show Pu.mvs ⟨r, e, c⟩ false j ⟨s, k⟩ = Pu.imp ⟨r, e, c⟩ t j ⟨s, k⟩ by simp [Pu.imp, HLO.out])
          (refine bodyPost_ret (v := .agg #[.int .i64 (Pu.imp ⟨r, e, c⟩ t j ⟨s, k⟩).s, .int .i64 (Pu.imp ⟨r, e, c⟩ t j ⟨s, k⟩).k]) ?_ rfl (ret_any rfl (by repeat first | exact Below.refl _ _ | assumption | (refine Below.alloc ?_ (by first | omega | (simp; done) | (simp; omega)) _) | (refine Below.setCell ?_ (by first | omega | (simp; done) | (simp; omega)) _) | (refine Below.drew ?_) | (refine belowDrewN ?_) | (refine Below.trans ?_ (Below.mono (by assumption) (by first | omega | (simp; done) | (simp; omega)))))); (simp (maxDischargeDepth := 9) [results, Try.results43, go_sem, *]); (try simp only [beq_iff_eq, beq_eq_false_iff_ne, bne_iff_ne, bne_eq_false_iff_eq, ne_eq, Bool.not_eq_true, Bool.not_eq_true', Bool.not_eq_false', btw_iff, btw_not', Int.not_lt, Int.not_le] at *); (rw [← HE.out]; exact ⟨rfl, rfl⟩))
        · have HE := Lib.hid (show Pu.rcor ⟨r, e, c⟩ (Pu.mvs ⟨r, e, c⟩ true j ⟨s, k⟩) = Pu.imp ⟨r, e, c⟩ t j ⟨s, k⟩ by rw [← HI.out]; simp [Pu.rimp, HLO.out])
          have m0 : 0 ≤ (Pu.mvs ⟨r, e, c⟩ true j ⟨s, k⟩).s % e := Int.emod_nonneg _ (by omega)
          have m1 : (Pu.mvs ⟨r, e, c⟩ true j ⟨s, k⟩).s % e < e := Int.emod_lt_of_pos _ (by omega)
          have c3 : c ≤ 179 := by dsimp only at g7; omega
          have c4 : 0 ≤ c := g6
          have m2 : (Pu.mvs ⟨r, e, c⟩ true j ⟨s, k⟩).s % e ≤ (Pu.mvs ⟨r, e, c⟩ true j ⟨s, k⟩).s := by
            rcases Int.lt_or_le (Pu.mvs ⟨r, e, c⟩ true j ⟨s, k⟩).s e with h | h
            · rw [Int.emod_eq_of_lt q0 h]; exact Int.le_refl _
            · omega
          clear g5 g6 g7
          generalize Pu.mvs ⟨r, e, c⟩ true j ⟨s, k⟩ = d at *
          obtain ⟨ds, dk⟩ := d
          dsimp only at *
          go_wp2_with fail
          all_goals (refine bodyPost_ret (v := .agg #[.int .i64 (Pu.imp ⟨r, e, c⟩ t j ⟨s, k⟩).s, .int .i64 (Pu.imp ⟨r, e, c⟩ t j ⟨s, k⟩).k]) ?_ rfl (ret_any rfl (by repeat first | exact Below.refl _ _ | assumption | (refine Below.alloc ?_ (by first | omega | (simp; done) | (simp; omega)) _) | (refine Below.setCell ?_ (by first | omega | (simp; done) | (simp; omega)) _) | (refine Below.drew ?_) | (refine belowDrewN ?_) | (refine Below.trans ?_ (Below.mono (by assumption) (by first | omega | (simp; done) | (simp; omega)))))); (simp (maxDischargeDepth := 9) [results, Try.results43, go_sem, *]); (try simp only [beq_iff_eq, beq_eq_false_iff_ne, bne_iff_ne, bne_eq_false_iff_eq, ne_eq, Bool.not_eq_true, Bool.not_eq_true', Bool.not_eq_false', btw_iff, btw_not', Int.not_lt, Int.not_le] at *); (rw [← HE.out]; clear HE HI HO HL HLO; unfold Pu.rcor; (repeat' split) <;> (first | exact ⟨rfl, rfl⟩ | (exfalso; omega) | (simp_all; done) | (simp_all; omega))))
end Go.Proofs.Ytpjlihkpnhamlaa
