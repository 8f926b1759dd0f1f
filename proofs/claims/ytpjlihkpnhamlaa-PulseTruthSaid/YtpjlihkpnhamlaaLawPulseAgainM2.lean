/- LawPulseAgain: texts joined into one: PulseRefImp, Tail, PulseRefRun, Range, PulseMoves, Within, PulseWithin, PulseLow, PulseCor, PulseImp, PulseFollow, PulseFollow1, PulseChk, PulseOpen, PulseFaults, PulseRun, PulseBack0, PulseBack, PulseBackAny, PulseCorr, IMap, Key2, DialKey, FewAdd, FewAfter, FewSeen, FewPlain, FewDel, IMapIn. -/
import Derived.StillTail
import Derived.RangeFuncOwn
import Derived.RangeFuncSeq
import Derived.Deep.RegionHeld3
import Derived.WalkKit
import Derived.OwnWalkIn
import Derived.TacticsInMore
import Derived.RegionIn
import Derived.LoopNIn
import Derived.LoopIn
import Derived.BigFrameIn
import Derived.Maps.RangeWalk
import Derived.DeepKeys5
import Derived.Sort.MapsRangeIn
import Derived.Test.YtpjlihkpnhamlaaLawPulseAgainM1

/- The walk of the reference's impulse of a minute. -/
section
set_option linter.unusedSimpArgs false
set_option linter.unusedVariables false
namespace Go.Proofs.Ytpjlihkpnhamlaa
open Go.RowKit Go.Shelf

set_option maxHeartbeats 2000000 in
theorem refImpulse_any (r e c s k t : Int) (m : Nat) (w : World) (h : (Pu.Ln.mk r e c).ok) (ht : 0 ≤ t) (hm : m ≤ 2) (h0 : 0 ≤ s) (h1 : s < 720) (h2 : 0 ≤ k) (h3 : k ≤ 500000000) :
    Calls Try.prog 43 #[.agg #[.int .i64 s, .int .i64 k], .agg #[.int .i64 r, .int .i64 e, .int .i64 c], .int .i64 t, .int .i64 m] w (Ret w (.agg #[.int .i64 (Pu.imp ⟨r, e, c⟩ t m ⟨s, k⟩).s, .int .i64 (Pu.imp ⟨r, e, c⟩ t m ⟨s, k⟩).k])) := by
  obtain ⟨long, hlong⟩ : ∃ b, Pu.isLong ⟨r, e, c⟩ t = b := ⟨_, rfl⟩
  have HL := Lib.hid (fun W => refLong_any r e c t W h ht)
  rw [hlong] at HL
  have HLO := Lib.hid hlong
  have HI := Lib.hid (Pu.rimp_imp h (t := t) (m := m) (d := ⟨s, k⟩) (B := k) ⟨h0, h1, h2, Int.le_refl _⟩)
  have hok := fun n => Pu.mvs_ok (l := ⟨r, e, c⟩) (long := long) (d := ⟨s, k⟩) (B := k) ⟨h0, h1, h2, Int.le_refl _⟩ n
  have HO := Lib.hid hok
  have H := Lib.hid h
  clear h hok
  clear hlong
  go_enter Try.func43, Try.ntmps43
  go_wp2_with (go_at_call 42; refine (HL.out _).mono ?_; rintro e w1 ⟨rfl, hb1⟩; obtain ⟨hc1, hf1, hs1⟩ := bcell hb1; have hz1 := hb1.size; (try simp at hz1))
  have hb0 : Below w.heap.size w w1 := (by repeat first | exact Below.refl _ _ | assumption | (refine Below.alloc ?_ (by first | omega | (simp; done) | (simp; omega)) _) | (refine Below.setCell ?_ (by first | omega | (simp; done) | (simp; omega)) _) | (refine Below.drew ?_) | (refine belowDrewN ?_) | (refine Below.trans ?_ (Below.mono (by assumption) (by first | omega | (simp; done) | (simp; omega)))))
  have B0 : Blk w1 w.heap.size #[.int .i64 s, .int .i64 k] 37 := Blk.below (by repeat first | exact blk_at (by first | rfl | omega | (simp; done) | (simp; omega)) | assumption | refine Blk.alloc ?_ _ | refine Blk.drew ?_ | refine Blk.drewN ?_ _ | (refine Blk.other ?_ _ (by first | omega | (simp; done) | (simp; omega))) | (refine Blk.below ?_ (by assumption))) hb1
  have B1 : Blk w1 (w.heap.size + 1) #[.int .i64 r, .int .i64 e, .int .i64 c] 24 := Blk.below (by repeat first | exact blk_at (by first | rfl | omega | (simp; done) | (simp; omega)) | assumption | refine Blk.alloc ?_ _ | refine Blk.drew ?_ | refine Blk.drewN ?_ _ | (refine Blk.other ?_ _ (by first | omega | (simp; done) | (simp; omega))) | (refine Blk.below ?_ (by assumption))) hb1
  have B2 : Blk w1 (w.heap.size + 1 + 1) #[.int .i64 0, .int .i64 0] 37 := Blk.below (by repeat first | exact blk_at (by first | rfl | omega | (simp; done) | (simp; omega)) | assumption | refine Blk.alloc ?_ _ | refine Blk.drew ?_ | refine Blk.drewN ?_ _ | (refine Blk.other ?_ _ (by first | omega | (simp; done) | (simp; omega))) | (refine Blk.below ?_ (by assumption))) hb1
  clear hb1 hc1 hf1 hs1
  go_loopw [3] (fun i wr => ∃ j : Nat, j ≤ m ∧ i = .int .i64 (m - j : Nat) ∧ Below w.heap.size w wr ∧ w.heap.size + 3 ≤ wr.heap.size ∧ Blk wr (w.heap.size + 1) #[.int .i64 r, .int .i64 e, .int .i64 c] 24 ∧
    Blk wr w.heap.size #[.int .i64 (Pu.mvs ⟨r, e, c⟩ long j ⟨s, k⟩).s, .int .i64 (Pu.mvs ⟨r, e, c⟩ long j ⟨s, k⟩).k] 37 ∧ Blk wr (w.heap.size + 1 + 1) #[.int .i64 0, .int .i64 0] 37) (fun i _ => (intOf i).toNat)
  case atStart => exact ⟨0, Nat.zero_le _, rfl, hb0, by omega, B1, B0, B2⟩
  case round =>
    obtain ⟨j, hj, rfl, hb, hz, b1, b0, b2⟩ := hrel
    clear B0 B1 B2 hb0 hz1
    have f0 := b0.free; have f2 := b2.free
    have c00 := b0.cell 0 rfl; have c01 := b0.cell 1 rfl
    have c10 := b1.cell 0 rfl; have c11 := b1.cell 1 rfl; have c12 := b1.cell 2 rfl
    have c20 := b2.cell 0 rfl; have c21 := b2.cell 1 rfl
    have ho := HO.out j
    have q0 := ho.1; have q1 := ho.2.1; have q2 := ho.2.2.1; have q3 := ho.2.2.2
    rcases H.out with ⟨g1, g2, g3⟩ | ⟨g1, g2, g3, g4, g5, g6, g7⟩
    · dsimp only at g1 g2 g3
      subst g1 g2 g3
      obtain rfl : long = false := by have := HLO.out; simpa [Pu.isLong] using this.symm
      by_cases hjm : j < m
      · have hlt : (0 : Int) < (m - j : Nat) := by omega
        go_wp2_with fail
        (refine wp_region_quiet_lit (by kernel_rfl) (by kernel_rfl) ?_; (repeat (any_goals (first | go_big_quiet_step (fail) | quiet_step (fail) | (refine wpQuiet_step (fun K hK => ?_); go_simp; split <;> (refine hK _ ?_; clear hK K))))); (all_goals (refine wpQuiet_nil ?_; intro _ hw'; obtain ⟨nq, hw''⟩ := hw'; subst hw'')))
        all_goals go_wp2
        refine ⟨⟨j + 1, by omega, by congr 1; omega, (by repeat first | exact Below.refl _ _ | assumption | (refine Below.alloc ?_ (by first | omega | (simp; done) | (simp; omega)) _) | (refine Below.setCell ?_ (by first | omega | (simp; done) | (simp; omega)) _) | (refine Below.drew ?_) | (refine belowDrewN ?_) | (refine Below.trans ?_ (Below.mono (by assumption) (by first | omega | (simp; done) | (simp; omega))))), by simp; omega, ((b1.drewN nq).other _ (by first | omega | (simp; done) | (simp; omega))).other _ (by first | omega | (simp; done) | (simp; omega)), ?_, ((b2.drewN nq).other _ (by first | omega | (simp; done) | (simp; omega))).other _ (by first | omega | (simp; done) | (simp; omega))⟩, by simp [intOf]; omega⟩
        have hm : Pu.mvs ⟨0, 0, 0⟩ false (j + 1) ⟨s, k⟩ = ⟨((Pu.mvs ⟨0, 0, 0⟩ false j ⟨s, k⟩).s + 1) % 720, (Pu.mvs ⟨0, 0, 0⟩ false j ⟨s, k⟩).k + 1⟩ := by simp [Pu.mvs, Pu.mv]
        rw [hm]
        exact ((b0.drewN nq).set 0 _).set 1 _
      · have hj' : j = m := by omega
        subst hj'
        go_wp2_with fail
        have HE := Lib.hid (show Pu.mvs ⟨0, 0, 0⟩ false j ⟨s, k⟩ = Pu.imp ⟨0, 0, 0⟩ t j ⟨s, k⟩ by simp [Pu.imp, HLO.out])
        (refine bodyPost_ret (v := .agg #[.int .i64 (Pu.imp ⟨0, 0, 0⟩ t j ⟨s, k⟩).s, .int .i64 (Pu.imp ⟨0, 0, 0⟩ t j ⟨s, k⟩).k]) ?_ rfl (ret_any rfl (by repeat first | exact Below.refl _ _ | assumption | (refine Below.alloc ?_ (by first | omega | (simp; done) | (simp; omega)) _) | (refine Below.setCell ?_ (by first | omega | (simp; done) | (simp; omega)) _) | (refine Below.drew ?_) | (refine belowDrewN ?_) | (refine Below.trans ?_ (Below.mono (by assumption) (by first | omega | (simp; done) | (simp; omega)))))); (simp (maxDischargeDepth := 9) [results, Try.results43, go_sem, *]); (try simp only [beq_iff_eq, beq_eq_false_iff_ne, bne_iff_ne, bne_eq_false_iff_eq, ne_eq, Bool.not_eq_true, Bool.not_eq_true', Bool.not_eq_false', btw_iff, btw_not', Int.not_lt, Int.not_le] at *); (rw [← HE.out]; exact ⟨rfl, rfl⟩))
    · dsimp only at g1 g2 g3 g4
      by_cases hjm : j < m
      · have hlt : (0 : Int) < (m - j : Nat) := by omega
        have m0 : 0 ≤ (Pu.mvs ⟨r, e, c⟩ long j ⟨s, k⟩).s % e := Int.emod_nonneg _ (by omega)
        clear g5 g6 g7
        have h0' := b0.lt; have h1' := b1.lt; have h2' := b2.lt
        by_cases r2 : r = 2
        · subst r2
          cases long
          · by_cases q : (Pu.mvs ⟨2, e, c⟩ false j ⟨s, k⟩).s % e = e - 1
            · have HT := Lib.hid (show Pu.mvs ⟨2, e, c⟩ false (j + 1) ⟨s, k⟩ = Pu.mvs ⟨2, e, c⟩ false j ⟨s, k⟩ by simp [Pu.mvs, Pu.mv, q])
              have q' : ((Pu.mvs ⟨2, e, c⟩ false j ⟨s, k⟩).s % e == e - 1) = true := by simpa using q
              clear q
              go_wp2_with fail
              (refine wp_region_quiet_lit (by kernel_rfl) (by kernel_rfl) ?_; (repeat (any_goals (first | go_big_quiet_step (fail) | quiet_step (fail) | (refine wpQuiet_step (fun K hK => ?_); go_simp; split <;> (refine hK _ ?_; clear hK K))))); (all_goals (refine wpQuiet_nil ?_; intro _ hw'; obtain ⟨nq, hw''⟩ := hw'; subst hw'')))
              all_goals go_wp2
              refine ⟨⟨j + 1, by omega, by congr 1; omega, (by repeat first | exact Below.refl _ _ | assumption | (refine Below.alloc ?_ (by first | omega | (simp; done) | (simp; omega)) _) | (refine Below.setCell ?_ (by first | omega | (simp; done) | (simp; omega)) _) | (refine Below.drew ?_) | (refine belowDrewN ?_) | (refine Below.trans ?_ (Below.mono (by assumption) (by first | omega | (simp; done) | (simp; omega))))), by simp; omega, (b1.drewN nq), ?_, (b2.drewN nq)⟩, by simp [intOf]; omega⟩
              rw [HT.out]
              exact b0.drewN nq
            · have HT := Lib.hid (show Pu.mvs ⟨2, e, c⟩ false (j + 1) ⟨s, k⟩ = ⟨((Pu.mvs ⟨2, e, c⟩ false j ⟨s, k⟩).s + 1) % 720, (Pu.mvs ⟨2, e, c⟩ false j ⟨s, k⟩).k + 1⟩ by simp [Pu.mvs, Pu.mv, q])
              have q' : ((Pu.mvs ⟨2, e, c⟩ false j ⟨s, k⟩).s % e == e - 1) = false := by simpa using q
              clear q
              go_wp2_with fail
              (refine wp_region_quiet_lit (by kernel_rfl) (by kernel_rfl) ?_; (repeat (any_goals (first | go_big_quiet_step (fail) | quiet_step (fail) | (refine wpQuiet_step (fun K hK => ?_); go_simp; split <;> (refine hK _ ?_; clear hK K))))); (all_goals (refine wpQuiet_nil ?_; intro _ hw'; obtain ⟨nq, hw''⟩ := hw'; subst hw'')))
              all_goals go_wp2
              refine ⟨⟨j + 1, by omega, by congr 1; omega, (by repeat first | exact Below.refl _ _ | assumption | (refine Below.alloc ?_ (by first | omega | (simp; done) | (simp; omega)) _) | (refine Below.setCell ?_ (by first | omega | (simp; done) | (simp; omega)) _) | (refine Below.drew ?_) | (refine belowDrewN ?_) | (refine Below.trans ?_ (Below.mono (by assumption) (by first | omega | (simp; done) | (simp; omega))))), by simp; omega, ((b1.drewN nq).other _ (by first | omega | (simp; done) | (simp; omega))).other _ (by first | omega | (simp; done) | (simp; omega)), ?_, ((b2.drewN nq).other _ (by first | omega | (simp; done) | (simp; omega))).other _ (by first | omega | (simp; done) | (simp; omega))⟩, by simp [intOf]; omega⟩
              rw [HT.out]
              exact ((b0.drewN nq).set 0 _).set 1 _
          · have HT := Lib.hid (show Pu.mvs ⟨2, e, c⟩ true (j + 1) ⟨s, k⟩ = ⟨((Pu.mvs ⟨2, e, c⟩ true j ⟨s, k⟩).s + 1) % 720, (Pu.mvs ⟨2, e, c⟩ true j ⟨s, k⟩).k + 1⟩ by simp [Pu.mvs, Pu.mv])
            go_wp2_with fail
            (refine wp_region_quiet_lit (by kernel_rfl) (by kernel_rfl) ?_; (repeat (any_goals (first | go_big_quiet_step (fail) | quiet_step (fail) | (refine wpQuiet_step (fun K hK => ?_); go_simp; split <;> (refine hK _ ?_; clear hK K))))); (all_goals (refine wpQuiet_nil ?_; intro _ hw'; obtain ⟨nq, hw''⟩ := hw'; subst hw'')))
            all_goals go_wp2
            refine ⟨⟨j + 1, by omega, by congr 1; omega, (by repeat first | exact Below.refl _ _ | assumption | (refine Below.alloc ?_ (by first | omega | (simp; done) | (simp; omega)) _) | (refine Below.setCell ?_ (by first | omega | (simp; done) | (simp; omega)) _) | (refine Below.drew ?_) | (refine belowDrewN ?_) | (refine Below.trans ?_ (Below.mono (by assumption) (by first | omega | (simp; done) | (simp; omega))))), by simp; omega, ((b1.drewN nq).other _ (by first | omega | (simp; done) | (simp; omega))).other _ (by first | omega | (simp; done) | (simp; omega)), ?_, ((b2.drewN nq).other _ (by first | omega | (simp; done) | (simp; omega))).other _ (by first | omega | (simp; done) | (simp; omega))⟩, by simp [intOf]; omega⟩
            rw [HT.out]
            exact ((b0.drewN nq).set 0 _).set 1 _
        · have HT := Lib.hid (show Pu.mvs ⟨r, e, c⟩ long (j + 1) ⟨s, k⟩ = ⟨((Pu.mvs ⟨r, e, c⟩ long j ⟨s, k⟩).s + 1) % 720, (Pu.mvs ⟨r, e, c⟩ long j ⟨s, k⟩).k + 1⟩ by simp [Pu.mvs, Pu.mv, r2])
          have r2' : (r == 2) = false := by simpa using r2
          go_wp2_with fail
          (refine wp_region_quiet_lit (by kernel_rfl) (by kernel_rfl) ?_; (repeat (any_goals (first | go_big_quiet_step (fail) | quiet_step (fail) | (refine wpQuiet_step (fun K hK => ?_); go_simp; split <;> (refine hK _ ?_; clear hK K))))); (all_goals (refine wpQuiet_nil ?_; intro _ hw'; obtain ⟨nq, hw''⟩ := hw'; subst hw'')))
          all_goals go_wp2
          refine ⟨⟨j + 1, by omega, by congr 1; omega, (by repeat first | exact Below.refl _ _ | assumption | (refine Below.alloc ?_ (by first | omega | (simp; done) | (simp; omega)) _) | (refine Below.setCell ?_ (by first | omega | (simp; done) | (simp; omega)) _) | (refine Below.drew ?_) | (refine belowDrewN ?_) | (refine Below.trans ?_ (Below.mono (by assumption) (by first | omega | (simp; done) | (simp; omega))))), by simp; omega, ((b1.drewN nq).other _ (by first | omega | (simp; done) | (simp; omega))).other _ (by first | omega | (simp; done) | (simp; omega)), ?_, ((b2.drewN nq).other _ (by first | omega | (simp; done) | (simp; omega))).other _ (by first | omega | (simp; done) | (simp; omega))⟩, by simp [intOf]; omega⟩
          rw [HT.out]
          exact ((b0.drewN nq).set 0 _).set 1 _
      · have hj' : j = m := by omega
        subst hj'
        cases long
        · go_wp2_with fail
          have HE := Lib.hid (show Pu.mvs ⟨r, e, c⟩ false j ⟨s, k⟩ = Pu.imp ⟨r, e, c⟩ t j ⟨s, k⟩ by simp [Pu.imp, HLO.out])
          (refine bodyPost_ret (v := .agg #[.int .i64 (Pu.imp ⟨r, e, c⟩ t j ⟨s, k⟩).s, .int .i64 (Pu.imp ⟨r, e, c⟩ t j ⟨s, k⟩).k]) ?_ rfl (ret_any rfl (by repeat first | exact Below.refl _ _ | assumption | (refine Below.alloc ?_ (by first | omega | (simp; done) | (simp; omega)) _) | (refine Below.setCell ?_ (by first | omega | (simp; done) | (simp; omega)) _) | (refine Below.drew ?_) | (refine belowDrewN ?_) | (refine Below.trans ?_ (Below.mono (by assumption) (by first | omega | (simp; done) | (simp; omega)))))); (simp (maxDischargeDepth := 9) [results, Try.results43, go_sem, *]); (try simp only [beq_iff_eq, beq_eq_false_iff_ne, bne_iff_ne, bne_eq_false_iff_eq, ne_eq, Bool.not_eq_true, Bool.not_eq_true', Bool.not_eq_false', btw_iff, btw_not', Int.not_lt, Int.not_le] at *); (rw [← HE.out]; exact ⟨rfl, rfl⟩))
        · have HE := Lib.hid (show Pu.rcor ⟨r, e, c⟩ (Pu.mvs ⟨r, e, c⟩ true j ⟨s, k⟩) = Pu.imp ⟨r, e, c⟩ t j ⟨s, k⟩ by rw [← HI.out]; simp [Pu.rimp, HLO.out])
          have m0 : 0 ≤ (Pu.mvs ⟨r, e, c⟩ true j ⟨s, k⟩).s % e := Int.emod_nonneg _ (by omega)
          have m1 : (Pu.mvs ⟨r, e, c⟩ true j ⟨s, k⟩).s % e < e := Int.emod_lt_of_pos _ (by omega)
          have c3 : c ≤ 179 := by dsimp only at g7; omega
          have c4 : 0 ≤ c := g6
          have m2 : (Pu.mvs ⟨r, e, c⟩ true j ⟨s, k⟩).s % e ≤ (Pu.mvs ⟨r, e, c⟩ true j ⟨s, k⟩).s := by
            rcases Int.lt_or_le (Pu.mvs ⟨r, e, c⟩ true j ⟨s, k⟩).s e with h | h
            · rw [Int.emod_eq_of_lt q0 h]; exact Int.le_refl _
            · omega
          clear g5 g6 g7
          generalize Pu.mvs ⟨r, e, c⟩ true j ⟨s, k⟩ = d at *
          obtain ⟨ds, dk⟩ := d
          dsimp only at *
          go_wp2_with fail
          all_goals (refine bodyPost_ret (v := .agg #[.int .i64 (Pu.imp ⟨r, e, c⟩ t j ⟨s, k⟩).s, .int .i64 (Pu.imp ⟨r, e, c⟩ t j ⟨s, k⟩).k]) ?_ rfl (ret_any rfl (by repeat first | exact Below.refl _ _ | assumption | (refine Below.alloc ?_ (by first | omega | (simp; done) | (simp; omega)) _) | (refine Below.setCell ?_ (by first | omega | (simp; done) | (simp; omega)) _) | (refine Below.drew ?_) | (refine belowDrewN ?_) | (refine Below.trans ?_ (Below.mono (by assumption) (by first | omega | (simp; done) | (simp; omega)))))); (simp (maxDischargeDepth := 9) [results, Try.results43, go_sem, *]); (try simp only [beq_iff_eq, beq_eq_false_iff_ne, bne_iff_ne, bne_eq_false_iff_eq, ne_eq, Bool.not_eq_true, Bool.not_eq_true', Bool.not_eq_false', btw_iff, btw_not', Int.not_lt, Int.not_le] at *); (rw [← HE.out]; clear HE HI HO HL HLO; unfold Pu.rcor; (repeat' split) <;> (first | exact ⟨rfl, rfl⟩ | (exfalso; omega) | (simp_all; done) | (simp_all; omega))))
end Go.Proofs.Ytpjlihkpnhamlaa
end

/- A region that draws its order: its first operations only read, or call what leaves alone what was there; the last ones come behind all of these, one after another. One walk in the text's order. -/
section
set_option linter.unusedSimpArgs false
set_option linter.unusedVariables false
namespace Go.Proofs.Ytpjlihkpnhamlaa
open Go.RowKit Go.Shelf

section
variable {P : Program} {ops : Array Oper} {C : World → Prop} {n : Nat}

/-- f operations of the head, in any order that may come up; then L. -/
def HeadAny (P : Program) (ops : Array Oper) (C : World → Prop) (n : Nat) (L : Array Bool → Act → Prop) : Nat → Array Bool → Act → Prop
  | 0, s, a => L s a
  | f + 1, s, a => Region.ready .any ops s ≠ [] ∧ ∀ i ∈ Region.ready .any ops s, i < n ∧ qOp P ops C i (HeadAny P ops C n L f (s.setIfInBounds i true)) a

theorem headAny_any {g : Nat} {L : Array Bool → Act → Prop} {Q : Exit → Act → World → Prop} (hL : ∀ s a w, C w → L s a → wpAny P .any ops Q g s a w) (f : Nat) :
    ∀ s a w, C w → HeadAny P ops C n L f s a → wpAny P .any ops Q (f + g) s a w := by
  induction f with
  | zero => intro s a w hw h; rw [Nat.zero_add]; exact hL s a w hw h
  | succ f ih =>
    intro s a w hw h
    rw [show f + 1 + g = f + g + 1 by omega]
    refine ⟨fun h0 => absurd h0 h.1, fun i hi => ?_⟩
    exact wpOp_of_qOp hw (fun a' w' hw' h' => ih _ a' w' hw' h') (h.2 i hi).2

/-- An operation of the head that may come up now, and yields its value whenever, may be taken first. -/
theorem headAny_take {i : Nat} {o : Oper} {v : Value} {L : Array Bool → Act → Prop} (hi : ops[i]? = some o) (hin : i < n)
    (hsel : ∀ (j : Nat) (x : Oper) cs b, ops[j]? = some x → x.op ≠ .select cs b)
    (hs : Region.sinkB .any ops n = true) (hc : Region.chainB .any ops n = true) (hn : n < ops.size)
    (hL : ∀ s a, L s a → ∀ j ∈ Region.ready .any ops s, n ≤ j) (f : Nat) :
    ∀ s a, HeadInv .any ops n s → i ∈ Region.ready .any ops s → YieldsIn P ops C o v a →
      (∀ j x, ops[j]? = some x → j ≠ i → s.getD j true = false → (∀ e ∈ x.after, Region.binds .any e = true → e.on ≠ i) → o.apart ops x = true) →
      HeadAny P ops C n L f (s.setIfInBounds i true) (a.put o.dst v) → HeadAny P ops C n L (f + 1) s a := by
  have early : ∀ s, HeadInv .any ops n s → i ∈ Region.ready .any ops s → ∀ j ∈ Region.ready .any ops s, j < n := by
    intro s inv hr j hj
    rcases Nat.lt_or_ge j n with h | h
    · exact h
    · exact absurd hj (tail_waits hs hc hn inv _ i rfl hin (mem_ready.1 hr).1 j h)
  induction f with
  | zero =>
    intro s a inv hr hy _ H
    refine ⟨List.ne_nil_of_mem hr, fun j hj => ⟨early s inv hr j hj, ?_⟩⟩
    by_cases e : j = i
    · subst e; exact hy.qOp hi H
    · have := hL _ _ H j (ready_mono hj e)
      have := early s inv hr j hj
      omega
  | succ f ih =>
    intro s a inv hr hy hfree H
    refine ⟨List.ne_nil_of_mem hr, fun j hj => ⟨early s inv hr j hj, ?_⟩⟩
    by_cases e : j = i
    · subst e; exact hy.qOp hi H
    · obtain ⟨hun, x, hx, hall⟩ := mem_ready.1 hj
      have hfirst : ∀ y ∈ x.after, Region.binds .any y = true → y.on ≠ i := by
        intro y hy1 hy2 hy3
        have h1 := hall y hy1 hy2
        rw [hy3, getD_both (mem_ready.1 hr).1] at h1
        cases h1
      have step := qOp_put hx (hfree j x hx e hun hfirst) (fun cs b => hsel i o cs b hi) (fun cs b => hsel j x cs b hx) hy (H.2 j (ready_mono hj e)).2
      refine qOp_mono (fun a' h' => ih (s.setIfInBounds j true) a' (inv.set hj (early s inv hr j hj)) (ready_mono hr (Ne.symm e)) h'.1 ?_ ?_) step
      · intro k y hk hki hku hno
        refine hfree k y hk hki ?_ hno
        by_cases q : j = k
        · subst q; exact hun
        · rwa [getD_set_ne true q] at hku
      · rw [Array.setIfInBounds_comm _ _ e]; exact h'.2

theorem headAny_walk {g : Nat} {Lq : Act → Prop} (hsel : Region.noSelect ops = true) (hs : Region.sinkB .any ops n = true) (hc : Region.chainB .any ops n = true) (hn : n < ops.size) (l : List Oper) :
    ∀ (k : Nat) s a, (∀ j, j < l.length → l[j]? = ops[k + j]?) → k + l.length = n → HeadInv .any ops n s → Region.lexHead .any ops g l.length k s = true →
      wpQuiet P ops C Lq l a → HeadAny P ops C n (fun s' a' => Region.seqB .any ops g n s' = true ∧ Lq a') l.length s a := by
  induction l with
  | nil =>
    intro k s a _ hk _ hB h
    have hB' : Region.seqB .any ops g k s = true := hB
    rw [show k = n by simpa using hk] at hB'
    exact ⟨hB', h⟩
  | cons o l ih =>
    intro k s a hl hk inv hB h
    have ho : ops[k]? = some o := by simpa using (hl 0 (by simp)).symm
    simp only [List.length_cons, Region.lexHead, Bool.and_eq_true] at hB
    obtain ⟨⟨hr0, hf⟩, hB'⟩ := hB
    have hr : k ∈ Region.ready .any ops s := by simpa using hr0
    have hkn : k < n := by simp only [List.length_cons] at hk; omega
    obtain ⟨v, hy, hK⟩ := yieldsIn_of_qOp ho (show qOp P ops C k (wpQuiet P ops C Lq l) a by unfold qOp; simp only [ho]; exact h)
    refine headAny_take ho hkn (Region.noSelect_spec hsel) hs hc hn (fun s' a' hL => seqB_ready hL.1) l.length s a inv hr hy (Region.free_spec ho hf) ?_
    exact ih (k + 1) _ _ (fun j hj => by have := hl (j + 1) (by simp; omega); simpa [Nat.add_assoc, Nat.add_comm 1 j] using this) (by simp only [List.length_cons] at hk; omega) (inv.set hr hkn) hB' hK

/-- The rule: n operations quietly, the others as they stand, from any later world. -/
theorem wp_region_tail {id : Nat} {Q : Exit → Act → World → Prop} {a : Act} {w : World} {l : List Oper} (n : Nat) (hm : P.follows .mixedOrders = true) (hB : Region.lexTailB .any l.toArray n = true)
    (h : wpQuiet P l.toArray (fun w' => ∃ x : Later w, w' = x.1) (fun a' => ∀ w', (∃ x : Later w, w' = x.1) → wpList P l.toArray Q (l.drop n) a' w') (l.take n) a) : (Code.region id l.toArray true).wp P Q a w := by
  simp only [Region.lexTailB, Bool.and_eq_true, decide_eq_true_eq] at hB
  obtain ⟨⟨⟨⟨hsel, hn⟩, hs⟩, hc⟩, hlex⟩ := hB
  have hn' : n < l.length := by simpa using hn
  have htl : (l.take n).length = n := by simp; omega
  have hdl : (l.drop n).length = l.toArray.size - n := by simp
  have inv0 : HeadInv .any l.toArray n (Array.replicate l.toArray.size false) :=
    ⟨by simp, fun j x _ hl => (by rw [getD_replicate_false] at hl; cases hl), fun t _ ht => getD_in (by simpa using ht) (getD_replicate_false _ _)⟩
  have H := headAny_walk (g := l.toArray.size - n) hsel hs hc hn (l.take n) 0 _ a (fun j hj => by
    have hj' : j < n := by rw [htl] at hj; exact hj
    simp [hj']) (by simpa using htl) inv0 (by rw [htl]; exact hlex) h
  refine wp_region_any hm ?_
  have R := headAny_any (Q := Q) (g := l.toArray.size - n) (fun s' a' w' hw' hL => by
    have := wpAny_of_seq (md := .any) (Q' := Q) (l.drop n) n s' a' w' (fun j => by simp [List.getElem?_drop]) (by rw [hdl]; exact hL.1) (hL.2 w' hw')
    rwa [hdl] at this) _ _ _ { w with drawn := w.drawn + 1 } ⟨⟨_, (Below.refl _ w).drew⟩, rfl⟩ H
  rw [htl, show n + (l.toArray.size - n) = l.toArray.size by omega] at R
  exact R
end
end Go.Proofs.Ytpjlihkpnhamlaa
end

/- The walk of the reference's Run: minute by minute. -/
section
set_option linter.unusedSimpArgs false
set_option linter.unusedVariables false
namespace Go.Proofs.Ytpjlihkpnhamlaa
open Go.RowKit Go.Shelf

namespace Pu
theorem movesAt_le (fs : List (Int × Int)) (t : Int) : movesAt fs t ≤ 2 := by
  unfold movesAt
  split
  · split <;> omega
  · omega
/-- a dial after n impulses, from the one behind the minute f on -/
def runN (l : Ln) (f : Int) (fs : List (Int × Int)) (d : Dl) : Nat → Dl
  | 0 => d
  | n + 1 => imp l (f + n + 1) (movesAt fs (f + n + 1)) (runN l f fs d n)
theorem runN_ok {l : Ln} {f : Int} {fs : List (Int × Int)} {d : Dl} {B : Int} (h : d.ok B) (hB : 0 ≤ B) : ∀ n : Nat, (runN l f fs d n).ok (B + 2 * n)
  | 0 => by simpa [runN] using h
  | n + 1 => by
    have := imp_ok (l := l) (t := f + n + 1) (m := movesAt fs (f + n + 1)) (runN_ok (l := l) (f := f) (fs := fs) h hB n) (by omega)
    have hm := movesAt_le fs (f + n + 1)
    simp only [runN]
    unfold Dl.ok at *
    omega
end Pu

theorem later_trans {w wr : World} (hb : Below w.heap.size w wr) (x : Later wr) : Below w.heap.size w x.1 := hb.trans (x.2.mono hb.size)
def RefRunRel (r e c f U : Int) (fs : List (Int × Int)) (s k : Int) (w : World) (i : Value) (wr : World) : Prop :=
  ∃ (n : Nat), (n : Int) ≤ U - f ∧ i = .int .i64 (f + n + 1) ∧ Below w.heap.size w wr ∧ w.heap.size + 3 ≤ wr.heap.size ∧ Blk wr w.heap.size #[.int .i64 (Pu.runN ⟨r, e, c⟩ f fs ⟨s, k⟩ n).s, .int .i64 (Pu.runN ⟨r, e, c⟩ f fs ⟨s, k⟩ n).k] 37 ∧
    Blk wr (w.heap.size + 1) #[.int .i64 r, .int .i64 e, .int .i64 c] 24 ∧ Blk wr (w.heap.size + 1 + 1) #[.int .i64 0, .int .i64 0] 37

set_option maxHeartbeats 1000000 in
theorem refRun_any (r e c f U s k : Int) (a : Option Addr) (cp : Nat) (fs : List (Int × Int)) (w : World) (h : (Pu.Ln.mk r e c).ok) (hf : IsPairs w a fs) (f0 : 0 ≤ f) (f1 : f ≤ U) (u1 : U ≤ 1000000) (h0 : 0 ≤ s) (h1 : s < 720) (h2 : 0 ≤ k) (h3 : k ≤ 1000000) :
    Calls Try.prog 20 #[.agg #[.int .i64 s, .int .i64 k], .agg #[.int .i64 r, .int .i64 e, .int .i64 c], .int .i64 f, .slice a fs.length cp, .int .i64 U] w
      (Ret w (.agg #[.int .i64 (Pu.runN ⟨r, e, c⟩ f fs ⟨s, k⟩ (U - f).toNat).s, .int .i64 (Pu.runN ⟨r, e, c⟩ f fs ⟨s, k⟩ (U - f).toNat).k])) := by
  have hlen := hf.1
  have HZ := Lib.hid hf; clear hf
  have HI := Lib.hid (fun W s k t (m : Nat) (hd : Pu.Dl.ok 500000000 ⟨s, k⟩) (ht : 0 ≤ t) (hm : m ≤ 2) => refImpulse_any r e c s k t m W h ht hm hd.1 hd.2.1 hd.2.2.1 hd.2.2.2)
  have HM := Lib.hid (fun W t (hW : Below w.heap.size w W) => refMoves_any a cp fs t W (HZ.out.below hW))
  have HO := Lib.hid (Pu.runN_ok (l := ⟨r, e, c⟩) (f := f) (fs := fs) (d := ⟨s, k⟩) (B := k) ⟨h0, h1, h2, Int.le_refl _⟩ h2)
  clear h
  go_enter Try.func20, Try.ntmps20
  go_wp2_with fail
  refine wp_name ?_
  intro W hW
  have hb0 : Below w.heap.size w W := by rw [hW]; exact (by repeat first | exact Below.refl _ _ | assumption | (refine Below.alloc ?_ (by first | omega | (simp; done) | (simp; omega)) _) | (refine Below.setCell ?_ (by first | omega | (simp; done) | (simp; omega)) _) | (refine Below.drew ?_) | (refine belowDrewN ?_) | (refine Below.trans ?_ (Below.mono (by assumption) (by first | omega | (simp; done) | (simp; omega)))))
  have B0 : Blk W w.heap.size #[.int .i64 s, .int .i64 k] 37 := by rw [hW]; exact (by repeat first | exact blk_at (by first | rfl | omega | (simp; done) | (simp; omega)) | assumption | refine Blk.alloc ?_ _ | refine Blk.drew ?_ | refine Blk.drewN ?_ _ | (refine Blk.other ?_ _ (by first | omega | (simp; done) | (simp; omega))) | (refine Blk.below ?_ (by assumption)))
  have B1 : Blk W (w.heap.size + 1) #[.int .i64 r, .int .i64 e, .int .i64 c] 24 := by rw [hW]; exact (by repeat first | exact blk_at (by first | rfl | omega | (simp; done) | (simp; omega)) | assumption | refine Blk.alloc ?_ _ | refine Blk.drew ?_ | refine Blk.drewN ?_ _ | (refine Blk.other ?_ _ (by first | omega | (simp; done) | (simp; omega))) | (refine Blk.below ?_ (by assumption)))
  have B2 : Blk W (w.heap.size + 1 + 1) #[.int .i64 0, .int .i64 0] 37 := by rw [hW]; exact (by repeat first | exact blk_at (by first | rfl | omega | (simp; done) | (simp; omega)) | assumption | refine Blk.alloc ?_ _ | refine Blk.drew ?_ | refine Blk.drewN ?_ _ | (refine Blk.other ?_ _ (by first | omega | (simp; done) | (simp; omega))) | (refine Blk.below ?_ (by assumption)))
  have hz0 : w.heap.size + 3 ≤ W.heap.size := by rw [hW]; simp
  clear hW
  go_loopw [11] (fun i wr => RefRunRel r e c f U fs s k w i wr) (fun i _ => (U + 1 - intOf i).toNat)
  case atStart => exact ⟨0, by omega, by go_num, hb0, hz0, B0, B1, B2⟩
  case round =>
    obtain ⟨n, hn, rfl, hb, hz, b0, b1, b2⟩ := hrel
    clear B0 B1 B2 hb0 hz0
    have ho := HO.out n
    by_cases hlt : f + n + 1 ≤ U
    · have x00 := b0.later 0 rfl; have x01 := b0.later 1 rfl
      have x10 := b1.later 0 rfl; have x11 := b1.later 1 rfl; have x12 := b1.later 2 rfl
      go_wp2_with fail
      (refine wp_region_tail 7 (by kernel_rfl) (by kernel_rfl) ?_; simp only [List.take_succ_cons, List.take_zero, List.drop_succ_cons, List.drop_zero]; (repeat (any_goals (first | go_big_quiet_step ((first | (go_at_call 44; exact later_call (HM.out _ _ (later_trans hb _))) | (go_at_call 43; exact later_call (HI.out _ _ _ _ _ ⟨ho.1, ho.2.1, ho.2.2.1, by have := ho.2.2.2; dsimp only; omega⟩ (by omega) (Pu.movesAt_le _ _))))) | quiet_step ((first | (go_at_call 44; exact later_call (HM.out _ _ (later_trans hb _))) | (go_at_call 43; exact later_call (HI.out _ _ _ _ _ ⟨ho.1, ho.2.1, ho.2.2.1, by have := ho.2.2.2; dsimp only; omega⟩ (by omega) (Pu.movesAt_le _ _))))) | (refine wpQuiet_step (fun K hK => ?_); go_simp; split <;> (refine hK _ ?_; clear hK K))))); (all_goals (refine wpQuiet_nil ?_; intro wq hw'; obtain ⟨⟨_, hbq⟩, hw''⟩ := hw'; subst hw'')))
      have b0' := b0.below hbq; have b1' := b1.below hbq; have b2' := b2.below hbq
      have hzq := hbq.size
      have g0 := b0'.free
      have c00 := b0'.cell 0 rfl; have c01 := b0'.cell 1 rfl
      have hbb : Below w.heap.size w wq := hb.trans (hbq.mono hb.size)
      clear x00 x01 x10 x11 x12
      go_wp2
      exact ⟨⟨n + 1, by omega, by go_num, (by repeat first | exact Below.refl _ _ | assumption | (refine Below.alloc ?_ (by first | omega | (simp; done) | (simp; omega)) _) | (refine Below.setCell ?_ (by first | omega | (simp; done) | (simp; omega)) _) | (refine Below.drew ?_) | (refine belowDrewN ?_) | (refine Below.trans ?_ (Below.mono (by assumption) (by first | omega | (simp; done) | (simp; omega))))), by simp; omega, (b0'.set 0 _).set 1 _, (b1'.other _ (by first | omega | (simp; done) | (simp; omega))).other _ (by first | omega | (simp; done) | (simp; omega)), (b2'.other _ (by first | omega | (simp; done) | (simp; omega))).other _ (by first | omega | (simp; done) | (simp; omega))⟩, by simp [intOf]; omega⟩
    · have hn' : (U - f).toNat = n := by omega
      have c00 := b0.cell 0 rfl; have c01 := b0.cell 1 rfl
      have c20 := b2.cell 0 rfl; have c21 := b2.cell 1 rfl
      have g2 := b2.free
      have HN := Lib.hid hn'; clear hn'
      go_wp2_with fail
      (refine bodyPost_ret (v := .agg #[.int .i64 (Pu.runN ⟨r, e, c⟩ f fs ⟨s, k⟩ (U - f).toNat).s, .int .i64 (Pu.runN ⟨r, e, c⟩ f fs ⟨s, k⟩ (U - f).toNat).k]) ?_ rfl (ret_any rfl (by repeat first | exact Below.refl _ _ | assumption | (refine Below.alloc ?_ (by first | omega | (simp; done) | (simp; omega)) _) | (refine Below.setCell ?_ (by first | omega | (simp; done) | (simp; omega)) _) | (refine Below.drew ?_) | (refine belowDrewN ?_) | (refine Below.trans ?_ (Below.mono (by assumption) (by first | omega | (simp; done) | (simp; omega)))))); (simp (maxDischargeDepth := 9) [results, Try.results20, go_sem, *]); (try simp only [beq_iff_eq, beq_eq_false_iff_ne, bne_iff_ne, bne_eq_false_iff_eq, ne_eq, Bool.not_eq_true, Bool.not_eq_true', Bool.not_eq_false', btw_iff, btw_not', Int.not_lt, Int.not_le] at *); (rw [HN.out]; exact ⟨rfl, rfl⟩))
end Go.Proofs.Ytpjlihkpnhamlaa
end

/- A range over a function: the iterator's promise, to every loop body; the loop's rule, for a body that always ends normally. Blocks are split by who may turn them: the iterator's set O, which grows by new blocks alone. -/
section
set_option linter.unusedSimpArgs false
set_option linter.unusedVariables false
namespace Go.Proofs.Ytpjlihkpnhamlaa
open Go.RowKit Go.Shelf

/-- W' came of W by steps that turned blocks of O alone -/
structure Keeps (O : Nat → Prop) (W W' : World) : Prop where
  low : Below 0 W W'
  same : ∀ k, k < W.heap.size → ¬ O k → W'.heap[k]? = W.heap[k]?

theorem Keeps.size {O : Nat → Prop} {A B : World} (h : Keeps O A B) : A.heap.size ≤ B.heap.size := h.low.size
theorem Keeps.refl (O : Nat → Prop) (W : World) : Keeps O W W := ⟨Below.refl 0 W, fun _ _ _ => rfl⟩
theorem Keeps.trans {O : Nat → Prop} {A B C : World} (h : Keeps O A B) (k : Keeps O B C) : Keeps O A C :=
  ⟨h.low.trans k.low, fun i hi ho => (k.same i (Nat.lt_of_lt_of_le hi h.size) ho).trans (h.same i hi ho)⟩
theorem Keeps.mono {O O' : Nat → Prop} {A B : World} (h : Keeps O A B) (hO : ∀ b, b < A.heap.size → O b → O' b) : Keeps O' A B :=
  ⟨h.low, fun i hi ho => h.same i hi (fun x => ho (hO i hi x))⟩
theorem Keeps.alloc (O : Nat → Prop) (W : World) (o : Obj) : Keeps O W (W.alloc o) :=
  ⟨(Below.refl 0 W).alloc (Nat.zero_le _) o, fun i hi _ => Below.heap_alloc W o i hi⟩
theorem Keeps.setCell {O : Nat → Prop} (W : World) (a : Addr) (v : Value) (h : O a.block) : Keeps O W (W.setCell a v) :=
  ⟨(Below.refl 0 W).setCell (Nat.zero_le _) v, fun i hi ho => Below.heap_setCell W a v i (fun e => ho (by rw [e]; exact h))⟩
theorem Keeps.putObj {O : Nat → Prop} (W : World) (r : Nat) (o : Obj) (h : O r) : Keeps O W (W.putObj r o) :=
  ⟨⟨rfl, rfl, rfl, by simp, fun k hk => by omega⟩, fun i hi ho => World.putObj_heap_other (fun e => ho (by rw [e]; exact h))⟩
theorem Keeps.below {O : Nat → Prop} {W W' : World} (h : Below W.heap.size W W') : Keeps O W W' :=
  ⟨h.mono (Nat.zero_le _), fun i hi _ => h.block i hi⟩
theorem Keeps.drew (O : Nat → Prop) (W : World) : Keeps O W W.drew := ⟨⟨rfl, rfl, rfl, Nat.le_refl _, fun _ _ => rfl⟩, fun _ _ _ => rfl⟩
theorem Keeps.to_below {O : Nat → Prop} {W W' : World} {n : Nat} (h : Keeps O W W') (hn : n ≤ W.heap.size) (ho : ∀ b, O b → n ≤ b) : Below n W W' :=
  ⟨h.low.os, h.low.tape, h.low.output, h.low.size, fun k hk => h.same k (by omega) (fun x => by have := ho k x; omega)⟩
theorem Keeps.blk {O : Nat → Prop} {W W' : World} (h : Keeps O W W') {b : Nat} {vs : Array Value} {t : TypeId} (hb : Blk W b vs t) (ho : ¬ O b) : Blk W' b vs t :=
  (h.same b hb.lt ho).trans hb
theorem Keeps.heap {O : Nat → Prop} {W W' : World} (h : Keeps O W W') {b : Nat} {o : Obj} (hb : W.heap[b]? = some o) (ho : ¬ O b) : W'.heap[b]? = some o :=
  (h.same b (Array.getElem?_eq_some_iff.1 hb).1 ho).trans hb
theorem World.alloc_new {w : World} {o : Obj} : (w.alloc o).heap[w.heap.size]? = some o := World.alloc_heap_new w o

/-- the caller's word abides the iterator's steps -/
def Abide (J : Nat → (Nat → Prop) → World → Prop) : Prop :=
  ∀ k O O' W W', J k O W → Keeps O' W W' → (∀ b, O b → O' b) → (∀ b, O' b → O b ∨ W.heap.size ≤ b) → J k O' W'

/-- a function value yields the elements of a list, one after another -/
def Iterates {α : Type} (P : Program) (gf : Nat) (lb : Array Value) (xs : List α) (enc : α → Array Value) (S R : Nat → Prop) (W0 : World) : Prop :=
  ∀ (L : Nat) (J : Nat → (Nat → Prop) → World → Prop) (W : World), Below W0.heap.size W0 W → Abide J →
    (∀ k O W1 (hk : k < xs.length), (∀ b, S b → O b) → J k O W1 →
      YieldAt Fence.wide 0 P L (enc xs[k]) W1 fun e W2 => e = .returned (.bool true) ∧ J (k + 1) O W2 ∧ Keeps (fun b => ¬ O b ∧ ¬ R b) W1 W2) →
    J 0 S W → CallsIn Fence.wide 0 P gf (#[.func (.yield L) #[] #[]] ++ lb) W fun e W' => (∃ v, e = .returned v) ∧ ∃ O, (∀ b, S b → O b) ∧ J xs.length O W'

theorem rangeFunc_wide {α : Type} {P : Program} {g : Operand} {ps : Array Tmp} {assign body : Code} {Q : Exit → Act → World → Prop} {a : Act} {w : World} {gf : Nat} {lb : Array Value}
    {xs : List α} {enc : α → Array Value} {S R : Nat → Prop} (hg : a.eval g = .func (.func gf) #[] lb) (eg : ∀ args w, (callFunc gf args).run P w = .ok (.enter gf args) w)
    (hit : Iterates P gf lb xs enc S R w) (hS : ∀ b, S b → b < w.heap.size) (hR : ∀ b, R b → b < w.heap.size) (hps : ∀ x, (enc x).size = ps.size)
    (I : Nat → (Nat → Prop) → World → Prop) (hI : Abide I) (h0 : I 0 S w)
    (hround : ∀ (l : Nat) (O : Nat → Prop) (k : Nat) (W : World) (hk : k < xs.length), I k O W → (∀ b, S b → O b) → O l → l < W.heap.size →
      assign.wpIn (Fence.wide.inRound l) 0 P (Exit.then (fun a₁ W1 => Keeps (fun b => ¬ O b ∧ ¬ R b) W W1 ∧ I k O W1 ∧ ∀ W2, Keeps (fun b => b = l) W1 W2 → I k O W2 →
          body.wpIn (Fence.wide.inRound l) 0 P (fun e _ W' => e = .normal ∧ I (k + 1) O W' ∧ Keeps (fun b => ¬ O b ∧ ¬ R b) W2 W') a₁ W2) (fun _ _ _ => False))
        { tmps := (ps.zip (enc xs[k])).foldl (fun t (p, v) => t.setIfInBounds p v) a.tmps, defers := [] } W)
    (hdone : ∀ (D : Nat) (O : Nat → Prop) (W : World), I xs.length O W → (∀ b, S b → O b) → O D → w.heap.size ≤ D → W.heap[D]? = some (.deferred (some [])) →
      Q .normal { a with defers := { target := .collected D, args := #[] } :: a.defers } W) :
    (Code.rangeFunc g ps assign body).wpIn Fence.wide 0 P Q a w := by
  refine wpIn_rangeFunc ?_
  intro fn hfn
  obtain ⟨rec, hrec⟩ : ∃ rec : LoopState → Option Code → Loop, rec = fun st pe => { state := st, pending := pe, fn, tmps := a.tmps, params := ps, assign, body, defers := w.heap.size } := ⟨_, rfl⟩
  obtain ⟨W1, hW1⟩ : ∃ W1, (w.alloc (.deferred (some []))).alloc (.loop (rec .ready none)) = W1 := ⟨_, rfl⟩
  have hL1 : W1.heap[w.heap.size + 1]? = some (.loop (rec .ready none)) := by
    rw [← hW1]; have := World.alloc_heap_new (w.alloc (.deferred (some []))) (.loop (rec .ready none)); rwa [World.size_alloc] at this
  have hK1 : W1.heap[w.heap.size]? = some (.deferred (some [])) := by
    rw [← hW1]; exact (Below.heap_alloc _ _ _ (by simp)).trans (World.alloc_heap_new w _)
  have hb1 : Below w.heap.size w W1 := by
    rw [← hW1]; exact ((Below.refl _ w).alloc (Nat.le_refl _) _).alloc (by simp) _
  have hz1 : W1.heap.size = w.heap.size + 2 := by rw [← hW1]; simp
  -- the iterator's set, and the loop's two blocks
  let up : (Nat → Prop) → Nat → Prop := fun O b => O b ∨ b = w.heap.size ∨ b = w.heap.size + 1
  have hI1 : I 0 (up S) W1 := hI 0 S (up S) w W1 h0 (Keeps.below hb1) (fun b h => .inl h) (fun b h => by rcases h with h | h | h <;> first | exact .inl h | exact .inr (by omega))
  refine ⟨w.heap.size + 1, [{ target := .collected w.heap.size, args := #[] }], W1, { target := .fn (.func gf) lb, args := #[.func (.yield (w.heap.size + 1)) #[] #[]] }, W1, gf,
    #[.func (.yield (w.heap.size + 1)) #[] #[]] ++ lb, W1, ?_, ?_, ?_, ?_, fun h => (by cases h), ?_⟩
  · rw [← hW1, hrec]; exact run_enterLoop_outer _ _ _ _ _
  · simp only [resolve, hg]
    simp [go_sem]
  · intro f' hf'; trivial
  · simp [invoke, go_sem, eg]
  · refine (hit (w.heap.size + 1)
      (fun k O W => I k (up O) W ∧ (¬ O w.heap.size ∧ ¬ O (w.heap.size + 1)) ∧ W.heap[w.heap.size + 1]? = some (.loop (rec .ready none)) ∧ W.heap[w.heap.size]? = some (.deferred (some [])))
      W1 hb1 ?_ ?_ ⟨hI1, ⟨fun h => by have := hS _ h; omega, fun h => by have := hS _ h; omega⟩, hL1, hK1⟩).mono ?_
    · -- it abides
      rintro k O O' A B ⟨hi, hn, hl, hk⟩ hkp hO hO'
      have n0 : ¬ O' w.heap.size := fun h => by
        rcases hO' _ h with h | h
        · exact hn.1 h
        · have := (Array.getElem?_eq_some_iff.1 hk).1; omega
      have n1 : ¬ O' (w.heap.size + 1) := fun h => by
        rcases hO' _ h with h | h
        · exact hn.2 h
        · have := (Array.getElem?_eq_some_iff.1 hl).1; omega
      refine ⟨hI k (up O) (up O') A B hi (hkp.mono fun b _ h => .inl h) (fun b h => h.elim (fun h => .inl (hO b h)) .inr) (fun b h => ?_), ⟨n0, n1⟩, hkp.heap hl n1, hkp.heap hk n0⟩
      rcases h with h | h
      · rcases hO' b h with h | h
        · exact .inl (.inl h)
        · exact .inr h
      · exact .inl (.inr h)
    · -- one round
      rintro k O W hlen hSO ⟨hi, hn, hl, hk⟩
      have hlt : w.heap.size + 1 < W.heap.size := (Array.getElem?_eq_some_iff.1 hl).1
      have hy := run_yield (P := P) (args := enc xs[k]) hl (by rw [hrec]; exact hps _)
      rw [hrec] at hy
      refine ⟨fn, _, assign, body, hy, roundIn_of_wpIn hfn (wpIn_mono (hround _ (up O) k W hlen hi (fun b h => .inl (hSO b h)) (.inr (.inr rfl)) hlt) ?_)⟩
      intro e1 a1 W1 h1
      cases e1
      case normal =>
       obtain ⟨hkp, hi1, hbd⟩ := h1
       have hl1 := hkp.heap hl (fun h => h.1 (.inr (.inr rfl)))
       have hk1 := hkp.heap hk (fun h => h.1 (.inr (.inl rfl)))
       have hlt1 := (Array.getElem?_eq_some_iff.1 hl1).1
       refine ⟨_, run_beginRound hl1 (by rw [hrec]), ?_⟩
       have hl2 : (W1.putObj (w.heap.size + 1) (.loop { rec .ready none with state := .busy })).heap[w.heap.size + 1]? = some (.loop { rec .ready none with state := .busy }) := World.putObj_heap_same hlt1
       have hk2 : (W1.putObj (w.heap.size + 1) (.loop { rec .ready none with state := .busy })).heap[w.heap.size]? = some (.deferred (some [])) := (World.putObj_heap_other (by omega)).trans hk1
       refine wpIn_mono (hbd _ (Keeps.putObj _ _ _ rfl) ?_) ?_
       · exact hI k (up O) (up O) W1 _ hi1 (Keeps.putObj _ _ _ (.inr (.inr rfl))) (fun _ h => h) (fun _ h => .inl h)
       rintro e a3 W3 ⟨rfl, hi3, hk3⟩
       have hl3 := hk3.heap hl2 (fun h => h.1 (.inr (.inr rfl)))
       have hk3' := hk3.heap hk2 (fun h => h.1 (.inr (.inl rfl)))
       have hr := run_endRound (P := P) none hl3
       have hx : ¬ O (w.heap.size + 1) ∧ ¬ R (w.heap.size + 1) := ⟨hn.2, fun h => by have := hR _ h; omega⟩
       refine ⟨_, _, hr, rfl, ⟨hI (k + 1) (up O) (up O) W3 _ hi3 (Keeps.putObj _ _ _ (.inr (.inr rfl))) (fun _ h => h) (fun _ h => .inl h), hn, ?_, (World.putObj_heap_other (by omega)).trans hk3'⟩, ?_⟩
       · rw [World.putObj_heap_same (Array.getElem?_eq_some_iff.1 hl3).1, hrec]; rfl
       · exact (((hkp.mono fun b _ h => ⟨fun hb => h.1 (.inl hb), h.2⟩).trans (Keeps.putObj W1 (w.heap.size + 1) _ (O := fun b => ¬ O b ∧ ¬ R b) hx)).trans (hk3.mono fun b _ h => ⟨fun hb => h.1 (.inl hb), h.2⟩)).trans (Keeps.putObj _ _ _ hx)
      all_goals exact h1.elim
    · -- behind the iterator
      rintro e W2 ⟨⟨v, rfl⟩, O, hSO, hi, hn, hl, hk⟩
      refine ⟨none, _, by have := run_endLoop (P := P) hl (by rw [hrec]; simp); rw [hrec] at this; exact this, ?_⟩
      exact hdone _ (up O) _ (hI _ (up O) (up O) W2 _ hi (Keeps.putObj _ _ _ (.inr (.inr rfl))) (fun _ h => h) (fun _ h => .inl h)) (fun b h => .inl (hSO b h)) (.inr (.inl rfl)) (Nat.le_refl _) ((World.putObj_heap_other (by omega)).trans hk)

theorem wpIn_name {F : Fence} {n : Nat} {P : Program} {c : Code} {Q : Exit → Act → World → Prop} {a : Act} {w : World} (h : ∀ W, W = w → c.wpIn F n P Q a W) : c.wpIn F n P Q a w := h w rfl

/-- what is left to do where a function that holds one range over a function comes to its end -/
theorem leave_mark {P : Program} {fn : Func} {R : Ending → World → Prop} {a : Act} {w : World} {D : Nat} {v : Value} (hd : a.defers = [{ target := .collected D, args := #[] }])
    (hD : w.heap[D]? = some (.deferred (some []))) (hres : (results fn a.tmps).run P (w.putObj D (.deferred none)) = .ok v (w.putObj D (.deferred none))) (hR : R (.returned v) (w.putObj D (.deferred none))) :
    bodyPostM Fence.wide 0 P fn R .ret a w := by
  show LeavesInM Fence.wide 0 P fn a.tmps R a.defers .returning w
  rw [hd]
  refine ⟨by simp, .inl ⟨D, _, rfl, run_takeDeferred hD, ?_⟩⟩
  exact ⟨v, hres, hR⟩
end Go.Proofs.Ytpjlihkpnhamlaa
end

/- The walk of pulse.faults.moves: the box of the faults to come is turned. -/
section
set_option linter.unusedSimpArgs false
set_option linter.unusedVariables false
namespace Go.Proofs.Ytpjlihkpnhamlaa
open Go.RowKit Go.Shelf

namespace Pu
/-- the faults to come behind a minute -/
def rest (fs : List (Int × Int)) (t : Int) : List (Int × Int) := match fs with | [] => [] | f :: tl => if f.1 = t then tl else f :: tl
/-- how often the impulse of a minute moves a dial, by the first fault to come -/
def headMoves (fs : List (Int × Int)) (t : Int) : Nat := match fs with | [] => 1 | f :: _ => if f.1 = t then (if f.2 = 1 then 0 else 2) else 1
end Pu

/-- the box of the faults to come -/
def FBox (R : Nat → Prop) (w : World) (B : Nat) (fs : List (Int × Int)) : Prop := ∃ a cp, fs.length ≤ cp ∧ (fs ≠ [] → ∀ x, a = some x → R x.block) ∧ Blk w B #[.slice a fs.length cp] 109 ∧ IsPairs w a fs

def MovesPost (R : Nat → Prop) (w : World) (B : Nat) (fs : List (Int × Int)) (t : Int) (e : Ending) (w' : World) : Prop :=
  e = .returned (.int .i64 (Pu.headMoves fs t)) ∧ Keeps (fun b => b = B) w w' ∧ FBox R w' B (Pu.rest fs t)

theorem ispairs_ne {w : World} {b o B : Nat} {x y : Int} {l : Nat} {a : Option Addr} {n cp : Nat} {T : TypeId} (hB : Blk w B #[.slice a n cp] T) (h : w.cell? ⟨b, o, none⟩ = some (.int .i64 x)) : b ≠ B := by
  rintro rfl
  rw [World.cell?] at h
  simp only [show w.heap[b]? = _ from hB] at h
  rcases o with _ | o
  · simp at h
  · simp at h

theorem pick_one (W : World) : (Instr.index 25 (.agg #[.int .i64 0, .int .i64 0, .int .i64 2]) (.int .i64 1)).run Try.prog W = .ok (.int .i64 0) W := by
  kernel_rfl
theorem pick_two (W : World) : (Instr.index 25 (.agg #[.int .i64 0, .int .i64 0, .int .i64 2]) (.int .i64 2)).run Try.prog W = .ok (.int .i64 2) W := by
  kernel_rfl

set_option maxRecDepth 20000 in
set_option maxHeartbeats 400000 in
theorem moves_any (R : Nat → Prop) (B : Nat) (fs : List (Int × Int)) (t : Int) (w : World) (hf : FBox R w B fs) (hk : ∀ f ∈ fs, f.2 = 1 ∨ f.2 = 2) :
    Calls Try.prog 58 #[.pointer (some ⟨B, 0, none⟩), .int .i64 t] w (MovesPost R w B fs t) := by
  obtain ⟨a, cp, hcp, hR, hB, hp⟩ := hf
  have hlen := hp.1
  have c0 := hB.cell 0 rfl
  have f0 := hB.free
  have hlt := hB.lt
  have x1 := pick_one; have x2 := pick_two
  cases fs with
  | nil =>
    go_enter Try.func58, Try.ntmps58
    go_wp2
    go_ret
    exact ⟨rfl, Keeps.refl _ _, a, cp, hcp, hR, hB, hp⟩
  | cons x tl =>
    obtain ⟨b, o, rfl, hbl, hc, hd⟩ := hp.2 0 (by simp)
    obtain ⟨p, q⟩ := x
    simp at hc hd hlen hcp
    have hne : b ≠ B := ispairs_ne (x := p) (y := 0) (l := 0) hB hc
    by_cases hx : p = t
    · subst hx
      have htl : ∀ (o' : Nat) (v : Int), (o' = o + 2 ∨ tl = []) → v = Pu.headMoves ((p, q) :: tl) p → MovesPost R w B ((p, q) :: tl) p (.returned (.int .i64 v)) (w.setCell ⟨B, 0, none⟩ (.slice (some ⟨b, o', none⟩) tl.length (cp - 1))) := by
        intro o' v ho hv
        refine ⟨by rw [hv], Keeps.setCell _ _ _ rfl, some ⟨b, o', none⟩, cp - 1, by simp [Pu.rest]; omega, fun _ x hx => by have := hR (by simp) ⟨b, o, none⟩ rfl; cases hx; exact this, ?_, ?_⟩
        · have := hB.set 0 (.slice (some ⟨b, o', none⟩) tl.length (cp - 1))
          simpa [Pu.rest] using this
        · simp only [Pu.rest, if_true]
          refine ⟨by omega, fun i hi => ?_⟩
          rcases ho with rfl | rfl
          · obtain ⟨b', o', e, h1, h2, h3⟩ := hp.2 (i + 1) (by simp; omega)
            obtain ⟨rfl, rfl⟩ : b = b' ∧ o = o' := by simpa using e
            refine ⟨b, o + 2, rfl, by simpa using h1, ?_, ?_⟩
            · rw [World.cell?_of_block (Below.heap_setCell _ _ _ _ hne), show o + 2 + i * 2 = o + (i + 1) * 2 by omega]; exact h2
            · rw [World.cell?_of_block (Below.heap_setCell _ _ _ _ hne), show o + 2 + i * 2 + 1 = o + (i + 1) * 2 + 1 by omega]; exact h3
          · simp at hi
      have HT := Lib.hid htl; clear htl
      rcases hk (p, q) (by simp) with hq | hq <;> (
        simp only at hq
        subst hq
        go_enter Try.func58, Try.ntmps58
        go_wp2
        all_goals (first | (exfalso; omega) | (exfalso; simp_all; done) | skip)
        all_goals (go_ret)
        all_goals (first | exact HT.out _ _ (.inl rfl) (by simp [Pu.headMoves]) | exact HT.out _ _ (.inr (List.eq_nil_of_length_eq_zero (by omega))) (by simp [Pu.headMoves]) | (have hcc : cp - 1 = 0 := (by omega); have hl0 : tl.length = 0 := (by omega); have := HT.out o _ (.inr (List.eq_nil_of_length_eq_zero hl0)) rfl; simpa [hcc, hl0, Pu.headMoves] using this)))
    · go_enter Try.func58, Try.ntmps58
      go_wp2
      all_goals (first | (exfalso; omega) | (exfalso; simp_all; done) | skip)
      go_ret
      exact ⟨by simp [Pu.headMoves, hx], Keeps.refl _ _, by simpa [Pu.rest, hx] using ⟨_, cp, by simpa using hcp, (by simpa using hR), hB, hp⟩⟩
end Go.Proofs.Ytpjlihkpnhamlaa
end

/- slices.IndexFunc, slices.ContainsFunc over ints, and pulse.within. -/
section
set_option linter.unusedSimpArgs false
set_option linter.unusedVariables false
namespace Go.Proofs.Ytpjlihkpnhamlaa
open Go.RowKit Go.Shelf

set_option maxHeartbeats 400000 in
theorem indexFunc_any (a : Option Addr) (c f : Nat) (cap : Array Value) (p : Int → Bool) (zs : List Int) (w : World) (hz : IsInts w a zs) (hd : Decides Try.prog w f cap p zs)
   (ef : ∀ args w, (callFunc f args).run Try.prog w = .ok (.enter f args) w) :
    Calls Try.prog 62 #[.slice a zs.length c, .func (.func f) #[] cap] w (Ret w (.int .i64 (idx p zs))) := by
  have hlen := hz.1
  have HZ := Lib.hid hz; clear hz
  have HD := Lib.hid hd; clear hd
  go_enter Try.func62, Try.ntmps62
  go_wp2
  go_loopw [8, 5] (fun i _ wr => ∃ k : Nat, k ≤ zs.length ∧ i = .int .i64 k ∧ (∀ j (_ : j < zs.length), j < k → p zs[j] = false) ∧ Below w.heap.size w wr) (fun i _ _ => zs.length - (intOf i).toNat)
  case atStart => exact ⟨0, Nat.zero_le _, rfl, fun j _ hj => by omega, Below.refl _ _⟩
  case round =>
    obtain ⟨k, hk, rfl, hno, hb⟩ := hrel
    have HN := Lib.hid hno; clear hno
    by_cases hlt : k < zs.length
    · obtain ⟨b, o, rfl, hbl, hc⟩ := (HZ.out.below hb).2 k hlt
      have HC := Lib.hid (HD.out wr zs[k] hb (by simp))
      by_cases hp : p zs[k] = true
      · have HP := Lib.hid hp; clear hp
        go_wp2_with ((refine (HC.out).mono ?_); rintro e w1 ⟨rfl, hb1⟩; rw [HP.out])
        go_ret
        exact ret_int (idx_some p zs k HN.out hlt HP.out).symm (hb.trans (hb1.mono hb.size))
      · have hp' : p zs[k] = false := by simpa using hp
        have HP := Lib.hid hp'; clear hp hp'
        go_wp2_with ((refine (HC.out).mono ?_); rintro e w1 ⟨rfl, hb1⟩; rw [HP.out])
        go_roundw
        case rel => exact ⟨k + 1, by omega, by go_num, fun j h1 h2 => by rcases Nat.lt_succ_iff_lt_or_eq.1 h2 with h | h; exact HN.out j h1 h; subst h; exact HP.out, hb.trans (hb1.mono hb.size)⟩
        case measure => simp [intOf]; omega
    · go_wp2
      go_ret
      exact ret_int (idx_none p zs k HN.out (by omega)).symm hb

set_option maxHeartbeats 400000 in
theorem containsFunc_any (a : Option Addr) (c f : Nat) (cap : Array Value) (p : Int → Bool) (zs : List Int) (w : World) (hz : IsInts w a zs) (hd : Decides Try.prog w f cap p zs)
   (ef : ∀ args w, (callFunc f args).run Try.prog w = .ok (.enter f args) w) :
    Calls Try.prog 53 #[.slice a zs.length c, .func (.func f) #[] cap] w (Ret w (.bool (zs.any p))) := by
  have HC := Lib.hid (indexFunc_any a c f cap p zs w hz hd ef)
  have HA := Lib.hid (idx_any p zs)
  clear hz hd
  go_enter Try.func53, Try.ntmps53
  go_wp2_with ((refine (HC.out).mono ?_); rintro e w1 ⟨rfl, hb1⟩)
  go_ret
  exact ret_bool HA.out hb1

end Go.Proofs.Ytpjlihkpnhamlaa
end

/- pulse.within: whether integers lie between two others. -/
section
set_option linter.unusedSimpArgs false
set_option linter.unusedVariables false
namespace Go.Proofs.Ytpjlihkpnhamlaa
open Go.RowKit Go.Shelf

set_option maxHeartbeats 400000 in
theorem within1_any (n lo hi : Int) (p q : Addr) (w : World) (h1 : w.cell? p = some (.int .i64 lo)) (h2 : w.cell? q = some (.int .i64 hi)) :
    Calls Try.prog 54 #[.int .i64 n, .pointer (some p), .pointer (some q)] w (Ret w (.bool (decide (n < lo) || decide (hi < n)))) := by
  go_enter Try.func54, Try.ntmps54
  go_wp2
  all_goals (go_ret; exact ret_bool (by first | (simp [*]; done) | (simp [*]; omega) | (simp_all; done) | (simp_all; omega)) (Below.refl _ _))

set_option maxHeartbeats 400000 in
theorem within_any (lo hi : Int) (a : Option Addr) (c : Nat) (zs : List Int) (w : World) (hz : IsInts w a zs) :
    Calls Try.prog 38 #[.int .i64 lo, .int .i64 hi, .slice a zs.length c] w (Ret w (.bool (inRange lo hi zs))) := by
  have HC := fun W (hz : IsInts W a zs) (hd : Decides Try.prog W 54 #[.pointer (some ⟨w.heap.size, 0, none⟩), .pointer (some ⟨w.heap.size + 1, 0, none⟩)] (fun n => decide (n < lo) || decide (hi < n)) zs) =>
    containsFunc_any a c 54 #[.pointer (some ⟨w.heap.size, 0, none⟩), .pointer (some ⟨w.heap.size + 1, 0, none⟩)] (fun n => decide (n < lo) || decide (hi < n)) zs W hz hd (enters_of Try.func54 (by kernel_rfl) rfl)
  have HH := Lib.hid HC; clear HC
  have HZ := Lib.hid hz; clear hz
  go_enter Try.func38, Try.ntmps38
  have hb0 : Below w.heap.size w ((w.alloc (.cells #[.int .i64 lo] 3)).alloc (.cells #[.int .i64 hi] 3)) := (by repeat first | exact Below.refl _ _ | assumption | (refine Below.alloc ?_ (by first | omega | (simp; done) | (simp; omega)) _) | (refine Below.setCell ?_ (by first | omega | (simp; done) | (simp; omega)) _) | (refine Below.drew ?_) | (refine belowDrewN ?_) | (refine Below.trans ?_ (Below.mono (by assumption) (by first | omega | (simp; done) | (simp; omega)))))
  go_wp2_with ((refine (HH.out _ (HZ.out.below hb0) ?_).mono ?_); (intro W n hW _; refine within1_any n lo hi _ _ W ?_ ?_; (rw [(bcell hW).1 _ _ (by first | omega | (simp; done) | (simp; omega))]; go_simp); (rw [(bcell hW).1 _ _ (by first | omega | (simp; done) | (simp; omega))]; go_simp)); (rintro e w1 ⟨rfl, hb1⟩))
  go_ret
  exact ret_bool rfl (hb0.trans (hb1.mono (by first | omega | (simp; done) | (simp; omega))))

theorem within_one (lo hi n : Int) (a : Option Addr) (c : Nat) (w : World) (hz : IsInts w a [n]) :
    Calls Try.prog 38 #[.int .i64 lo, .int .i64 hi, .slice a 1 c] w (Ret w (.bool (btw lo hi n))) := by
  rw [← inRange_one]; exact within_any lo hi a c [n] w hz
theorem within_two (lo hi n m : Int) (a : Option Addr) (c : Nat) (w : World) (hz : IsInts w a [n, m]) :
    Calls Try.prog 38 #[.int .i64 lo, .int .i64 hi, .slice a 2 c] w (Ret w (.bool (btw lo hi n && btw lo hi m))) := by
  rw [← inRange_two]; exact within_any lo hi a c [n, m] w hz
theorem isInts_one {w : World} {b o : Nat} {n : Int} (hb : b < w.heap.size) (hc : w.cell? ⟨b, o, none⟩ = some (.int .i64 n)) : IsInts w (some ⟨b, o, none⟩) [n] :=
  ⟨by simp, fun i hi => ⟨b, o, rfl, hb, by
    have : i = 0 := by simpa using hi
    subst this
    simpa using hc⟩⟩
theorem isInts_two {w : World} {b o : Nat} {n m : Int} (hb : b < w.heap.size) (hc : w.cell? ⟨b, o, none⟩ = some (.int .i64 n)) (hd : w.cell? ⟨b, o + 1, none⟩ = some (.int .i64 m)) : IsInts w (some ⟨b, o, none⟩) [n, m] :=
  ⟨by simp, fun i hi => ⟨b, o, rfl, hb, by
    have : i = 0 ∨ i = 1 := by simp at hi; omega
    rcases this with rfl | rfl <;> simpa⟩⟩
/-- the list of one number that the call itself has just made -/
theorem within_new {lo hi n : Int} {b : Nat} {t : TypeId} {W : World} (hb : b = W.heap.size) :
    Calls Try.prog 38 #[.int .i64 lo, .int .i64 hi, .slice (some ⟨b, 0, none⟩) 1 1] (W.alloc (.cells #[.int .i64 n] t)) (Ret (W.alloc (.cells #[.int .i64 n] t)) (.bool (btw lo hi n))) := by
  subst hb
  exact within_one lo hi n _ 1 _ (isInts_one (by simp) (by go_simp))
theorem within_new2 {lo hi n m : Int} {b : Nat} {t : TypeId} {W : World} (hb : b = W.heap.size) :
    Calls Try.prog 38 #[.int .i64 lo, .int .i64 hi, .slice (some ⟨b, 0, none⟩) 2 2] (W.alloc (.cells #[.int .i64 n, .int .i64 m] t)) (Ret (W.alloc (.cells #[.int .i64 n, .int .i64 m] t)) (.bool (btw lo hi n && btw lo hi m))) := by
  subst hb
  exact within_two lo hi n m _ 2 _ (isInts_two (by simp) (by go_simp) (by go_simp))
end Go.Proofs.Ytpjlihkpnhamlaa
end

/- The walks of pulse's small functions: each returns what the plain function says, and leaves alone what was there. -/
section
set_option linter.unusedSimpArgs false
set_option linter.unusedVariables false
namespace Go.Proofs.Ytpjlihkpnhamlaa
open Go.RowKit Go.Shelf


set_option maxHeartbeats 400000 in
theorem isLong_any (r e c t : Int) (w : World) (h : (Pu.Ln.mk r e c).ok) (ht : 0 ≤ t) :
    Calls Try.prog 55 #[.agg #[.int .i64 r, .int .i64 e, .int .i64 c], .int .i64 t] w (Ret w (.bool (Pu.isLong ⟨r, e, c⟩ t))) := by
  rcases h with ⟨rfl, rfl, rfl⟩ | ⟨h1, h2, h3, h4, h5, h6, h7⟩
  · go_enter Try.func55, Try.ntmps55
    go_wp2
    go_ret
    exact ret_bool (by simp [Pu.isLong]) (by repeat first | exact Below.refl _ _ | assumption | (refine Below.alloc ?_ (by first | omega | (simp; done) | (simp; omega)) _) | (refine Below.setCell ?_ (by first | omega | (simp; done) | (simp; omega)) _) | (refine Below.drew ?_) | (refine belowDrewN ?_) | (refine Below.trans ?_ (Below.mono (by assumption) (by first | omega | (simp; done) | (simp; omega)))))
  · simp only at h1 h2 h3 h4
    have hne : (r != 0) = true := by simp; omega
    clear h5 h6 h7
    go_enter Try.func55, Try.ntmps55
    go_wp2
    go_ret
    refine ret_bool ?_ (by repeat first | exact Below.refl _ _ | assumption | (refine Below.alloc ?_ (by first | omega | (simp; done) | (simp; omega)) _) | (refine Below.setCell ?_ (by first | omega | (simp; done) | (simp; omega)) _) | (refine Below.drew ?_) | (refine belowDrewN ?_) | (refine Below.trans ?_ (Below.mono (by assumption) (by first | omega | (simp; done) | (simp; omega)))))
    have : (r == 0) = false := by simp; omega
    simp [Pu.isLong, this]

set_option maxHeartbeats 400000 in
theorem on_any (s k b : Int) (w : World) (h0 : 0 ≤ s) (h1 : s ≤ 1000) (h2 : -720 ≤ b) (h3 : b ≤ 720) :
    Calls Try.prog 65 #[.agg #[.int .i64 s, .int .i64 k], .int .i64 b] w (Ret w (.agg #[.int .i64 ((s + b + 720) % 720), .int .i64 k])) := by
  go_enter Try.func65, Try.ntmps65
  go_wp2
  exact bodyPost_ret (v := .agg #[.int .i64 ((s + b + 720) % 720), .int .i64 k]) (by simp [results, Try.results65, go_sem]) rfl (ret_any rfl (by repeat first | exact Below.refl _ _ | assumption | (refine Below.alloc ?_ (by first | omega | (simp; done) | (simp; omega)) _) | (refine Below.setCell ?_ (by first | omega | (simp; done) | (simp; omega)) _) | (refine Below.drew ?_) | (refine belowDrewN ?_) | (refine Below.trans ?_ (Below.mono (by assumption) (by first | omega | (simp; done) | (simp; omega))))))

set_option maxHeartbeats 800000 in
theorem move_any (r e c s k : Int) (long : Bool) (w : World) (h : (Pu.Ln.mk r e c).ok) (h0 : 0 ≤ s) (h1 : s < 720) (h2 : 0 ≤ k) (h3 : k ≤ 1000000000) :
    Calls Try.prog 63 #[.agg #[.int .i64 r, .int .i64 e, .int .i64 c], .agg #[.int .i64 s, .int .i64 k], .bool long] w (Ret w (.agg #[.int .i64 (Pu.mv ⟨r, e, c⟩ long ⟨s, k⟩).s, .int .i64 (Pu.mv ⟨r, e, c⟩ long ⟨s, k⟩).k])) := by
  have HC := Lib.hid (fun W k => on_any s k 1 W h0 (by omega) (by omega) (by omega))
  rcases h with ⟨rfl, rfl, rfl⟩ | ⟨h4, h5, h6, h7, h8, h9, h10⟩
  · go_enter Try.func63, Try.ntmps63
    go_wp2_with fail
    (refine wp_region_quiet_lit (by kernel_rfl) (by kernel_rfl) ?_; (repeat (any_goals (first | go_big_quiet_step (fail) | quiet_step (fail) | (refine wpQuiet_step (fun K hK => ?_); go_simp; split <;> (refine hK _ ?_; clear hK K))))); (all_goals (refine wpQuiet_nil ?_; intro _ hw'; obtain ⟨nq, hw''⟩ := hw'; subst hw'')))
    all_goals (go_wp2_with ((refine (HC.out _ _).mono ?_); rintro e w1 ⟨rfl, hb1⟩; obtain ⟨hc1, hf1, hs1⟩ := bcell hb1; have hz1 := hb1.size; (try simp at hz1)))
    all_goals (refine bodyPost_ret (v := .agg #[.int .i64 (Pu.mv ⟨0, 0, 0⟩ long ⟨s, k⟩).s, .int .i64 (Pu.mv ⟨0, 0, 0⟩ long ⟨s, k⟩).k]) ?_ rfl (ret_any rfl (by repeat first | exact Below.refl _ _ | assumption | (refine Below.alloc ?_ (by first | omega | (simp; done) | (simp; omega)) _) | (refine Below.setCell ?_ (by first | omega | (simp; done) | (simp; omega)) _) | (refine Below.drew ?_) | (refine belowDrewN ?_) | (refine Below.trans ?_ (Below.mono (by assumption) (by first | omega | (simp; done) | (simp; omega)))))); (simp (maxDischargeDepth := 9) [results, Try.results63, go_sem, *]); (try simp only [beq_iff_eq, beq_eq_false_iff_ne, bne_iff_ne, bne_eq_false_iff_eq, ne_eq, Bool.not_eq_true, Bool.not_eq_true', Bool.not_eq_false', btw_iff, btw_not', Int.not_lt, Int.not_le] at *); (all_goals (try simp [Pu.mv, *]); all_goals (try (repeat' split)); all_goals (try first | rfl | omega | (exfalso; omega) | (simp_all; done) | (simp_all; omega) | (constructor <;> omega))))
  · simp only at h4 h5 h6 h7 h8
    clear h8 h9 h10
    go_enter Try.func63, Try.ntmps63
    go_wp2_with fail
    (refine wp_region_quiet_lit (by kernel_rfl) (by kernel_rfl) ?_; (repeat (any_goals (first | go_big_quiet_step (fail) | quiet_step (fail) | (refine wpQuiet_step (fun K hK => ?_); go_simp; split <;> (refine hK _ ?_; clear hK K))))); (all_goals (refine wpQuiet_nil ?_; intro _ hw'; obtain ⟨nq, hw''⟩ := hw'; subst hw'')))
    all_goals (go_wp2_with ((refine (HC.out _ _).mono ?_); rintro e w1 ⟨rfl, hb1⟩; obtain ⟨hc1, hf1, hs1⟩ := bcell hb1; have hz1 := hb1.size; (try simp at hz1)))
    all_goals (refine bodyPost_ret (v := .agg #[.int .i64 (Pu.mv ⟨r, e, c⟩ long ⟨s, k⟩).s, .int .i64 (Pu.mv ⟨r, e, c⟩ long ⟨s, k⟩).k]) ?_ rfl (ret_any rfl (by repeat first | exact Below.refl _ _ | assumption | (refine Below.alloc ?_ (by first | omega | (simp; done) | (simp; omega)) _) | (refine Below.setCell ?_ (by first | omega | (simp; done) | (simp; omega)) _) | (refine Below.drew ?_) | (refine belowDrewN ?_) | (refine Below.trans ?_ (Below.mono (by assumption) (by first | omega | (simp; done) | (simp; omega)))))); (simp (maxDischargeDepth := 9) [results, Try.results63, go_sem, *]); (try simp only [beq_iff_eq, beq_eq_false_iff_ne, bne_iff_ne, bne_eq_false_iff_eq, ne_eq, Bool.not_eq_true, Bool.not_eq_true', Bool.not_eq_false', btw_iff, btw_not', Int.not_lt, Int.not_le] at *); (all_goals (try simp [Pu.mv, *]); all_goals (try (repeat' split)); all_goals (try first | rfl | omega | (exfalso; omega) | (simp_all; done) | (simp_all; omega) | (constructor <;> omega))))
end Go.Proofs.Ytpjlihkpnhamlaa
end

/- The walk of pulse's correction of a dial behind a long impulse. -/
section
set_option linter.unusedSimpArgs false
set_option linter.unusedVariables false
namespace Go.Proofs.Ytpjlihkpnhamlaa
open Go.RowKit Go.Shelf

theorem div_reach {e c : Int} (h : c ≤ (e - 1) / 2) (he : e ≤ 360) : c ≤ 179 := by omega

set_option maxHeartbeats 1000000 in
theorem corrected_any (r e c s k : Int) (w : World) (h1 : 1 ≤ r) (h2 : r ≤ 3) (h3 : 2 ≤ e) (h4 : e ≤ 360) (h5 : 0 ≤ c) (h6 : c ≤ 179) (h7 : 0 ≤ s) (h8 : s < 720) (h9 : 0 ≤ k) (h10 : k ≤ 1000000000) :
    Calls Try.prog 64 #[.agg #[.int .i64 r, .int .i64 e, .int .i64 c], .agg #[.int .i64 s, .int .i64 k]] w (Ret w (.agg #[.int .i64 (Pu.cor ⟨r, e, c⟩ ⟨s, k⟩).s, .int .i64 (Pu.cor ⟨r, e, c⟩ ⟨s, k⟩).k])) := by
  have HC := Lib.hid (fun W b (hb : -c ≤ b ∧ b ≤ c) => on_any s 0 b W h7 (by omega) (by omega) (by omega))
  have m0 : 0 ≤ s % e := Int.emod_nonneg _ (by omega)
  have m1 : s % e < e := Int.emod_lt_of_pos _ (by omega)
  go_enter Try.func64, Try.ntmps64
  go_wp2_with (first | (go_at_call 38; refine (within_new (by first | omega | (simp; done) | (simp; omega))).mono ?_; rintro e w1 ⟨rfl, hb1⟩; obtain ⟨hc1, hf1, hs1⟩ := bcell hb1; have hz1 := hb1.size; (try simp at hz1)) | (go_at_call 65; refine (HC.out _ _ ?_).mono ?_; (simp only [Bool.not_eq_false', btw_iff] at *; omega); rintro e w1 ⟨rfl, hb1⟩; obtain ⟨hc1, hf1, hs1⟩ := bcell hb1; have hz1 := hb1.size; (try simp at hz1)))
  all_goals (refine bodyPost_ret (v := .agg #[.int .i64 (Pu.cor ⟨r, e, c⟩ ⟨s, k⟩).s, .int .i64 (Pu.cor ⟨r, e, c⟩ ⟨s, k⟩).k]) ?_ rfl (ret_any rfl (by repeat first | exact Below.refl _ _ | assumption | (refine Below.alloc ?_ (by first | omega | (simp; done) | (simp; omega)) _) | (refine Below.setCell ?_ (by first | omega | (simp; done) | (simp; omega)) _) | (refine Below.drew ?_) | (refine belowDrewN ?_) | (refine Below.trans ?_ (Below.mono (by assumption) (by first | omega | (simp; done) | (simp; omega)))))); (simp (maxDischargeDepth := 9) [results, Try.results64, go_sem, *]); (try simp only [beq_iff_eq, beq_eq_false_iff_ne, bne_iff_ne, bne_eq_false_iff_eq, ne_eq, Bool.not_eq_true, Bool.not_eq_true', Bool.not_eq_false', btw_iff, btw_not', Int.not_lt, Int.not_le] at *); (all_goals (try simp [Pu.cor, Pu.cby, *]); all_goals (try (repeat' split)); all_goals (try first | rfl | omega | (exfalso; omega) | (simp_all; done) | (simp_all; omega) | (constructor <;> omega))))
end Go.Proofs.Ytpjlihkpnhamlaa
end

/- The walk of pulse's impulse of a minute. -/
section
set_option linter.unusedSimpArgs false
set_option linter.unusedVariables false
namespace Go.Proofs.Ytpjlihkpnhamlaa
open Go.RowKit Go.Shelf

set_option maxHeartbeats 1000000 in
theorem impulse_any (r e c s k t : Int) (m : Nat) (w : World) (h : (Pu.Ln.mk r e c).ok) (ht : 0 ≤ t) (hm : m ≤ 2) (h0 : 0 ≤ s) (h1 : s < 720) (h2 : 0 ≤ k) (h3 : k ≤ 500000000) :
    Calls Try.prog 57 #[.agg #[.int .i64 r, .int .i64 e, .int .i64 c], .agg #[.int .i64 s, .int .i64 k], .int .i64 t, .int .i64 m] w (Ret w (.agg #[.int .i64 (Pu.imp ⟨r, e, c⟩ t m ⟨s, k⟩).s, .int .i64 (Pu.imp ⟨r, e, c⟩ t m ⟨s, k⟩).k])) := by
  obtain ⟨long, hlong⟩ : ∃ b, Pu.isLong ⟨r, e, c⟩ t = b := ⟨_, rfl⟩
  have HL := Lib.hid (fun W => isLong_any r e c t W h ht)
  rw [hlong] at HL
  have HM := Lib.hid (fun W s k (hd : Pu.Dl.ok (1000000000) ⟨s, k⟩) => move_any r e c s k long W h hd.1 hd.2.1 hd.2.2.1 hd.2.2.2)
  have HLO := Lib.hid hlong
  have hok := fun n => Pu.mvs_ok (l := ⟨r, e, c⟩) (long := long) (d := ⟨s, k⟩) (B := k) ⟨h0, h1, h2, Int.le_refl _⟩ n
  have HO := Lib.hid hok
  have H := Lib.hid h
  clear h hok
  clear hlong
  go_enter Try.func57, Try.ntmps57
  go_wp2_with (go_at_call 55; refine (HL.out _).mono ?_; rintro e w1 ⟨rfl, hb1⟩; obtain ⟨hc1, hf1, hs1⟩ := bcell hb1; have hz1 := hb1.size; (try simp at hz1))
  have hb0 : Below w.heap.size w w1 := (by repeat first | exact Below.refl _ _ | assumption | (refine Below.alloc ?_ (by first | omega | (simp; done) | (simp; omega)) _) | (refine Below.setCell ?_ (by first | omega | (simp; done) | (simp; omega)) _) | (refine Below.drew ?_) | (refine belowDrewN ?_) | (refine Below.trans ?_ (Below.mono (by assumption) (by first | omega | (simp; done) | (simp; omega)))))
  have B0 : Blk w1 w.heap.size #[.int .i64 r, .int .i64 e, .int .i64 c] 81 := (((Blk.new w _ _).alloc _).alloc _).below hb1
  have B1 : Blk w1 (w.heap.size + 1) #[.int .i64 s, .int .i64 k] 89 := by
    have := ((Blk.new (w.alloc (.cells #[.int .i64 r, .int .i64 e, .int .i64 c] 81)) #[.int .i64 s, .int .i64 k] 89).alloc (.cells #[.int .i64 0, .int .i64 0] 89)).below hb1
    simpa using this
  have B2 : Blk w1 (w.heap.size + 1 + 1) #[.int .i64 0, .int .i64 0] 89 := by
    have := (Blk.new ((w.alloc (.cells #[.int .i64 r, .int .i64 e, .int .i64 c] 81)).alloc (.cells #[.int .i64 s, .int .i64 k] 89)) #[.int .i64 0, .int .i64 0] 89).below hb1
    simpa using this
  clear hb1 hc1 hf1 hs1
  go_loopw [14] (fun i wr => ∃ j : Nat, j ≤ m ∧ i = .int .i64 j ∧ Below w.heap.size w wr ∧ w.heap.size + 3 ≤ wr.heap.size ∧ Blk wr w.heap.size #[.int .i64 r, .int .i64 e, .int .i64 c] 81 ∧
    Blk wr (w.heap.size + 1) #[.int .i64 (Pu.mvs ⟨r, e, c⟩ long j ⟨s, k⟩).s, .int .i64 (Pu.mvs ⟨r, e, c⟩ long j ⟨s, k⟩).k] 89 ∧ Blk wr (w.heap.size + 1 + 1) #[.int .i64 0, .int .i64 0] 89) (fun i _ => m - (intOf i).toNat)
  case atStart => exact ⟨0, Nat.zero_le _, rfl, hb0, by omega, B0, B1, B2⟩
  case round =>
    obtain ⟨j, hj, rfl, hb, hz, b0, b1, b2⟩ := hrel
    clear B0 B1 B2 hb0 hz1
    have f0 := b0.free; have f1 := b1.free; have f2 := b2.free
    have c00 := b0.cell 0 rfl; have c01 := b0.cell 1 rfl; have c02 := b0.cell 2 rfl
    have c10 := b1.cell 0 rfl; have c11 := b1.cell 1 rfl
    have c20 := b2.cell 0 rfl; have c21 := b2.cell 1 rfl
    go_wp2_with fail
    · have hjm : j < m := by assumption
      have ho := HO.out j
      refine (HM.out wr _ _ ⟨ho.1, ho.2.1, ho.2.2.1, by have := ho.2.2.2; simp only; omega⟩).mono ?_
      rintro e w1 ⟨rfl, hb1⟩; obtain ⟨hc1, hf1, hs1⟩ := bcell hb1; have hz1 := hb1.size; (try simp at hz1)
      clear hc1 hf1 hs1
      have b0' := b0.below hb1; have b1' := b1.below hb1; have b2' := b2.below hb1
      have f1' := b1'.free; have c10' := b1'.cell 0 rfl; have c11' := b1'.cell 1 rfl
      go_wp2
      go_roundw
      case rel => exact ⟨j + 1, by omega, by go_num, (by repeat first | exact Below.refl _ _ | assumption | (refine Below.alloc ?_ (by first | omega | (simp; done) | (simp; omega)) _) | (refine Below.setCell ?_ (by first | omega | (simp; done) | (simp; omega)) _) | (refine Below.drew ?_) | (refine belowDrewN ?_) | (refine Below.trans ?_ (Below.mono (by assumption) (by first | omega | (simp; done) | (simp; omega))))), by simp; omega, (b0'.other _ (by simp)).other _ (by simp), (b1'.set 0 _).set 1 _, (b2'.other _ (by simp)).other _ (by simp)⟩
      case measure => simp [intOf]; omega
    · have hj' : j = m := by have : ¬ j < m := by assumption
                             omega
      subst hj'
      obtain rfl : long = true := by assumption
      have ho := HO.out j
      obtain ⟨g1, g2, g3, g4, g5, g6⟩ : 1 ≤ r ∧ r ≤ 3 ∧ 2 ≤ e ∧ e ≤ 360 ∧ 0 ≤ c ∧ c ≤ 179 := by
        rcases H.out with ⟨q1, _⟩ | ⟨q1, q2, q3, q4, _, q6, q7⟩
        · exfalso
          have := HLO.out
          simp only at q1
          simp [Pu.isLong, q1] at this
        · exact ⟨q1, q2, q3, q4, q6, div_reach q7 q4⟩
      refine (corrected_any r e c _ _ wr g1 g2 g3 g4 g5 g6 ho.1 ho.2.1 ho.2.2.1 (by have := ho.2.2.2; omega)).mono ?_
      rintro e w1 ⟨rfl, hb1⟩; obtain ⟨hc1, hf1, hs1⟩ := bcell hb1; have hz1 := hb1.size; (try simp at hz1)
      clear hc1 hf1 hs1
      have b2' := b2.below hb1
      have f2' := b2'.free; have c20' := b2'.cell 0 rfl; have c21' := b2'.cell 1 rfl
      have HE := Lib.hid (show Pu.cor ⟨r, e, c⟩ (Pu.mvs ⟨r, e, c⟩ true j ⟨s, k⟩) = Pu.imp ⟨r, e, c⟩ t j ⟨s, k⟩ by simp [Pu.imp, HLO.out])
      go_wp2
      (refine bodyPost_ret (v := .agg #[.int .i64 (Pu.imp ⟨r, e, c⟩ t j ⟨s, k⟩).s, .int .i64 (Pu.imp ⟨r, e, c⟩ t j ⟨s, k⟩).k]) ?_ rfl (ret_any rfl (by repeat first | exact Below.refl _ _ | assumption | (refine Below.alloc ?_ (by first | omega | (simp; done) | (simp; omega)) _) | (refine Below.setCell ?_ (by first | omega | (simp; done) | (simp; omega)) _) | (refine Below.drew ?_) | (refine belowDrewN ?_) | (refine Below.trans ?_ (Below.mono (by assumption) (by first | omega | (simp; done) | (simp; omega)))))); (simp (maxDischargeDepth := 9) [results, Try.results57, go_sem, *]); (try simp only [beq_iff_eq, beq_eq_false_iff_ne, bne_iff_ne, bne_eq_false_iff_eq, ne_eq, Bool.not_eq_true, Bool.not_eq_true', Bool.not_eq_false', btw_iff, btw_not', Int.not_lt, Int.not_le] at *); (rw [← HE.out]; exact ⟨rfl, rfl⟩))
    · have hj' : j = m := by have : ¬ j < m := by assumption
                             omega
      subst hj'
      obtain rfl : long = false := by assumption
      have HE := Lib.hid (show Pu.mvs ⟨r, e, c⟩ false j ⟨s, k⟩ = Pu.imp ⟨r, e, c⟩ t j ⟨s, k⟩ by simp [Pu.imp, HLO.out])
      (refine bodyPost_ret (v := .agg #[.int .i64 (Pu.imp ⟨r, e, c⟩ t j ⟨s, k⟩).s, .int .i64 (Pu.imp ⟨r, e, c⟩ t j ⟨s, k⟩).k]) ?_ rfl (ret_any rfl (by repeat first | exact Below.refl _ _ | assumption | (refine Below.alloc ?_ (by first | omega | (simp; done) | (simp; omega)) _) | (refine Below.setCell ?_ (by first | omega | (simp; done) | (simp; omega)) _) | (refine Below.drew ?_) | (refine belowDrewN ?_) | (refine Below.trans ?_ (Below.mono (by assumption) (by first | omega | (simp; done) | (simp; omega)))))); (simp (maxDischargeDepth := 9) [results, Try.results57, go_sem, *]); (try simp only [beq_iff_eq, beq_eq_false_iff_ne, bne_iff_ne, bne_eq_false_iff_eq, ne_eq, Bool.not_eq_true, Bool.not_eq_true', Bool.not_eq_false', btw_iff, btw_not', Int.not_lt, Int.not_le] at *); (rw [← HE.out]; exact ⟨rfl, rfl⟩))
end Go.Proofs.Ytpjlihkpnhamlaa
end

/- The walks of pulse.line.follow and of the iterator that it returns. -/
section
set_option linter.unusedSimpArgs false
set_option linter.unusedVariables false
namespace Go.Proofs.Ytpjlihkpnhamlaa
open Go.RowKit Go.Shelf

namespace Pu
/-- the dial behind n impulses, and the faults to come -/
def folN (l : Ln) (f : Int) (fs : List (Int × Int)) (d : Dl) : Nat → Dl × List (Int × Int)
  | 0 => (d, fs)
  | n + 1 => (imp l (f + n + 1) (headMoves (folN l f fs d n).2 (f + n + 1)) (folN l f fs d n).1, rest (folN l f fs d n).2 (f + n + 1))
theorem headMoves_le (fs : List (Int × Int)) (t : Int) : headMoves fs t ≤ 2 := by
  unfold headMoves
  repeat' split
  all_goals omega
theorem folN_ok {l : Ln} {f : Int} {fs : List (Int × Int)} {d : Dl} {B : Int} (h : d.ok B) (hB : 0 ≤ B) : ∀ n : Nat, (folN l f fs d n).1.ok (B + 2 * n)
  | 0 => by simpa [folN] using h
  | n + 1 => by
    have := imp_ok (l := l) (t := f + n + 1) (m := headMoves (folN l f fs d n).2 (f + n + 1)) (folN_ok (l := l) (f := f) (fs := fs) h hB n) (by omega)
    have hm := headMoves_le (folN l f fs d n).2 (f + n + 1)
    simp only [folN]
    unfold Dl.ok at *
    omega
theorem rest_mem {fs : List (Int × Int)} {t : Int} {x : Int × Int} (h : x ∈ rest fs t) : x ∈ fs := by
  unfold rest at h
  split at h
  · exact h
  · split at h
    · exact List.mem_cons_of_mem _ h
    · exact h
theorem folN_mem {l : Ln} {f : Int} {fs : List (Int × Int)} {d : Dl} {x : Int × Int} : ∀ n : Nat, x ∈ (folN l f fs d n).2 → x ∈ fs
  | 0, h => by simpa [folN] using h
  | n + 1, h => folN_mem n (rest_mem h)
/-- what the iterator yields -/
def fol (l : Ln) (f U : Int) (fs : List (Int × Int)) (d : Dl) : List (Int × Dl) := (List.range (U - f).toNat).map fun (n : Nat) => (f + (n : Int) + 1, (folN l f fs d (n + 1)).1)
end Pu

/-- the iterator's captured values -/
def folCap (b : Nat) : Array Value := #[.pointer (some ⟨b + 3, 0, none⟩), .pointer (some ⟨b + 2, 0, none⟩), .pointer (some ⟨b + 4, 0, none⟩), .pointer (some ⟨b, 0, none⟩), .pointer (some ⟨b + 1, 0, none⟩)]
def folEnc (x : Int × Pu.Dl) : Array Value := #[.int .i64 x.1, .agg #[.int .i64 (x.2).s, .int .i64 (x.2).k]]
/-- its five boxes -/
structure FolAt (R : Nat → Prop) (w : World) (b : Nat) (r e c f U s k : Int) (fs : List (Int × Int)) : Prop where
  l : Blk w b #[.int .i64 r, .int .i64 e, .int .i64 c] 81
  d : Blk w (b + 1) #[.int .i64 s, .int .i64 k] 89
  f : Blk w (b + 2) #[.int .i64 f] 3
  fs : FBox R w (b + 3) fs
  u : Blk w (b + 4) #[.int .i64 U] 3

set_option maxHeartbeats 400000 in
theorem follow_any (R : Nat → Prop) (r e c f U s k : Int) (a : Option Addr) (cp : Nat) (fs : List (Int × Int)) (w : World) (hf : IsPairs w a fs) (hcp : fs.length ≤ cp) (hR : fs ≠ [] → ∀ x, a = some x → R x.block) :
    Calls Try.prog 40 #[.agg #[.int .i64 r, .int .i64 e, .int .i64 c], .agg #[.int .i64 s, .int .i64 k], .int .i64 f, .slice a fs.length cp, .int .i64 U] w
      (fun en w' => en = .returned (.func (.func 56) #[] (folCap w.heap.size)) ∧ Below w.heap.size w w' ∧ FolAt R w' w.heap.size r e c f U s k fs) := by
  have HZ := Lib.hid hf; clear hf
  go_enter Try.func40, Try.ntmps40
  go_wp2
  go_ret
  have hb : Below w.heap.size w (((((w.alloc (.cells #[.int .i64 r, .int .i64 e, .int .i64 c] 81)).alloc (.cells #[.int .i64 s, .int .i64 k] 89)).alloc (.cells #[.int .i64 f] 3)).alloc (.cells #[.slice a fs.length cp] 109)).alloc (.cells #[.int .i64 U] 3)) := (by repeat first | exact Below.refl _ _ | assumption | (refine Below.alloc ?_ (by first | omega | (simp; done) | (simp; omega)) _) | (refine Below.setCell ?_ (by first | omega | (simp; done) | (simp; omega)) _) | (refine Below.drew ?_) | (refine belowDrewN ?_) | (refine Below.trans ?_ (Below.mono (by assumption) (by first | omega | (simp; done) | (simp; omega)))))
  exact ⟨rfl, hb, (by repeat first | exact blk_at (by first | rfl | omega | (simp; done) | (simp; omega)) | assumption | refine Blk.alloc ?_ _ | refine Blk.drew ?_ | refine Blk.drewN ?_ _ | (refine Blk.other ?_ _ (by first | omega | (simp; done) | (simp; omega))) | (refine Blk.below ?_ (by assumption))), (by repeat first | exact blk_at (by first | rfl | omega | (simp; done) | (simp; omega)) | assumption | refine Blk.alloc ?_ _ | refine Blk.drew ?_ | refine Blk.drewN ?_ _ | (refine Blk.other ?_ _ (by first | omega | (simp; done) | (simp; omega))) | (refine Blk.below ?_ (by assumption))), (by repeat first | exact blk_at (by first | rfl | omega | (simp; done) | (simp; omega)) | assumption | refine Blk.alloc ?_ _ | refine Blk.drew ?_ | refine Blk.drewN ?_ _ | (refine Blk.other ?_ _ (by first | omega | (simp; done) | (simp; omega))) | (refine Blk.below ?_ (by assumption))), ⟨a, cp, hcp, hR, (by repeat first | exact blk_at (by first | rfl | omega | (simp; done) | (simp; omega)) | assumption | refine Blk.alloc ?_ _ | refine Blk.drew ?_ | refine Blk.drewN ?_ _ | (refine Blk.other ?_ _ (by first | omega | (simp; done) | (simp; omega))) | (refine Blk.below ?_ (by assumption))), HZ.out.below hb⟩, (by repeat first | exact blk_at (by first | rfl | omega | (simp; done) | (simp; omega)) | assumption | refine Blk.alloc ?_ _ | refine Blk.drew ?_ | refine Blk.drewN ?_ _ | (refine Blk.other ?_ _ (by first | omega | (simp; done) | (simp; omega))) | (refine Blk.below ?_ (by assumption)))⟩
end Go.Proofs.Ytpjlihkpnhamlaa
end

/- The iterator of pulse.line.follow yields the dial behind each minute. -/
section
set_option linter.unusedSimpArgs false
set_option linter.unusedVariables false
namespace Go.Proofs.Ytpjlihkpnhamlaa
open Go.RowKit Go.Shelf

theorem FBox.kept {R O : Nat → Prop} {w w' : World} {B : Nat} {fs : List (Int × Int)} (h : FBox R w B fs) (hk : Keeps O w w') (hB : ¬ O B) (hR : ∀ b, R b → ¬ O b) : FBox R w' B fs := by
  obtain ⟨a, cp, h1, h2, h3, h4⟩ := h
  refine ⟨a, cp, h1, h2, hk.blk h3 hB, h4.1, fun i hi => ?_⟩
  obtain ⟨b, o, e, hlt, hc, hd⟩ := h4.2 i hi
  have hn : ¬ O b := hR b (h2 (by rintro rfl; simp at hi) _ e)
  have hh := hk.same b hlt hn
  exact ⟨b, o, e, Nat.lt_of_lt_of_le hlt hk.size, by rw [World.cell?_of_block (w := w) hh]; exact hc, by rw [World.cell?_of_block (w := w) hh]; exact hd⟩

def FolRel (R O : Nat → Prop) (J : Nat → (Nat → Prop) → World → Prop) (b B : Nat) (r e c f U s k : Int) (fs : List (Int × Int)) (i : Value) (wr : World) : Prop :=
  ∃ (n : Nat) (s' k' : Int) (fs' : List (Int × Int)), Pu.folN ⟨r, e, c⟩ f fs ⟨s, k⟩ n = (⟨s', k'⟩, fs') ∧ (n : Int) ≤ U - f ∧ i = .int .i64 (f + n + 1) ∧ J n O wr ∧ B < wr.heap.size ∧
    Blk wr b #[.int .i64 r, .int .i64 e, .int .i64 c] 81 ∧
    Blk wr (b + 1) #[.int .i64 s', .int .i64 k'] 89 ∧
    Blk wr (b + 4) #[.int .i64 U] 3 ∧ FBox R wr B fs'

set_option maxHeartbeats 1000000 in
theorem follow1_iter (R : Nat → Prop) (r e c f U s k : Int) (fs : List (Int × Int)) (w : World) (b : Nat) (h : (Pu.Ln.mk r e c).ok) (ha : FolAt R w b r e c f U s k fs) (hRb : ∀ x, R x → x < b)
    (hk : ∀ x ∈ fs, x.2 = 1 ∨ x.2 = 2) (f0 : 0 ≤ f) (f1 : f ≤ U) (u1 : U ≤ 1000000) (h0 : 0 ≤ s) (h1 : s < 720) (h2 : 0 ≤ k) (h3 : k ≤ 1000000) :
    Iterates Try.prog 56 (folCap b) (Pu.fol ⟨r, e, c⟩ f U fs ⟨s, k⟩) folEnc (fun x => b ≤ x ∧ x < b + 5) R w := by
  intro L J W hWb hJ hY hJ0
  obtain ⟨B0, B1, B2, HF, B4⟩ := ha
  have hI := Lib.hid (fun W s k t (m : Nat) (hd : Pu.Dl.ok 500000000 ⟨s, k⟩) (ht : 0 ≤ t) (hm : m ≤ 2) => impulse_any r e c s k t m W h ht hm hd.1 hd.2.1 hd.2.2.1 hd.2.2.2)
  have HO := Lib.hid (Pu.folN_ok (l := ⟨r, e, c⟩) (f := f) (fs := fs) (d := ⟨s, k⟩) (B := k) ⟨h0, h1, h2, Int.le_refl _⟩ h2)
  have hY' := Lib.hid hY; clear hY
  have hbl : b + 4 < w.heap.size := B4.lt
  have hbW : b + 4 < W.heap.size := Nat.lt_of_lt_of_le hbl hWb.size
  replace B0 := B0.below hWb; replace B1 := B1.below hWb; replace B2 := B2.below hWb; replace B4 := B4.below hWb
  have HF' : FBox R W (b + 3) fs := HF.kept (O := fun x => w.heap.size ≤ x) ⟨hWb.mono (Nat.zero_le _), fun i hi ho => hWb.block i hi⟩ (by omega) (fun x hx => by have := hRb x hx; omega)
  clear HF
  obtain ⟨a, cp, q1, q2, q3, q4⟩ := HF'
  have l2 : b + 2 < W.heap.size := B2.lt
  have c20 := B2.cell 0 rfl
  have c30 := q3.cell 0 rfl
  have c40 := B4.cell 0 rfl
  have QQ := Lib.hid q4; clear q4
  unfold folCap
  (refine callsIn_of_wp Try.func56 rfl trivial ?_ rfl; simp only [Try.ntmps56, List.size_toArray, List.length_cons, List.length_nil, Nat.reduceAdd, Nat.reduceSub, Array.replicate_succ, Array.replicate_zero, List.push_toArray, List.append_toArray, List.nil_append, List.cons_append])
  gi_wp2_with fail
  refine wpIn_name ?_
  intro W1 hW1
  have b0 : Blk W1 b #[.int .i64 r, .int .i64 e, .int .i64 c] 81 := by rw [hW1]; exact (by repeat first | exact blk_at (by first | rfl | omega | (simp; done) | (simp; omega)) | assumption | refine Blk.alloc ?_ _ | refine Blk.drew ?_ | refine Blk.drewN ?_ _ | (refine Blk.other ?_ _ (by first | omega | (simp; done) | (simp; omega))) | (refine Blk.below ?_ (by assumption)))
  have b1 : Blk W1 (b + 1) #[.int .i64 s, .int .i64 k] 89 := by rw [hW1]; exact (by repeat first | exact blk_at (by first | rfl | omega | (simp; done) | (simp; omega)) | assumption | refine Blk.alloc ?_ _ | refine Blk.drew ?_ | refine Blk.drewN ?_ _ | (refine Blk.other ?_ _ (by first | omega | (simp; done) | (simp; omega))) | (refine Blk.below ?_ (by assumption)))
  have b4 : Blk W1 (b + 4) #[.int .i64 U] 3 := by rw [hW1]; exact (by repeat first | exact blk_at (by first | rfl | omega | (simp; done) | (simp; omega)) | assumption | refine Blk.alloc ?_ _ | refine Blk.drew ?_ | refine Blk.drewN ?_ _ | (refine Blk.other ?_ _ (by first | omega | (simp; done) | (simp; omega))) | (refine Blk.below ?_ (by assumption)))
  have b5 : Blk W1 W.heap.size #[.slice a fs.length cp] 109 := by rw [hW1]; exact (by repeat first | exact blk_at (by first | rfl | omega | (simp; done) | (simp; omega)) | assumption | refine Blk.alloc ?_ _ | refine Blk.drew ?_ | refine Blk.drewN ?_ _ | (refine Blk.other ?_ _ (by first | omega | (simp; done) | (simp; omega))) | (refine Blk.below ?_ (by assumption)))
  have hbe : Below W.heap.size W W1 := by rw [hW1]; exact (by repeat first | exact Below.refl _ _ | assumption | (refine Below.alloc ?_ (by first | omega | (simp; done) | (simp; omega)) _) | (refine Below.setCell ?_ (by first | omega | (simp; done) | (simp; omega)) _) | (refine Below.drew ?_) | (refine belowDrewN ?_) | (refine Below.trans ?_ (Below.mono (by assumption) (by first | omega | (simp; done) | (simp; omega)))))
  have hz1 : W.heap.size < W1.heap.size := by rw [hW1]; simp
  clear hW1
  have HB : FBox R W1 W.heap.size fs := ⟨a, cp, q1, q2, b5, QQ.out.below hbe⟩
  obtain ⟨O1, hO1⟩ : ∃ O1 : Nat → Prop, O1 = fun x => (b ≤ x ∧ x < b + 5) ∨ x = W.heap.size := ⟨_, rfl⟩
  have j1 : J 0 O1 W1 := hJ _ _ _ _ _ hJ0 (Keeps.below hbe) (fun x hx => by rw [hO1]; exact .inl hx) (fun x hx => by rw [hO1] at hx; omega)
  gi_loopw [8] (fun i wr => FolRel R O1 J b W.heap.size r e c f U s k fs i wr) (fun i _ => (U + 1 - intOf i).toNat)
  case atStart => exact ⟨0, s, k, fs, rfl, by omega, by go_num, j1, hz1, b0, b1, b4, HB⟩
  clear b0 b1 b4 HB j1 b5 hbe B0 B1 B2 B4 QQ q3 c20 c30 c40 hJ0
  case round =>
    obtain ⟨n, s', k', fs', he, hn, rfl, jn, hz, b0, b1, b4, HB⟩ := hrel
    have HJ := Lib.hid jn; clear jn
    have ho := HO.out n
    rw [he] at ho
    by_cases hlt : f + n + 1 ≤ U
    · have c00 := b0.cell 0 rfl; have c01 := b0.cell 1 rfl; have c02 := b0.cell 2 rfl
      have c10 := b1.cell 0 rfl; have c11 := b1.cell 1 rfl
      have c40 := b4.cell 0 rfl
      gi_wp2_with fail
      refine wpIn_wide.2 ?_
      have hmem : ∀ x ∈ fs', x.2 = 1 ∨ x.2 = 2 := fun x hx => hk x (Pu.folN_mem (l := ⟨r, e, c⟩) (f := f) (d := ⟨s, k⟩) n (by rw [he]; exact hx))
      have hM := moves_any R W.heap.size _ (f + n + 1) wr.drew HB hmem
      have hm2 := Pu.headMoves_le fs' (f + n + 1)
      have hs := Pu.folN.eq_2 ⟨r, e, c⟩ f fs ⟨s, k⟩ n
      rw [he] at hs
      dsimp only at hs
      unfold MovesPost at hM
      generalize Pu.rest fs' (f + n + 1) = fs'' at hs hM
      generalize Pu.headMoves fs' (f + n + 1) = m at hs hM hm2
      have hd : Pu.Dl.ok 500000000 ⟨s', k'⟩ := ⟨ho.1, ho.2.1, ho.2.2.1, by have := ho.2.2.2; dsimp only at *; omega⟩
      have hC := fun W => hI.out W s' k' (f + n + 1) m hd (by omega) hm2
      generalize Pu.imp ⟨r, e, c⟩ (f + n + 1) m ⟨s', k'⟩ = D at hs hC
      obtain ⟨s'', k''⟩ := D
      dsimp only at hC
      have HM := Lib.hid hM; have HC := Lib.hid hC; have HS := Lib.hid hs
      have n0 : b ≠ W.heap.size := by omega
      have n1 : b + 1 ≠ W.heap.size := by omega
      have n4 : b + 4 ≠ W.heap.size := by omega
      clear hmem ho hM hC he hs hd hm2 hI
      go_region_with
        (first | (go_at_call 58; refine HM.out.mono ?_; rintro e w1 ⟨rfl, hk1, hB1⟩; have b0' := hk1.blk (Blk.drew b0) n0; have b1' := hk1.blk (Blk.drew b1) n1; have d00 := b0'.cell 0 rfl; have d01 := b0'.cell 1 rfl; have d02 := b0'.cell 2 rfl; have d10 := b1'.cell 0 rfl; have d11 := b1'.cell 1 rfl) | (go_at_call 57; refine (HC.out _).mono ?_; rintro e w2 ⟨rfl, hb2⟩; have b1'' := b1'.below hb2; have d10 := b1''.cell 0 rfl; have d11 := b1''.cell 1 rfl; have g1 := b1''.free))
      all_goals (
        obtain ⟨w3, hw3⟩ : ∃ w3, w3 = (w2.setCell ⟨b + 1, 0, none⟩ (.int .i64 s'')).setCell ⟨b + 1, 1, none⟩ (.int .i64 k'') := ⟨_, rfl⟩
        rw [← hw3]
        have kp1 : Keeps (fun x => x = b + 1) w1 w3 := by rw [hw3]; exact ((Keeps.below (O := fun x => x = b + 1) hb2).trans (Keeps.setCell (O := fun x => x = b + 1) w2 ⟨b + 1, 0, none⟩ _ rfl)).trans (Keeps.setCell (O := fun x => x = b + 1) _ ⟨b + 1, 1, none⟩ _ rfl)
        have kp : Keeps (fun x => x = W.heap.size ∨ x = b + 1) wr w3 := ((Keeps.drew _ wr).trans (hk1.mono fun _ _ h => .inl h)).trans (kp1.mono fun _ _ h => .inr h)
        have j3 : J n O1 w3 := hJ n O1 O1 wr w3 HJ.out (kp.mono fun x _ hx => by rw [hO1]; dsimp only; omega) (fun _ h => h) (fun _ h => .inl h)
        have e0 := kp.blk b0 (by omega)
        have e4 := kp.blk b4 (by omega)
        have e1 : Blk w3 (b + 1) #[.int .i64 s'', .int .i64 k''] 89 := by rw [hw3]; exact (b1''.set 0 _).set 1 _
        have HB3 : FBox R w3 W.heap.size fs'' := hB1.kept kp1 (by omega) (fun x hx => by have := hRb x hx; omega)
        have hz3 : W.heap.size < w3.heap.size := Nat.lt_of_lt_of_le hz kp.size
        clear hw3 kp1 kp hb2 hk1 b0' b1' d00 d01 d02 d10 d11 b1'' g1 hB1 c00 c01 c02 c10 c11 c40 b0 b1 b4 HB HM HC
        have hlen : n < (Pu.fol ⟨r, e, c⟩ f U fs ⟨s, k⟩).length := by simp [Pu.fol]; omega
        obtain ⟨fn, tmps, asg, bdy, hy, hR⟩ := hY'.out n O1 w3 hlen (fun x hx => by rw [hO1]; exact .inl hx) j3
        rw [show folEnc ((Pu.fol ⟨r, e, c⟩ f U fs ⟨s, k⟩)[n]'hlen) = #[.int .i64 (f + n + 1), .agg #[.int .i64 s'', .int .i64 k'']] by simp [Pu.fol, folEnc, HS.out]] at hy
        have hR := Lib.hid hR
        have d10 := e1.cell 0 rfl; have d11 := e1.cell 1 rfl
        gi_wp2_with fail
        refine ⟨rfl, hR.out.mono ?_⟩
        rintro e W4 ⟨rfl, hj4, hk4⟩
        have hok : ∀ x, (b ≤ x ∧ x < b + 5) ∨ x = W.heap.size → ¬ (¬ O1 x ∧ ¬ R x) := fun x hx hh => hh.1 (by rw [hO1]; exact hx)
        have o0 := hk4.blk e0 (hok _ (by omega))
        have o1 := hk4.blk e1 (hok _ (by omega))
        have o4 := hk4.blk e4 (hok _ (by omega))
        have HB4 : FBox R W4 W.heap.size fs'' := HB3.kept hk4 (hok _ (by omega)) (fun x hx hh => hh.2 hx)
        have hz4 : W.heap.size < W4.heap.size := Nat.lt_of_lt_of_le hz3 hk4.size
        clear hR hy e0 e1 e4 HB3 d10 d11 hk4 j3 hok
        gi_wp2_with fail
        exact ⟨⟨n + 1, s'', k'', fs'', HS.out, by omega, by go_num, hj4, hz4, o0, o1, o4, HB4⟩, by simp [intOf]; omega⟩)
    · have c40 := b4.cell 0 rfl
      gi_wp2_with fail
      go_end0
      have hn' : n = (U - f).toNat := by omega
      refine ⟨⟨_, rfl⟩, O1, by intros; rw [hO1]; dsimp only; omega, ?_⟩
      have := HJ.out
      rw [hn'] at this
      simpa [Pu.fol] using this
end Go.Proofs.Ytpjlihkpnhamlaa
end

/- The walks of pulse.Check, open, start, isMinute, isShown, isRight. -/
section
set_option linter.unusedSimpArgs false
set_option linter.unusedVariables false
namespace Go.Proofs.Ytpjlihkpnhamlaa
open Go.RowKit Go.Shelf

set_option maxHeartbeats 400000 in
theorem isMinute_any (t : Int) (w : World) : Calls Try.prog 36 #[.int .i64 t] w (Ret w (.bool (btw 0 100000 t))) := by
  go_enter Try.func36, Try.ntmps36
  go_wp2_with (go_at_call 38; refine (within_new (by first | omega | (simp; done) | (simp; omega))).mono ?_; rintro e w1 ⟨rfl, hb1⟩; obtain ⟨hc1, hf1, hs1⟩ := bcell hb1; have hz1 := hb1.size; (try simp at hz1))
  go_ret
  exact ret_bool rfl (by repeat first | exact Below.refl _ _ | assumption | (refine Below.alloc ?_ (by first | omega | (simp; done) | (simp; omega)) _) | (refine Below.setCell ?_ (by first | omega | (simp; done) | (simp; omega)) _) | (refine Below.drew ?_) | (refine belowDrewN ?_) | (refine Below.trans ?_ (Below.mono (by assumption) (by first | omega | (simp; done) | (simp; omega)))))

set_option maxHeartbeats 400000 in
theorem isShown_any (t : Int) (w : World) : Calls Try.prog 37 #[.int .i64 t] w (Ret w (.bool (btw 0 719 t))) := by
  go_enter Try.func37, Try.ntmps37
  go_wp2_with (go_at_call 38; refine (within_new (by first | omega | (simp; done) | (simp; omega))).mono ?_; rintro e w1 ⟨rfl, hb1⟩; obtain ⟨hc1, hf1, hs1⟩ := bcell hb1; have hz1 := hb1.size; (try simp at hz1))
  go_ret
  exact ret_bool rfl (by repeat first | exact Below.refl _ _ | assumption | (refine Below.alloc ?_ (by first | omega | (simp; done) | (simp; omega)) _) | (refine Below.setCell ?_ (by first | omega | (simp; done) | (simp; omega)) _) | (refine Below.drew ?_) | (refine belowDrewN ?_) | (refine Below.trans ?_ (Below.mono (by assumption) (by first | omega | (simp; done) | (simp; omega)))))

set_option maxHeartbeats 400000 in
theorem isRight_any (s k t : Int) (w : World) (ht : 0 ≤ t) : Calls Try.prog 45 #[.agg #[.int .i64 s, .int .i64 k], .int .i64 t] w (Ret w (.bool (s == t % 720))) := by
  go_enter Try.func45, Try.ntmps45
  go_wp2
  go_ret
  exact ret_bool rfl (by repeat first | exact Below.refl _ _ | assumption | (refine Below.alloc ?_ (by first | omega | (simp; done) | (simp; omega)) _) | (refine Below.setCell ?_ (by first | omega | (simp; done) | (simp; omega)) _) | (refine Below.drew ?_) | (refine belowDrewN ?_) | (refine Below.trans ?_ (Below.mono (by assumption) (by first | omega | (simp; done) | (simp; omega)))))

set_option maxHeartbeats 400000 in
theorem start_any (r e c s t : Int) (w : World) (h : (Pu.Ln.mk r e c).ok) (ht : 0 ≤ t) :
    Calls Try.prog 41 #[.agg #[.int .i64 r, .int .i64 e, .int .i64 c], .int .i64 s, .int .i64 t] w (Ret w (.agg #[.int .i64 (Pu.start ⟨r, e, c⟩ s t).s, .int .i64 (Pu.start ⟨r, e, c⟩ s t).k])) := by
  rcases h with ⟨h4, h5, h6⟩ | ⟨h4, h5, h6, h7, h8, h9, h10⟩
  · dsimp only at h4 h5 h6
    subst h4 h5 h6
    go_enter Try.func41, Try.ntmps41
    go_wp2
    (refine bodyPost_ret (v := .agg #[.int .i64 (Pu.start ⟨0, 0, 0⟩ s t).s, .int .i64 (Pu.start ⟨0, 0, 0⟩ s t).k]) ?_ rfl (ret_any rfl (by repeat first | exact Below.refl _ _ | assumption | (refine Below.alloc ?_ (by first | omega | (simp; done) | (simp; omega)) _) | (refine Below.setCell ?_ (by first | omega | (simp; done) | (simp; omega)) _) | (refine Below.drew ?_) | (refine belowDrewN ?_) | (refine Below.trans ?_ (Below.mono (by assumption) (by first | omega | (simp; done) | (simp; omega)))))); (simp (maxDischargeDepth := 9) [results, Try.results41, go_sem, *]); (try simp only [beq_iff_eq, beq_eq_false_iff_ne, bne_iff_ne, bne_eq_false_iff_eq, ne_eq, Bool.not_eq_true, Bool.not_eq_true', Bool.not_eq_false', btw_iff, btw_not', Int.not_lt, Int.not_le] at *); (all_goals (try simp [Pu.start, *]); all_goals (try (repeat' split)); all_goals (try first | rfl | omega | (exfalso; omega) | (simp_all; done) | (simp_all; omega) | (constructor <;> omega))))
  · dsimp only at h4 h5 h6 h7
    have hne : (r == 0) = false := by simp; omega
    clear h8 h9 h10
    go_enter Try.func41, Try.ntmps41
    go_wp2
    (refine bodyPost_ret (v := .agg #[.int .i64 (Pu.start ⟨r, e, c⟩ s t).s, .int .i64 (Pu.start ⟨r, e, c⟩ s t).k]) ?_ rfl (ret_any rfl (by repeat first | exact Below.refl _ _ | assumption | (refine Below.alloc ?_ (by first | omega | (simp; done) | (simp; omega)) _) | (refine Below.setCell ?_ (by first | omega | (simp; done) | (simp; omega)) _) | (refine Below.drew ?_) | (refine belowDrewN ?_) | (refine Below.trans ?_ (Below.mono (by assumption) (by first | omega | (simp; done) | (simp; omega)))))); (simp (maxDischargeDepth := 9) [results, Try.results41, go_sem, *]); (try simp only [beq_iff_eq, beq_eq_false_iff_ne, bne_iff_ne, bne_eq_false_iff_eq, ne_eq, Bool.not_eq_true, Bool.not_eq_true', Bool.not_eq_false', btw_iff, btw_not', Int.not_lt, Int.not_le] at *); (all_goals (try simp [Pu.start, *]); all_goals (try (repeat' split)); all_goals (try first | rfl | omega | (exfalso; omega) | (simp_all; done) | (simp_all; omega) | (constructor <;> omega))))

set_option maxHeartbeats 1000000 in
theorem check_any (r e c : Int) (w : World) (hr : (Lit.int .i64 r).wf = true) (he : (Lit.int .i64 e).wf = true) (hc : (Lit.int .i64 c).wf = true) :
    Calls Try.prog 16 #[.agg #[.int .i64 r, .int .i64 e, .int .i64 c]] w (Ret w (.int .i64 (Pu.lineErr r e c))) := by
  by_cases h2 : 2 ≤ e ∧ e ≤ 360
  · have hb : btw 2 360 e = true := btw_iff.2 h2
    obtain ⟨h3, h4⟩ := h2
    have m0 : 0 ≤ 720 % e := Int.emod_nonneg _ (by omega)
    go_enter Try.func16, Try.ntmps16
    go_wp2_with (go_at_call 38; refine (within_new (by first | omega | (simp; done) | (simp; omega))).mono ?_; rintro e w1 ⟨rfl, hb1⟩; obtain ⟨hc1, hf1, hs1⟩ := bcell hb1; have hz1 := hb1.size; (try simp at hz1))
    all_goals (go_ret; refine ret_int ?_ (by repeat first | exact Below.refl _ _ | assumption | (refine Below.alloc ?_ (by first | omega | (simp; done) | (simp; omega)) _) | (refine Below.setCell ?_ (by first | omega | (simp; done) | (simp; omega)) _) | (refine Below.drew ?_) | (refine belowDrewN ?_) | (refine Below.trans ?_ (Below.mono (by assumption) (by first | omega | (simp; done) | (simp; omega))))); (try simp only [Bool.not_eq_true', Bool.not_eq_false', btw_iff, btw_not', beq_iff_eq, beq_eq_false_iff_ne, bne_iff_ne, bne_eq_false_iff_eq, ne_eq, Bool.not_eq_true, decide_eq_true_eq, decide_eq_false_iff_not, Int.not_lt, Int.not_le] at *); unfold Pu.lineErr; (repeat' split) <;> (first | rfl | (exfalso; omega) | (simp_all; done) | (simp_all; omega)))
  · have hb : btw 2 360 e = false := btw_not'.2 h2
    have h2' : e < 2 ∨ 360 < e := by omega
    clear h2
    have HB := Lib.hid h2'; clear h2'
    go_enter Try.func16, Try.ntmps16
    go_wp2_with (go_at_call 38; refine (within_new (by first | omega | (simp; done) | (simp; omega))).mono ?_; rintro e w1 ⟨rfl, hb1⟩; obtain ⟨hc1, hf1, hs1⟩ := bcell hb1; have hz1 := hb1.size; (try simp at hz1))
    all_goals (go_ret; refine ret_int ?_ (by repeat first | exact Below.refl _ _ | assumption | (refine Below.alloc ?_ (by first | omega | (simp; done) | (simp; omega)) _) | (refine Below.setCell ?_ (by first | omega | (simp; done) | (simp; omega)) _) | (refine Below.drew ?_) | (refine belowDrewN ?_) | (refine Below.trans ?_ (Below.mono (by assumption) (by first | omega | (simp; done) | (simp; omega))))); have hb' := HB.out; (try simp only [Bool.not_eq_true', Bool.not_eq_false', btw_iff, btw_not', beq_iff_eq, beq_eq_false_iff_ne, bne_iff_ne, bne_eq_false_iff_eq, ne_eq, Bool.not_eq_true, decide_eq_true_eq, decide_eq_false_iff_not, Int.not_lt, Int.not_le] at *); unfold Pu.lineErr; (repeat' split) <;> (first | rfl | (exfalso; omega) | (simp_all; done) | (simp_all; omega)))
end Go.Proofs.Ytpjlihkpnhamlaa
end

/- The walk of pulse.open. -/
section
set_option linter.unusedSimpArgs false
set_option linter.unusedVariables false
namespace Go.Proofs.Ytpjlihkpnhamlaa
open Go.RowKit Go.Shelf
set_option maxHeartbeats 400000 in
theorem open_any (r e c : Int) (w : World) (hr : (Lit.int .i64 r).wf = true) (he : (Lit.int .i64 e).wf = true) (hc : (Lit.int .i64 c).wf = true) :
    Calls Try.prog 35 #[.agg #[.int .i64 r, .int .i64 e, .int .i64 c]] w (Ret w (.tuple #[.agg #[.int .i64 r, .int .i64 e, .int .i64 c], .int .i64 (Pu.lineErr r e c)])) := by
  have HC := Lib.hid (fun W => check_any r e c W hr he hc)
  go_enter Try.func35, Try.ntmps35
  go_wp2_with fail
  refine wp_name ?_
  intro W hW
  have hb0 : Below w.heap.size w W := by rw [hW]; exact (by repeat first | exact Below.refl _ _ | assumption | (refine Below.alloc ?_ (by first | omega | (simp; done) | (simp; omega)) _) | (refine Below.setCell ?_ (by first | omega | (simp; done) | (simp; omega)) _) | (refine Below.drew ?_) | (refine belowDrewN ?_) | (refine Below.trans ?_ (Below.mono (by assumption) (by first | omega | (simp; done) | (simp; omega)))))
  have B0 : Blk W w.heap.size #[.int .i64 r, .int .i64 e, .int .i64 c] 24 := by rw [hW]; exact (by repeat first | exact blk_at (by first | rfl | omega | (simp; done) | (simp; omega)) | assumption | refine Blk.alloc ?_ _ | refine Blk.drew ?_ | refine Blk.drewN ?_ _ | (refine Blk.other ?_ _ (by first | omega | (simp; done) | (simp; omega))) | (refine Blk.below ?_ (by assumption)))
  have B1 : Blk W (w.heap.size + 1) #[.int .i64 0, .int .i64 0, .int .i64 0] 81 := by rw [hW]; exact (by repeat first | exact blk_at (by first | rfl | omega | (simp; done) | (simp; omega)) | assumption | refine Blk.alloc ?_ _ | refine Blk.drew ?_ | refine Blk.drewN ?_ _ | (refine Blk.other ?_ _ (by first | omega | (simp; done) | (simp; omega))) | (refine Blk.below ?_ (by assumption)))
  have hz : w.heap.size + 2 ≤ W.heap.size := by rw [hW]; simp
  clear hW
  have S0 : ∀ W', Below W.heap.size W W' → Blk W' w.heap.size #[.int .i64 r, .int .i64 e, .int .i64 c] 24 ∧ Blk W' (w.heap.size + 1) #[.int .i64 0, .int .i64 0, .int .i64 0] 81 := fun W' h => ⟨B0.below h, B1.below h⟩
  have f1 := B1.free
  have c00 := B0.cell 0 rfl; have c01 := B0.cell 1 rfl; have c02 := B0.cell 2 rfl
  have c10 := B1.cell 0 rfl; have c11 := B1.cell 1 rfl; have c12 := B1.cell 2 rfl
  have hl : w.heap.size < W.heap.size := by omega
  go_region_held3 (fun w' => w'.cell? ⟨w.heap.size, 0, none⟩ = some (.int .i64 r) ∧ w'.cell? ⟨w.heap.size, 1, none⟩ = some (.int .i64 e) ∧ w'.cell? ⟨w.heap.size, 2, none⟩ = some (.int .i64 c)) (first | exact ⟨c00, c01, c02⟩ | exact ⟨(hc1 _ _ hl).trans c00, (hc1 _ _ hl).trans c01, (hc1 _ _ hl).trans c02⟩ | (go_keep; done))
    (first | (go_at_call 16; refine (HC.out _).mono ?_; rintro e w1 ⟨rfl, hb1⟩; obtain ⟨hc1, hf1, hs1⟩ := bcell hb1; have hz1 := hb1.size; (try simp at hz1); have b1' := B1.drew.below hb1; have f1' := b1'.free; have d10 := b1'.cell 0 rfl; have d11 := b1'.cell 1 rfl; have d12 := b1'.cell 2 rfl))
  go_wp2
  (refine bodyPost_ret (v := .tuple #[.agg #[.int .i64 r, .int .i64 e, .int .i64 c], .int .i64 (Pu.lineErr r e c)]) ?_ rfl (ret_any rfl (by repeat first | exact Below.refl _ _ | assumption | (refine Below.alloc ?_ (by first | omega | (simp; done) | (simp; omega)) _) | (refine Below.setCell ?_ (by first | omega | (simp; done) | (simp; omega)) _) | (refine Below.drew ?_) | (refine belowDrewN ?_) | (refine Below.trans ?_ (Below.mono (by assumption) (by first | omega | (simp; done) | (simp; omega)))))); (simp (maxDischargeDepth := 9) [results, Try.results35, go_sem, *]); (try simp only [beq_iff_eq, beq_eq_false_iff_ne, bne_iff_ne, bne_eq_false_iff_eq, ne_eq, Bool.not_eq_true, Bool.not_eq_true', Bool.not_eq_false', btw_iff, btw_not', Int.not_lt, Int.not_le] at *); done)
end Go.Proofs.Ytpjlihkpnhamlaa
end

/- The walks of the checks of faults: pulse's and the reference's. -/
section
set_option linter.unusedSimpArgs false
set_option linter.unusedVariables false
namespace Go.Proofs.Ytpjlihkpnhamlaa
open Go.RowKit Go.Shelf

namespace Pu
/-- faults, one after another -/
def chkFs (l : Ln) (U : Int) : Int → List (Int × Int) → Bool
  | _, [] => true
  | f, x :: rest => (decide (f + 1 ≤ x.1 ∧ x.1 ≤ U) && (decide (x.2 = 1) || decide (x.2 = 2)) && !(isLong l x.1)) && chkFs l U x.1 rest
def faultsErr (l : Ln) (f U : Int) (fs : List (Int × Int)) : Int := if 20 < fs.length then 5 else if chkFs l U f fs = true then 0 else 2
theorem chk_false {l : Ln} {U v : Int} {x : Int × Int} {rest : List (Int × Int)} (h : ¬(v + 1 ≤ x.1 ∧ x.1 ≤ U) ∨ (¬ x.2 = 1 ∧ ¬ x.2 = 2) ∨ isLong l x.1 = true) : chkFs l U v (x :: rest) = false := by
  rw [chkFs]
  rcases h with h | h | h
  · rw [decide_eq_false h]; simp
  · simp [h.1, h.2]
  · simp [h]
theorem chk_true {l : Ln} {U v : Int} {x : Int × Int} {rest : List (Int × Int)} (h1 : v + 1 ≤ x.1 ∧ x.1 ≤ U) (h2 : x.2 = 1 ∨ x.2 = 2) (h3 : isLong l x.1 = false) : chkFs l U v (x :: rest) = chkFs l U x.1 rest := by
  rw [chkFs]
  rw [decide_eq_true h1, h3]
  rcases h2 with h | h <;> simp [h]
theorem faults_two {l : Ln} {f U : Int} {fs : List (Int × Int)} (hl : ¬ 20 < fs.length) (h : chkFs l U f fs = false) : (2 : Int) = faultsErr l f U fs := by simp [faultsErr, hl, h]
end Pu

set_option maxHeartbeats 1000000 in
theorem lineCheck_any (r e c f U : Int) (a : Option Addr) (cp : Nat) (fs : List (Int × Int)) (w : World) (h : (Pu.Ln.mk r e c).ok) (hf : IsPairs w a fs) (f0 : 0 ≤ f) (f1 : f ≤ 1000000) (u1 : U ≤ 1000000) :
    Calls Try.prog 39 #[.agg #[.int .i64 r, .int .i64 e, .int .i64 c], .slice a fs.length cp, .int .i64 f, .int .i64 U] w (Ret w (.int .i64 (Pu.faultsErr ⟨r, e, c⟩ f U fs))) := by
  have hlen := hf.1
  have HZ := Lib.hid hf; clear hf
  have HL := Lib.hid (fun W t (ht : 0 ≤ t) => isLong_any r e c t W h ht)
  clear h
  by_cases hl : 20 < fs.length
  · go_enter Try.func39, Try.ntmps39
    go_wp2
    go_ret
    exact ret_int (by simp [Pu.faultsErr, hl]) (by repeat first | exact Below.refl _ _ | assumption | (refine Below.alloc ?_ (by first | omega | (simp; done) | (simp; omega)) _) | (refine Below.setCell ?_ (by first | omega | (simp; done) | (simp; omega)) _) | (refine Below.drew ?_) | (refine belowDrewN ?_) | (refine Below.trans ?_ (Below.mono (by assumption) (by first | omega | (simp; done) | (simp; omega)))))
  · go_enter Try.func39, Try.ntmps39
    go_wp2_with fail
    have hb0 : Below w.heap.size w (w.alloc (.cells #[.int .i64 r, .int .i64 e, .int .i64 c] 81)) := (by repeat first | exact Below.refl _ _ | assumption | (refine Below.alloc ?_ (by first | omega | (simp; done) | (simp; omega)) _) | (refine Below.setCell ?_ (by first | omega | (simp; done) | (simp; omega)) _) | (refine Below.drew ?_) | (refine belowDrewN ?_) | (refine Below.trans ?_ (Below.mono (by assumption) (by first | omega | (simp; done) | (simp; omega)))))
    have B0 : Blk (w.alloc (.cells #[.int .i64 r, .int .i64 e, .int .i64 c] 81)) w.heap.size #[.int .i64 r, .int .i64 e, .int .i64 c] 81 := (by repeat first | exact blk_at (by first | rfl | omega | (simp; done) | (simp; omega)) | assumption | refine Blk.alloc ?_ _ | refine Blk.drew ?_ | refine Blk.drewN ?_ _ | (refine Blk.other ?_ _ (by first | omega | (simp; done) | (simp; omega))) | (refine Blk.below ?_ (by assumption)))
    go_loopw [16, 2] (fun i g wr => ∃ (k : Nat) (v : Int), k ≤ fs.length ∧ i = .int .i64 k ∧ g = .int .i64 v ∧ 0 ≤ v ∧ v ≤ 1000000 ∧ Pu.chkFs ⟨r, e, c⟩ U f fs = Pu.chkFs ⟨r, e, c⟩ U v (fs.drop k) ∧ Below w.heap.size w wr ∧ w.heap.size + 1 ≤ wr.heap.size ∧ Blk wr w.heap.size #[.int .i64 r, .int .i64 e, .int .i64 c] 81) (fun i _ _ => fs.length - (intOf i).toNat)
    case atStart => exact ⟨0, f, Nat.zero_le _, rfl, rfl, f0, f1, rfl, hb0, by simp, B0⟩
    case round =>
      obtain ⟨k, v, hk, rfl, rfl, v0, v1, hch, hb, hz, b0⟩ := hrel
      clear hb0 B0
      by_cases hlt : k < fs.length
      · obtain ⟨b, o, rfl, hbl, hc, hd⟩ := (HZ.out.below hb).2 k hlt
        rw [List.drop_eq_getElem_cons hlt] at hch
        have HCH := Lib.hid hch; clear hch
        have g0 := b0.free
        have c00 := b0.cell 0 rfl; have c01 := b0.cell 1 rfl; have c02 := b0.cell 2 rfl
        have h0 := b0.lt
        have h0a := Nat.lt_succ_of_lt h0; have h0b := Nat.lt_succ_of_lt h0a; have h0c := Nat.lt_succ_of_lt h0b; have h0d := Nat.lt_succ_of_lt h0c; simp only [Nat.succ_eq_add_one] at h0a h0b h0c h0d
        have hbla := Nat.lt_succ_of_lt hbl; have hblb := Nat.lt_succ_of_lt hbla; have hblc := Nat.lt_succ_of_lt hblb; have hbld := Nat.lt_succ_of_lt hblc; simp only [Nat.succ_eq_add_one] at hbla hblb hblc hbld
        have zz1 : wr.heap.size < wr.heap.size + 1 := (by omega); have zz2 : wr.heap.size < wr.heap.size + 1 + 1 := (by omega); have zz3 : wr.heap.size < wr.heap.size + 1 + 1 + 1 := (by omega); have zz4 : wr.heap.size < wr.heap.size + 1 + 1 + 1 + 1 := (by omega)
        by_cases q : v + 1 ≤ fs[k].1 ∧ fs[k].1 ≤ U
        · have qb : btw (v + 1) U fs[k].1 = true := btw_iff.2 q
          obtain ⟨q1, q2⟩ := q
          go_wp2_with (first | ((go_at_call 38; refine (within_new (by first | omega | (simp; done) | (simp; omega))).mono ?_; rintro e w1 ⟨rfl, hb1⟩; obtain ⟨hc1, hf1, hs1⟩ := bcell hb1; have hz1 := hb1.size; (try simp at hz1)); have t1 : wr.heap.size < w1.heap.size := (by omega); have t2 : w.heap.size < w1.heap.size := (by omega)) | (go_at_call 55; refine (HL.out _ _ (by omega)).mono ?_; rintro e w1 ⟨rfl, hb1⟩; obtain ⟨hc1, hf1, hs1⟩ := bcell hb1; have hz1 := hb1.size; (try simp at hz1)))
          all_goals (first | (go_ret; refine ret_int ?_ (by repeat first | exact Below.refl _ _ | assumption | (refine Below.alloc ?_ (by first | omega | (simp; done) | (simp; omega)) _) | (refine Below.setCell ?_ (by first | omega | (simp; done) | (simp; omega)) _) | (refine Below.drew ?_) | (refine belowDrewN ?_) | (refine Below.trans ?_ (Below.mono (by assumption) (by first | omega | (simp; done) | (simp; omega))))); have hc' := HCH.out; (try simp only [Bool.not_eq_true', Bool.not_eq_false', btw_iff, btw_not', beq_iff_eq, beq_eq_false_iff_ne, bne_iff_ne, bne_eq_false_iff_eq, ne_eq, Bool.not_eq_true, decide_eq_true_eq, decide_eq_false_iff_not, Int.not_lt, Int.not_le] at *); simp_all [Pu.chkFs, Pu.faultsErr]; done) | skip)
          all_goals (refine ⟨⟨k + 1, fs[k].1, by omega, by go_num, rfl, by omega, by omega, (by rw [HCH.out, Pu.chkFs]; simp [*]), (by repeat first | exact Below.refl _ _ | assumption | (refine Below.alloc ?_ (by first | omega | (simp; done) | (simp; omega)) _) | (refine Below.setCell ?_ (by first | omega | (simp; done) | (simp; omega)) _) | (refine Below.drew ?_) | (refine belowDrewN ?_) | (refine Below.trans ?_ (Below.mono (by assumption) (by first | omega | (simp; done) | (simp; omega))))), by omega, ?_⟩, by simp [intOf]; omega⟩)
          all_goals (refine Blk.below ?_ (by assumption); refine Blk.below ?_ (by assumption); exact (b0.alloc _).alloc _)
        · have qb : btw (v + 1) U fs[k].1 = false := btw_not'.2 q
          have HQ := Lib.hid q; clear q
          go_wp2_with (go_at_call 38; refine (within_new (by first | omega | (simp; done) | (simp; omega))).mono ?_; rintro e w1 ⟨rfl, hb1⟩; obtain ⟨hc1, hf1, hs1⟩ := bcell hb1; have hz1 := hb1.size; (try simp at hz1))
          go_ret
          refine ret_int ?_ (by repeat first | exact Below.refl _ _ | assumption | (refine Below.alloc ?_ (by first | omega | (simp; done) | (simp; omega)) _) | (refine Below.setCell ?_ (by first | omega | (simp; done) | (simp; omega)) _) | (refine Below.drew ?_) | (refine belowDrewN ?_) | (refine Below.trans ?_ (Below.mono (by assumption) (by first | omega | (simp; done) | (simp; omega)))))
          have hc' := HCH.out
          have q := HQ.out
          simp [Pu.chkFs, q] at hc'
          simp [Pu.faultsErr, hl, hc']
      · have hk' : k = fs.length := by omega
        have HCH := Lib.hid hch; clear hch
        go_wp2_with fail
        go_ret
        refine ret_int ?_ (by repeat first | exact Below.refl _ _ | assumption | (refine Below.alloc ?_ (by first | omega | (simp; done) | (simp; omega)) _) | (refine Below.setCell ?_ (by first | omega | (simp; done) | (simp; omega)) _) | (refine Below.drew ?_) | (refine belowDrewN ?_) | (refine Below.trans ?_ (Below.mono (by assumption) (by first | omega | (simp; done) | (simp; omega)))))
        have := HCH.out
        subst hk'
        simp [Pu.chkFs] at this
        simp [Pu.faultsErr, hl, this]

def RefFaultsRel (r e c f U : Int) (fs : List (Int × Int)) (w : World) (i : Value) (wr : World) : Prop :=
  ∃ (k : Nat) (v : Int), k ≤ fs.length ∧ i = .int .i64 k ∧ (k = 0 → v = f) ∧ (∀ (_ : 0 < k) (_ : k - 1 < fs.length), v = fs[k - 1].1) ∧ f ≤ v ∧ v ≤ 1000000 ∧ Pu.chkFs ⟨r, e, c⟩ U f fs = Pu.chkFs ⟨r, e, c⟩ U v (fs.drop k) ∧ Below w.heap.size w wr ∧ w.heap.size + 1 ≤ wr.heap.size ∧ Blk wr w.heap.size #[.int .i64 r, .int .i64 e, .int .i64 c] 24
set_option maxHeartbeats 2000000 in
theorem refFaults_any (r e c f U : Int) (a : Option Addr) (cp : Nat) (fs : List (Int × Int)) (w : World) (h : (Pu.Ln.mk r e c).ok) (hf : IsPairs w a fs) (f0 : 0 ≤ f) (f1 : f ≤ 1000000) (u1 : U ≤ 1000000) :
    Calls Try.prog 18 #[.agg #[.int .i64 r, .int .i64 e, .int .i64 c], .int .i64 f, .int .i64 U, .slice a fs.length cp] w (Ret w (.int .i64 (Pu.faultsErr ⟨r, e, c⟩ f U fs))) := by
  have hlen := hf.1
  have HZ := Lib.hid hf; clear hf
  have HL := Lib.hid (fun W t (ht : 0 ≤ t) => refLong_any r e c t W h ht)
  clear h
  by_cases hl : 20 < fs.length
  · go_enter Try.func18, Try.ntmps18
    go_wp2
    go_ret
    exact ret_int (by simp [Pu.faultsErr, hl]) (by repeat first | exact Below.refl _ _ | assumption | (refine Below.alloc ?_ (by first | omega | (simp; done) | (simp; omega)) _) | (refine Below.setCell ?_ (by first | omega | (simp; done) | (simp; omega)) _) | (refine Below.drew ?_) | (refine belowDrewN ?_) | (refine Below.trans ?_ (Below.mono (by assumption) (by first | omega | (simp; done) | (simp; omega)))))
  · go_enter Try.func18, Try.ntmps18
    go_wp2_with fail
    have hb0 : Below w.heap.size w (w.alloc (.cells #[.int .i64 r, .int .i64 e, .int .i64 c] 24)) := (by repeat first | exact Below.refl _ _ | assumption | (refine Below.alloc ?_ (by first | omega | (simp; done) | (simp; omega)) _) | (refine Below.setCell ?_ (by first | omega | (simp; done) | (simp; omega)) _) | (refine Below.drew ?_) | (refine belowDrewN ?_) | (refine Below.trans ?_ (Below.mono (by assumption) (by first | omega | (simp; done) | (simp; omega)))))
    have B0 : Blk (w.alloc (.cells #[.int .i64 r, .int .i64 e, .int .i64 c] 24)) w.heap.size #[.int .i64 r, .int .i64 e, .int .i64 c] 24 := (by repeat first | exact blk_at (by first | rfl | omega | (simp; done) | (simp; omega)) | assumption | refine Blk.alloc ?_ _ | refine Blk.drew ?_ | refine Blk.drewN ?_ _ | (refine Blk.other ?_ _ (by first | omega | (simp; done) | (simp; omega))) | (refine Blk.below ?_ (by assumption)))
    go_loopw [9] (fun i wr => RefFaultsRel r e c f U fs w i wr) (fun i _ => fs.length - (intOf i).toNat)
    case atStart => exact ⟨0, f, Nat.zero_le _, rfl, fun _ => rfl, fun h => by omega, Int.le_refl _, f1, rfl, hb0, by simp, B0⟩
    case round =>
      obtain ⟨k, v, hk, rfl, ve0, ve1, v0, v1, hch, hb, hz, b0⟩ := hrel
      clear hb0 B0
      have HE0 := Lib.hid ve0; have HE1 := Lib.hid ve1; clear ve0 ve1
      by_cases hlt : k < fs.length
      · obtain ⟨b, o, rfl, hbl, hc, hd⟩ := (HZ.out.below hb).2 k hlt
        rw [List.drop_eq_getElem_cons hlt] at hch
        have HCH := Lib.hid hch; clear hch
        have h0 := b0.lt
        go_wp2_with fail
        refine wp_name ?_
        intro W hW
        have hbW : Below wr.heap.size wr W := by rw [hW]; exact (by repeat first | exact Below.refl _ _ | assumption | (refine Below.alloc ?_ (by first | omega | (simp; done) | (simp; omega)) _) | (refine Below.setCell ?_ (by first | omega | (simp; done) | (simp; omega)) _) | (refine Below.drew ?_) | (refine belowDrewN ?_) | (refine Below.trans ?_ (Below.mono (by assumption) (by first | omega | (simp; done) | (simp; omega)))))
        have BW : Blk W wr.heap.size #[.int .i64 fs[k].1, .int .i64 fs[k].2] 67 := by rw [hW]; exact (by repeat first | exact blk_at (by first | rfl | omega | (simp; done) | (simp; omega)) | assumption | refine Blk.alloc ?_ _ | refine Blk.drew ?_ | refine Blk.drewN ?_ _ | (refine Blk.other ?_ _ (by first | omega | (simp; done) | (simp; omega))) | (refine Blk.below ?_ (by assumption)))
        have hzW : wr.heap.size + 1 ≤ W.heap.size := by rw [hW]; simp
        clear hW
        have b0W := b0.below hbW
        have x00 := b0W.later 0 rfl; have x01 := b0W.later 1 rfl; have x02 := b0W.later 2 rfl
        have x10 := BW.later 0 rfl; have x11 := BW.later 1 rfl
        by_cases hk0 : k = 0
        · subst hk0
          obtain rfl : v = f := HE0.out rfl
          (refine wp_region_later (by kernel_rfl) (by kernel_rfl) ?_; (repeat (any_goals (first | go_big_quiet_step (((go_at_call 42; exact later_call (HL.out _ _ (by omega))))) | quiet_step (((go_at_call 42; exact later_call (HL.out _ _ (by omega))))) | (refine wpQuiet_step (fun K hK => ?_); go_simp; split <;> (refine hK _ ?_; clear hK K))))); (all_goals (refine wpQuiet_nil ?_; intro wq hw'; obtain ⟨⟨_, hbq⟩, hw''⟩ := hw'; subst hw'')))
          all_goals (have hzq := hbq.size; have bq := b0W.below hbq; have hbb : Below w.heap.size w wq := hb.trans ((hbW.mono hb.size).trans (hbq.mono (by omega))); go_wp2)
          all_goals (first | (go_ret; refine ret_int (Pu.faults_two hl (HCH.out.trans (Pu.chk_false ?_))) hbb; rename_i hx; (first | (right; right; exact hx) | (left; omega) | (right; left; exact ⟨by assumption, hx⟩) | (rcases hx with hx | hx <;> first | (left; omega) | (right; right; exact hx)))) | skip)
          all_goals (rename_i hx; exact ⟨⟨0 + 1, fs[0].1, by omega, by go_num, (fun h => by omega), (fun _ _ => rfl), by omega, by omega, HCH.out.trans (Pu.chk_true ⟨by omega, by omega⟩ (by first | (left; assumption) | (right; assumption)) (by first | exact hx | exact hx.2)), hbb, by omega, bq⟩, by simp [intOf]; omega⟩)
        · have hkm : k - 1 < fs.length := by omega
          have hkp : 0 < k := by omega
          obtain ⟨b2, o2, e2, hbl2, hcp, _⟩ := (HZ.out.below hb).2 (k - 1) hkm
          obtain ⟨rfl, rfl⟩ : b = b2 ∧ o = o2 := by simpa using e2
          have hv := HE1.out hkp hkm
          subst hv
          have hkk : (k : Int) - 1 = ((k - 1 : Nat) : Int) := by omega
          have y0 : ∀ x : Later W, x.1.cell? ⟨b, o + (k - 1) * 2, none⟩ = some (.int .i64 fs[k - 1].1) := fun x => later_cell x (Nat.lt_of_lt_of_le hbl2 hbW.size) (by rw [hbW.cell (p := ⟨b, o + (k - 1) * 2, none⟩) hbl2]; exact hcp)
          clear e2 hcp
          have hki : (0 : Int) < k := by omega
          (refine wp_region_later (by kernel_rfl) (by kernel_rfl) ?_; (repeat (any_goals (first | go_big_quiet_step (((go_at_call 42; exact later_call (HL.out _ _ (by omega))))) | quiet_step (((go_at_call 42; exact later_call (HL.out _ _ (by omega))))) | (refine wpQuiet_step (fun K hK => ?_); go_simp; split <;> (refine hK _ ?_; clear hK K))))); (all_goals (refine wpQuiet_nil ?_; intro wq hw'; obtain ⟨⟨_, hbq⟩, hw''⟩ := hw'; subst hw'')))
          all_goals (have hzq := hbq.size; have bq := b0W.below hbq; have hbb : Below w.heap.size w wq := hb.trans ((hbW.mono hb.size).trans (hbq.mono (by omega))); go_wp2)
          all_goals (first | (go_ret; refine ret_int (Pu.faults_two hl (HCH.out.trans (Pu.chk_false ?_))) hbb; rename_i hx; (first | (right; right; exact hx) | (left; omega) | (right; left; exact ⟨by assumption, hx⟩) | (rcases hx with hx | hx <;> first | (left; omega) | (right; right; exact hx)))) | skip)
          all_goals (rename_i hx; exact ⟨⟨k + 1, fs[k].1, by omega, by go_num, (fun h => by omega), (fun _ _ => rfl), by omega, by omega, HCH.out.trans (Pu.chk_true ⟨by omega, by omega⟩ (by first | (left; assumption) | (right; assumption)) (by first | exact hx | exact hx.2)), hbb, by omega, bq⟩, by simp [intOf]; omega⟩)
      · have hk' : k = fs.length := by omega
        have HCH := Lib.hid hch; clear hch
        go_wp2_with fail
        go_ret
        refine ret_int ?_ (by repeat first | exact Below.refl _ _ | assumption | (refine Below.alloc ?_ (by first | omega | (simp; done) | (simp; omega)) _) | (refine Below.setCell ?_ (by first | omega | (simp; done) | (simp; omega)) _) | (refine Below.drew ?_) | (refine belowDrewN ?_) | (refine Below.trans ?_ (Below.mono (by assumption) (by first | omega | (simp; done) | (simp; omega)))))
        have := HCH.out
        subst hk'
        simp [Pu.chkFs] at this
        simp [Pu.faultsErr, hl, this]
end Go.Proofs.Ytpjlihkpnhamlaa
end

/- The walk of pulse.Run. -/
section
set_option linter.unusedSimpArgs false
set_option linter.unusedVariables false
namespace Go.Proofs.Ytpjlihkpnhamlaa
open Go.RowKit Go.Shelf

namespace Pu
def runVal (l : Ln) (sh f : Int) (fs : List (Int × Int)) (U : Int) : Int × Int :=
  if lineErr l.r l.e l.c ≠ 0 then (0, lineErr l.r l.e l.c) else if btw 0 100000 f = false then (0, 3) else if btw 0 719 sh = false then (0, 2) else if btw f (f + 5000) U = false then (0, 3)
  else if faultsErr l f U fs ≠ 0 then (0, faultsErr l f U fs) else ((folN l f fs (start l sh f) (U - f).toNat).1.s, 0)
theorem chk_kinds {l : Ln} {U : Int} : ∀ {fs : List (Int × Int)} {f : Int}, chkFs l U f fs = true → ∀ x ∈ fs, x.2 = 1 ∨ x.2 = 2
  | [], _, _, x, hx => by simp at hx
  | y :: tl, f, h, x, hx => by
    rw [chkFs] at h
    simp only [Bool.and_eq_true, Bool.or_eq_true, decide_eq_true_eq] at h
    rcases List.mem_cons.1 hx with rfl | hx
    · exact h.1.1.2
    · exact chk_kinds h.2 x hx
theorem faults_zero {l : Ln} {f U : Int} {fs : List (Int × Int)} (h : faultsErr l f U fs = 0) : fs.length ≤ 20 ∧ chkFs l U f fs = true := by
  unfold faultsErr at h
  split at h
  · simp at h
  · split at h
    · exact ⟨by omega, by assumption⟩
    · simp at h
end Pu

theorem fold2 (p q : Tmp) (x y : Value) (t : Array Value) : (#[p, q].zip #[x, y]).foldl (fun t (p, v) => t.setIfInBounds p v) t = (t.setIfInBounds p x).setIfInBounds q y := by simp
theorem fold1 (p : Tmp) (x : Value) (t : Array Value) : (#[p].zip #[x]).foldl (fun t (p, v) => t.setIfInBounds p v) t = t.setIfInBounds p x := by simp

/-- what holds between two rounds of the loop -/
structure RunI (w : World) (r e c f s0 k0 : Int) (fs : List (Int × Int)) (k : Nat) (O : Nat → Prop) (W : World) : Prop where
  low : Below w.heap.size w W
  up : ∀ b, O b → w.heap.size + 2 ≤ b
  big : w.heap.size + 2 ≤ W.heap.size
  box : Blk W (w.heap.size + 1) #[.int .i64 (Pu.folN ⟨r, e, c⟩ f fs ⟨s0, k0⟩ k).1.s] 3
theorem runI_abide {w : World} {r e c f s0 k0 : Int} {fs : List (Int × Int)} : Abide (RunI w r e c f s0 k0 fs) := by
  rintro k O O' W W' ⟨h1, h2, h3, h4⟩ hk hO hO'
  have hlo : ∀ b, O' b → w.heap.size + 2 ≤ b := fun b hb => by
    rcases hO' b hb with h | h
    · exact h2 b h
    · omega
  exact ⟨h1.trans (hk.to_below (by omega) (fun b hb => by have := hlo b hb; omega)), hlo, Nat.le_trans h3 hk.size, hk.blk h4 (fun hb => by have := hlo _ hb; omega)⟩

attribute [local go_sem] Oper.semAt_some

set_option maxHeartbeats 1000000 in
theorem pulseRun_any (r e c sh f U : Int) (a : Option Addr) (cp : Nat) (fs : List (Int × Int)) (w : World) (hr : (Lit.int .i64 r).wf = true) (he : (Lit.int .i64 e).wf = true) (hc : (Lit.int .i64 c).wf = true) (hf : IsPairs w a fs) (hcp : fs.length ≤ cp) :
    Calls Try.prog 13 #[.agg #[.int .i64 r, .int .i64 e, .int .i64 c], .int .i64 sh, .int .i64 f, .slice a fs.length cp, .int .i64 U] w
      (Ret w (.tuple #[.int .i64 (Pu.runVal ⟨r, e, c⟩ sh f fs U).1, .int .i64 (Pu.runVal ⟨r, e, c⟩ sh f fs U).2])) := by
  have HO := Lib.hid (fun W => open_any r e c W hr he hc)
  by_cases h1 : Pu.lineErr r e c = 0
  case neg =>
    have h2 := Pu.err_two h1
    have hv : Pu.runVal ⟨r, e, c⟩ sh f fs U = (0, 2) := by simp [Pu.runVal, h2]
    rw [hv]
    rw [h2] at HO
    clear h1 h2 hv hf
    go_enter Try.func13, Try.ntmps13
    go_wp2_with (go_at_call 35; refine (HO.out _).mono ?_; rintro e w1 ⟨rfl, hb1⟩; obtain ⟨hc1, hf1, hs1⟩ := bcell hb1; have hz1 := hb1.size; (try simp at hz1))
    (refine bodyPost_ret (v := .tuple #[.int .i64 0, .int .i64 2]) ?_ rfl (ret_any rfl (by repeat first | exact Below.refl _ _ | assumption | (refine Below.alloc ?_ (by first | omega | (simp; done) | (simp; omega)) _) | (refine Below.setCell ?_ (by first | omega | (simp; done) | (simp; omega)) _) | (refine Below.drew ?_) | (refine belowDrewN ?_) | (refine Below.trans ?_ (Below.mono (by assumption) (by first | omega | (simp; done) | (simp; omega)))))); (simp (maxDischargeDepth := 9) [results, Try.results13, go_sem, *]); (try simp only [beq_iff_eq, beq_eq_false_iff_ne, bne_iff_ne, bne_eq_false_iff_eq, ne_eq, Bool.not_eq_true, Bool.not_eq_true', Bool.not_eq_false', btw_iff, btw_not', Int.not_lt, Int.not_le] at *); done)
  case pos =>
    have hok := Pu.ok_of_err h1
    rw [h1] at HO
    cases hm : btw 0 100000 f
    case false =>
      have hv : Pu.runVal ⟨r, e, c⟩ sh f fs U = (0, 3) := by simp [Pu.runVal, h1, hm]
      rw [hv]
      clear h1 hv hf hok
      go_enter Try.func13, Try.ntmps13
      go_wp2_with (first | (go_at_call 35; refine (HO.out _).mono ?_; rintro e w1 ⟨rfl, hb1⟩; obtain ⟨hc1, hf1, hs1⟩ := bcell hb1; have hz1 := hb1.size; (try simp at hz1)) | (go_at_call 36; refine (isMinute_any _ _).mono ?_; rintro e w1 ⟨rfl, hb1⟩; obtain ⟨hc1, hf1, hs1⟩ := bcell hb1; have hz1 := hb1.size; (try simp at hz1)))
      (refine bodyPost_ret (v := .tuple #[.int .i64 0, .int .i64 3]) ?_ rfl (ret_any rfl (by repeat first | exact Below.refl _ _ | assumption | (refine Below.alloc ?_ (by first | omega | (simp; done) | (simp; omega)) _) | (refine Below.setCell ?_ (by first | omega | (simp; done) | (simp; omega)) _) | (refine Below.drew ?_) | (refine belowDrewN ?_) | (refine Below.trans ?_ (Below.mono (by assumption) (by first | omega | (simp; done) | (simp; omega)))))); (simp (maxDischargeDepth := 9) [results, Try.results13, go_sem, *]); (try simp only [beq_iff_eq, beq_eq_false_iff_ne, bne_iff_ne, bne_eq_false_iff_eq, ne_eq, Bool.not_eq_true, Bool.not_eq_true', Bool.not_eq_false', btw_iff, btw_not', Int.not_lt, Int.not_le] at *); done)
    case true =>
    cases hs : btw 0 719 sh
    case false =>
      have hv : Pu.runVal ⟨r, e, c⟩ sh f fs U = (0, 2) := by simp [Pu.runVal, h1, hm, hs]
      rw [hv]
      clear h1 hv hf hok
      go_enter Try.func13, Try.ntmps13
      go_wp2_with (first | (go_at_call 35; refine (HO.out _).mono ?_; rintro e w1 ⟨rfl, hb1⟩; obtain ⟨hc1, hf1, hs1⟩ := bcell hb1; have hz1 := hb1.size; (try simp at hz1); have B1' : Blk w1 (w.heap.size + 1) #[.int .i64 sh] 3 := Blk.below (by repeat first | exact blk_at (by first | rfl | omega | (simp; done) | (simp; omega)) | assumption | refine Blk.alloc ?_ _ | refine Blk.drew ?_ | refine Blk.drewN ?_ _ | (refine Blk.other ?_ _ (by first | omega | (simp; done) | (simp; omega))) | (refine Blk.below ?_ (by assumption))) hb1; have c1' := B1'.cell 0 rfl; have y1' := B1'.lt; have Z1' : Below w.heap.size w w1 := Below.trans (b := _) (by repeat first | exact Below.refl _ _ | assumption | (refine Below.alloc ?_ (by first | omega | (simp; done) | (simp; omega)) _) | (refine Below.setCell ?_ (by first | omega | (simp; done) | (simp; omega)) _) | (refine Below.drew ?_) | (refine belowDrewN ?_) | (refine Below.trans ?_ (Below.mono (by assumption) (by first | omega | (simp; done) | (simp; omega))))) (Below.mono hb1 (by first | omega | (simp; done) | (simp; omega))); obtain ⟨LB, hLB⟩ : ∃ LB, w1.heap.size = LB := ⟨_, rfl⟩) | (go_at_call 36; refine (isMinute_any _ _).mono ?_; rintro e w1 ⟨rfl, hb1⟩; obtain ⟨hc1, hf1, hs1⟩ := bcell hb1; have hz1 := hb1.size; (try simp at hz1); have B1' : Blk w1 (w.heap.size + 1) #[.int .i64 sh] 3 := Blk.below (by repeat first | exact blk_at (by first | rfl | omega | (simp; done) | (simp; omega)) | assumption | refine Blk.alloc ?_ _ | refine Blk.drew ?_ | refine Blk.drewN ?_ _ | (refine Blk.other ?_ _ (by first | omega | (simp; done) | (simp; omega))) | (refine Blk.below ?_ (by assumption))) hb1; have c1' := B1'.cell 0 rfl; have y1' := B1'.lt; have Z1' : Below w.heap.size w w1 := Below.trans (b := _) (by repeat first | exact Below.refl _ _ | assumption | (refine Below.alloc ?_ (by first | omega | (simp; done) | (simp; omega)) _) | (refine Below.setCell ?_ (by first | omega | (simp; done) | (simp; omega)) _) | (refine Below.drew ?_) | (refine belowDrewN ?_) | (refine Below.trans ?_ (Below.mono (by assumption) (by first | omega | (simp; done) | (simp; omega))))) (Below.mono hb1 (by first | omega | (simp; done) | (simp; omega))); have L1' : Blk w1 LB #[.int .i64 r, .int .i64 e, .int .i64 c] 81 := Blk.below (by repeat first | exact blk_at (by first | rfl | omega | (simp; done) | (simp; omega)) | assumption | refine Blk.alloc ?_ _ | refine Blk.drew ?_ | refine Blk.drewN ?_ _ | (refine Blk.other ?_ _ (by first | omega | (simp; done) | (simp; omega))) | (refine Blk.below ?_ (by assumption))) hb1; have c2' := L1'.cell 0 rfl; have c3' := L1'.cell 1 rfl; have c4' := L1'.cell 2 rfl; have y2' := L1'.lt) | (go_at_call 37; refine (isShown_any _ _).mono ?_; rintro e w1 ⟨rfl, hb1⟩; obtain ⟨hc1, hf1, hs1⟩ := bcell hb1; have hz1 := hb1.size; (try simp at hz1); have B1' : Blk w1 (w.heap.size + 1) #[.int .i64 sh] 3 := Blk.below (by repeat first | exact blk_at (by first | rfl | omega | (simp; done) | (simp; omega)) | assumption | refine Blk.alloc ?_ _ | refine Blk.drew ?_ | refine Blk.drewN ?_ _ | (refine Blk.other ?_ _ (by first | omega | (simp; done) | (simp; omega))) | (refine Blk.below ?_ (by assumption))) hb1; have c1' := B1'.cell 0 rfl; have y1' := B1'.lt; have Z1' : Below w.heap.size w w1 := Below.trans (b := _) (by repeat first | exact Below.refl _ _ | assumption | (refine Below.alloc ?_ (by first | omega | (simp; done) | (simp; omega)) _) | (refine Below.setCell ?_ (by first | omega | (simp; done) | (simp; omega)) _) | (refine Below.drew ?_) | (refine belowDrewN ?_) | (refine Below.trans ?_ (Below.mono (by assumption) (by first | omega | (simp; done) | (simp; omega))))) (Below.mono hb1 (by first | omega | (simp; done) | (simp; omega))); have L1' : Blk w1 LB #[.int .i64 r, .int .i64 e, .int .i64 c] 81 := Blk.below (by repeat first | exact blk_at (by first | rfl | omega | (simp; done) | (simp; omega)) | assumption | refine Blk.alloc ?_ _ | refine Blk.drew ?_ | refine Blk.drewN ?_ _ | (refine Blk.other ?_ _ (by first | omega | (simp; done) | (simp; omega))) | (refine Blk.below ?_ (by assumption))) hb1; have c2' := L1'.cell 0 rfl; have c3' := L1'.cell 1 rfl; have c4' := L1'.cell 2 rfl; have y2' := L1'.lt))
      (refine bodyPost_ret (v := .tuple #[.int .i64 0, .int .i64 2]) ?_ rfl (ret_any rfl (by repeat first | exact Below.refl _ _ | assumption | (refine Below.alloc ?_ (by first | omega | (simp; done) | (simp; omega)) _) | (refine Below.setCell ?_ (by first | omega | (simp; done) | (simp; omega)) _) | (refine Below.drew ?_) | (refine belowDrewN ?_) | (refine Below.trans ?_ (Below.mono (by assumption) (by first | omega | (simp; done) | (simp; omega)))))); (simp (maxDischargeDepth := 9) [results, Try.results13, go_sem, *]); (try simp only [beq_iff_eq, beq_eq_false_iff_ne, bne_iff_ne, bne_eq_false_iff_eq, ne_eq, Bool.not_eq_true, Bool.not_eq_true', Bool.not_eq_false', btw_iff, btw_not', Int.not_lt, Int.not_le] at *); done)
    case true =>
    cases hu : btw f (f + 5000) U
    case false =>
      have hv : Pu.runVal ⟨r, e, c⟩ sh f fs U = (0, 3) := by simp [Pu.runVal, h1, hm, hs, hu]
      rw [hv]
      have hm' := btw_iff.1 hm
      clear h1 hv hf hok
      go_enter Try.func13, Try.ntmps13
      go_wp2_with (first | (go_at_call 35; refine (HO.out _).mono ?_; rintro e w1 ⟨rfl, hb1⟩; obtain ⟨hc1, hf1, hs1⟩ := bcell hb1; have hz1 := hb1.size; (try simp at hz1); have B1' : Blk w1 (w.heap.size + 1) #[.int .i64 sh] 3 := Blk.below (by repeat first | exact blk_at (by first | rfl | omega | (simp; done) | (simp; omega)) | assumption | refine Blk.alloc ?_ _ | refine Blk.drew ?_ | refine Blk.drewN ?_ _ | (refine Blk.other ?_ _ (by first | omega | (simp; done) | (simp; omega))) | (refine Blk.below ?_ (by assumption))) hb1; have c1' := B1'.cell 0 rfl; have y1' := B1'.lt; have Z1' : Below w.heap.size w w1 := Below.trans (b := _) (by repeat first | exact Below.refl _ _ | assumption | (refine Below.alloc ?_ (by first | omega | (simp; done) | (simp; omega)) _) | (refine Below.setCell ?_ (by first | omega | (simp; done) | (simp; omega)) _) | (refine Below.drew ?_) | (refine belowDrewN ?_) | (refine Below.trans ?_ (Below.mono (by assumption) (by first | omega | (simp; done) | (simp; omega))))) (Below.mono hb1 (by first | omega | (simp; done) | (simp; omega))); obtain ⟨LB, hLB⟩ : ∃ LB, w1.heap.size = LB := ⟨_, rfl⟩) | (go_at_call 36; refine (isMinute_any _ _).mono ?_; rintro e w1 ⟨rfl, hb1⟩; obtain ⟨hc1, hf1, hs1⟩ := bcell hb1; have hz1 := hb1.size; (try simp at hz1); have B1' : Blk w1 (w.heap.size + 1) #[.int .i64 sh] 3 := Blk.below (by repeat first | exact blk_at (by first | rfl | omega | (simp; done) | (simp; omega)) | assumption | refine Blk.alloc ?_ _ | refine Blk.drew ?_ | refine Blk.drewN ?_ _ | (refine Blk.other ?_ _ (by first | omega | (simp; done) | (simp; omega))) | (refine Blk.below ?_ (by assumption))) hb1; have c1' := B1'.cell 0 rfl; have y1' := B1'.lt; have Z1' : Below w.heap.size w w1 := Below.trans (b := _) (by repeat first | exact Below.refl _ _ | assumption | (refine Below.alloc ?_ (by first | omega | (simp; done) | (simp; omega)) _) | (refine Below.setCell ?_ (by first | omega | (simp; done) | (simp; omega)) _) | (refine Below.drew ?_) | (refine belowDrewN ?_) | (refine Below.trans ?_ (Below.mono (by assumption) (by first | omega | (simp; done) | (simp; omega))))) (Below.mono hb1 (by first | omega | (simp; done) | (simp; omega))); have L1' : Blk w1 LB #[.int .i64 r, .int .i64 e, .int .i64 c] 81 := Blk.below (by repeat first | exact blk_at (by first | rfl | omega | (simp; done) | (simp; omega)) | assumption | refine Blk.alloc ?_ _ | refine Blk.drew ?_ | refine Blk.drewN ?_ _ | (refine Blk.other ?_ _ (by first | omega | (simp; done) | (simp; omega))) | (refine Blk.below ?_ (by assumption))) hb1; have c2' := L1'.cell 0 rfl; have c3' := L1'.cell 1 rfl; have c4' := L1'.cell 2 rfl; have y2' := L1'.lt) | (go_at_call 37; refine (isShown_any _ _).mono ?_; rintro e w1 ⟨rfl, hb1⟩; obtain ⟨hc1, hf1, hs1⟩ := bcell hb1; have hz1 := hb1.size; (try simp at hz1); have B1' : Blk w1 (w.heap.size + 1) #[.int .i64 sh] 3 := Blk.below (by repeat first | exact blk_at (by first | rfl | omega | (simp; done) | (simp; omega)) | assumption | refine Blk.alloc ?_ _ | refine Blk.drew ?_ | refine Blk.drewN ?_ _ | (refine Blk.other ?_ _ (by first | omega | (simp; done) | (simp; omega))) | (refine Blk.below ?_ (by assumption))) hb1; have c1' := B1'.cell 0 rfl; have y1' := B1'.lt; have Z1' : Below w.heap.size w w1 := Below.trans (b := _) (by repeat first | exact Below.refl _ _ | assumption | (refine Below.alloc ?_ (by first | omega | (simp; done) | (simp; omega)) _) | (refine Below.setCell ?_ (by first | omega | (simp; done) | (simp; omega)) _) | (refine Below.drew ?_) | (refine belowDrewN ?_) | (refine Below.trans ?_ (Below.mono (by assumption) (by first | omega | (simp; done) | (simp; omega))))) (Below.mono hb1 (by first | omega | (simp; done) | (simp; omega))); have L1' : Blk w1 LB #[.int .i64 r, .int .i64 e, .int .i64 c] 81 := Blk.below (by repeat first | exact blk_at (by first | rfl | omega | (simp; done) | (simp; omega)) | assumption | refine Blk.alloc ?_ _ | refine Blk.drew ?_ | refine Blk.drewN ?_ _ | (refine Blk.other ?_ _ (by first | omega | (simp; done) | (simp; omega))) | (refine Blk.below ?_ (by assumption))) hb1; have c2' := L1'.cell 0 rfl; have c3' := L1'.cell 1 rfl; have c4' := L1'.cell 2 rfl; have y2' := L1'.lt) | (go_at_call 38; refine (within_new (by first | omega | (simp; done) | (simp; omega))).mono ?_; rintro e w1 ⟨rfl, hb1⟩; obtain ⟨hc1, hf1, hs1⟩ := bcell hb1; have hz1 := hb1.size; (try simp at hz1); have B1' : Blk w1 (w.heap.size + 1) #[.int .i64 sh] 3 := Blk.below (by repeat first | exact blk_at (by first | rfl | omega | (simp; done) | (simp; omega)) | assumption | refine Blk.alloc ?_ _ | refine Blk.drew ?_ | refine Blk.drewN ?_ _ | (refine Blk.other ?_ _ (by first | omega | (simp; done) | (simp; omega))) | (refine Blk.below ?_ (by assumption))) hb1; have c1' := B1'.cell 0 rfl; have y1' := B1'.lt; have Z1' : Below w.heap.size w w1 := Below.trans (b := _) (by repeat first | exact Below.refl _ _ | assumption | (refine Below.alloc ?_ (by first | omega | (simp; done) | (simp; omega)) _) | (refine Below.setCell ?_ (by first | omega | (simp; done) | (simp; omega)) _) | (refine Below.drew ?_) | (refine belowDrewN ?_) | (refine Below.trans ?_ (Below.mono (by assumption) (by first | omega | (simp; done) | (simp; omega))))) (Below.mono hb1 (by first | omega | (simp; done) | (simp; omega))); have L1' : Blk w1 LB #[.int .i64 r, .int .i64 e, .int .i64 c] 81 := Blk.below (by repeat first | exact blk_at (by first | rfl | omega | (simp; done) | (simp; omega)) | assumption | refine Blk.alloc ?_ _ | refine Blk.drew ?_ | refine Blk.drewN ?_ _ | (refine Blk.other ?_ _ (by first | omega | (simp; done) | (simp; omega))) | (refine Blk.below ?_ (by assumption))) hb1; have c2' := L1'.cell 0 rfl; have c3' := L1'.cell 1 rfl; have c4' := L1'.cell 2 rfl; have y2' := L1'.lt))
      (refine bodyPost_ret (v := .tuple #[.int .i64 0, .int .i64 3]) ?_ rfl (ret_any rfl (by repeat first | exact Below.refl _ _ | assumption | (refine Below.alloc ?_ (by first | omega | (simp; done) | (simp; omega)) _) | (refine Below.setCell ?_ (by first | omega | (simp; done) | (simp; omega)) _) | (refine Below.drew ?_) | (refine belowDrewN ?_) | (refine Below.trans ?_ (Below.mono (by assumption) (by first | omega | (simp; done) | (simp; omega)))))); (simp (maxDischargeDepth := 9) [results, Try.results13, go_sem, *]); (try simp only [beq_iff_eq, beq_eq_false_iff_ne, bne_iff_ne, bne_eq_false_iff_eq, ne_eq, Bool.not_eq_true, Bool.not_eq_true', Bool.not_eq_false', btw_iff, btw_not', Int.not_lt, Int.not_le] at *); done)
    case true =>
    have hm' := btw_iff.1 hm
    have hs' := btw_iff.1 hs
    have hu' := btw_iff.1 hu
    have HK := Lib.hid (fun W (hW : Below w.heap.size w W) => lineCheck_any r e c f U a cp fs W hok (hf.below hW) (by omega) (by omega) (by omega))
    by_cases hk : Pu.faultsErr ⟨r, e, c⟩ f U fs = 0
    case neg =>
      have hv : Pu.runVal ⟨r, e, c⟩ sh f fs U = (0, Pu.faultsErr ⟨r, e, c⟩ f U fs) := by simp [Pu.runVal, h1, hm, hs, hu, hk]
      rw [hv]
      generalize Pu.faultsErr ⟨r, e, c⟩ f U fs = q at HK hk
      have hq : (q != 0) = true := by simp [hk]
      clear h1 hv hf hok
      go_enter Try.func13, Try.ntmps13
      go_wp2_with (first | (go_at_call 35; refine (HO.out _).mono ?_; rintro e w1 ⟨rfl, hb1⟩; obtain ⟨hc1, hf1, hs1⟩ := bcell hb1; have hz1 := hb1.size; (try simp at hz1); have B1' : Blk w1 (w.heap.size + 1) #[.int .i64 sh] 3 := Blk.below (by repeat first | exact blk_at (by first | rfl | omega | (simp; done) | (simp; omega)) | assumption | refine Blk.alloc ?_ _ | refine Blk.drew ?_ | refine Blk.drewN ?_ _ | (refine Blk.other ?_ _ (by first | omega | (simp; done) | (simp; omega))) | (refine Blk.below ?_ (by assumption))) hb1; have c1' := B1'.cell 0 rfl; have y1' := B1'.lt; have Z1' : Below w.heap.size w w1 := Below.trans (b := _) (by repeat first | exact Below.refl _ _ | assumption | (refine Below.alloc ?_ (by first | omega | (simp; done) | (simp; omega)) _) | (refine Below.setCell ?_ (by first | omega | (simp; done) | (simp; omega)) _) | (refine Below.drew ?_) | (refine belowDrewN ?_) | (refine Below.trans ?_ (Below.mono (by assumption) (by first | omega | (simp; done) | (simp; omega))))) (Below.mono hb1 (by first | omega | (simp; done) | (simp; omega))); obtain ⟨LB, hLB⟩ : ∃ LB, w1.heap.size = LB := ⟨_, rfl⟩) | (go_at_call 36; refine (isMinute_any _ _).mono ?_; rintro e w1 ⟨rfl, hb1⟩; obtain ⟨hc1, hf1, hs1⟩ := bcell hb1; have hz1 := hb1.size; (try simp at hz1); have B1' : Blk w1 (w.heap.size + 1) #[.int .i64 sh] 3 := Blk.below (by repeat first | exact blk_at (by first | rfl | omega | (simp; done) | (simp; omega)) | assumption | refine Blk.alloc ?_ _ | refine Blk.drew ?_ | refine Blk.drewN ?_ _ | (refine Blk.other ?_ _ (by first | omega | (simp; done) | (simp; omega))) | (refine Blk.below ?_ (by assumption))) hb1; have c1' := B1'.cell 0 rfl; have y1' := B1'.lt; have Z1' : Below w.heap.size w w1 := Below.trans (b := _) (by repeat first | exact Below.refl _ _ | assumption | (refine Below.alloc ?_ (by first | omega | (simp; done) | (simp; omega)) _) | (refine Below.setCell ?_ (by first | omega | (simp; done) | (simp; omega)) _) | (refine Below.drew ?_) | (refine belowDrewN ?_) | (refine Below.trans ?_ (Below.mono (by assumption) (by first | omega | (simp; done) | (simp; omega))))) (Below.mono hb1 (by first | omega | (simp; done) | (simp; omega))); have L1' : Blk w1 LB #[.int .i64 r, .int .i64 e, .int .i64 c] 81 := Blk.below (by repeat first | exact blk_at (by first | rfl | omega | (simp; done) | (simp; omega)) | assumption | refine Blk.alloc ?_ _ | refine Blk.drew ?_ | refine Blk.drewN ?_ _ | (refine Blk.other ?_ _ (by first | omega | (simp; done) | (simp; omega))) | (refine Blk.below ?_ (by assumption))) hb1; have c2' := L1'.cell 0 rfl; have c3' := L1'.cell 1 rfl; have c4' := L1'.cell 2 rfl; have y2' := L1'.lt) | (go_at_call 37; refine (isShown_any _ _).mono ?_; rintro e w1 ⟨rfl, hb1⟩; obtain ⟨hc1, hf1, hs1⟩ := bcell hb1; have hz1 := hb1.size; (try simp at hz1); have B1' : Blk w1 (w.heap.size + 1) #[.int .i64 sh] 3 := Blk.below (by repeat first | exact blk_at (by first | rfl | omega | (simp; done) | (simp; omega)) | assumption | refine Blk.alloc ?_ _ | refine Blk.drew ?_ | refine Blk.drewN ?_ _ | (refine Blk.other ?_ _ (by first | omega | (simp; done) | (simp; omega))) | (refine Blk.below ?_ (by assumption))) hb1; have c1' := B1'.cell 0 rfl; have y1' := B1'.lt; have Z1' : Below w.heap.size w w1 := Below.trans (b := _) (by repeat first | exact Below.refl _ _ | assumption | (refine Below.alloc ?_ (by first | omega | (simp; done) | (simp; omega)) _) | (refine Below.setCell ?_ (by first | omega | (simp; done) | (simp; omega)) _) | (refine Below.drew ?_) | (refine belowDrewN ?_) | (refine Below.trans ?_ (Below.mono (by assumption) (by first | omega | (simp; done) | (simp; omega))))) (Below.mono hb1 (by first | omega | (simp; done) | (simp; omega))); have L1' : Blk w1 LB #[.int .i64 r, .int .i64 e, .int .i64 c] 81 := Blk.below (by repeat first | exact blk_at (by first | rfl | omega | (simp; done) | (simp; omega)) | assumption | refine Blk.alloc ?_ _ | refine Blk.drew ?_ | refine Blk.drewN ?_ _ | (refine Blk.other ?_ _ (by first | omega | (simp; done) | (simp; omega))) | (refine Blk.below ?_ (by assumption))) hb1; have c2' := L1'.cell 0 rfl; have c3' := L1'.cell 1 rfl; have c4' := L1'.cell 2 rfl; have y2' := L1'.lt) | (go_at_call 38; refine (within_new (by first | omega | (simp; done) | (simp; omega))).mono ?_; rintro e w1 ⟨rfl, hb1⟩; obtain ⟨hc1, hf1, hs1⟩ := bcell hb1; have hz1 := hb1.size; (try simp at hz1); have B1' : Blk w1 (w.heap.size + 1) #[.int .i64 sh] 3 := Blk.below (by repeat first | exact blk_at (by first | rfl | omega | (simp; done) | (simp; omega)) | assumption | refine Blk.alloc ?_ _ | refine Blk.drew ?_ | refine Blk.drewN ?_ _ | (refine Blk.other ?_ _ (by first | omega | (simp; done) | (simp; omega))) | (refine Blk.below ?_ (by assumption))) hb1; have c1' := B1'.cell 0 rfl; have y1' := B1'.lt; have Z1' : Below w.heap.size w w1 := Below.trans (b := _) (by repeat first | exact Below.refl _ _ | assumption | (refine Below.alloc ?_ (by first | omega | (simp; done) | (simp; omega)) _) | (refine Below.setCell ?_ (by first | omega | (simp; done) | (simp; omega)) _) | (refine Below.drew ?_) | (refine belowDrewN ?_) | (refine Below.trans ?_ (Below.mono (by assumption) (by first | omega | (simp; done) | (simp; omega))))) (Below.mono hb1 (by first | omega | (simp; done) | (simp; omega))); have L1' : Blk w1 LB #[.int .i64 r, .int .i64 e, .int .i64 c] 81 := Blk.below (by repeat first | exact blk_at (by first | rfl | omega | (simp; done) | (simp; omega)) | assumption | refine Blk.alloc ?_ _ | refine Blk.drew ?_ | refine Blk.drewN ?_ _ | (refine Blk.other ?_ _ (by first | omega | (simp; done) | (simp; omega))) | (refine Blk.below ?_ (by assumption))) hb1; have c2' := L1'.cell 0 rfl; have c3' := L1'.cell 1 rfl; have c4' := L1'.cell 2 rfl; have y2' := L1'.lt) | (go_at_call 39; refine (HK.out _ (by first | assumption | exact (by repeat first | exact Below.refl _ _ | assumption | (refine Below.alloc ?_ (by first | omega | (simp; done) | (simp; omega)) _) | (refine Below.setCell ?_ (by first | omega | (simp; done) | (simp; omega)) _) | (refine Below.drew ?_) | (refine belowDrewN ?_) | (refine Below.trans ?_ (Below.mono (by assumption) (by first | omega | (simp; done) | (simp; omega))))))).mono ?_; rintro e w1 ⟨rfl, hb1⟩; obtain ⟨hc1, hf1, hs1⟩ := bcell hb1; have hz1 := hb1.size; (try simp at hz1); have B1' : Blk w1 (w.heap.size + 1) #[.int .i64 sh] 3 := Blk.below (by repeat first | exact blk_at (by first | rfl | omega | (simp; done) | (simp; omega)) | assumption | refine Blk.alloc ?_ _ | refine Blk.drew ?_ | refine Blk.drewN ?_ _ | (refine Blk.other ?_ _ (by first | omega | (simp; done) | (simp; omega))) | (refine Blk.below ?_ (by assumption))) hb1; have c1' := B1'.cell 0 rfl; have y1' := B1'.lt; have Z1' : Below w.heap.size w w1 := Below.trans (b := _) (by repeat first | exact Below.refl _ _ | assumption | (refine Below.alloc ?_ (by first | omega | (simp; done) | (simp; omega)) _) | (refine Below.setCell ?_ (by first | omega | (simp; done) | (simp; omega)) _) | (refine Below.drew ?_) | (refine belowDrewN ?_) | (refine Below.trans ?_ (Below.mono (by assumption) (by first | omega | (simp; done) | (simp; omega))))) (Below.mono hb1 (by first | omega | (simp; done) | (simp; omega))); have L1' : Blk w1 LB #[.int .i64 r, .int .i64 e, .int .i64 c] 81 := Blk.below (by repeat first | exact blk_at (by first | rfl | omega | (simp; done) | (simp; omega)) | assumption | refine Blk.alloc ?_ _ | refine Blk.drew ?_ | refine Blk.drewN ?_ _ | (refine Blk.other ?_ _ (by first | omega | (simp; done) | (simp; omega))) | (refine Blk.below ?_ (by assumption))) hb1; have c2' := L1'.cell 0 rfl; have c3' := L1'.cell 1 rfl; have c4' := L1'.cell 2 rfl; have y2' := L1'.lt))
      (refine bodyPost_ret (v := .tuple #[.int .i64 0, .int .i64 q]) ?_ rfl (ret_any rfl (by repeat first | exact Below.refl _ _ | assumption | (refine Below.alloc ?_ (by first | omega | (simp; done) | (simp; omega)) _) | (refine Below.setCell ?_ (by first | omega | (simp; done) | (simp; omega)) _) | (refine Below.drew ?_) | (refine belowDrewN ?_) | (refine Below.trans ?_ (Below.mono (by assumption) (by first | omega | (simp; done) | (simp; omega)))))); (simp (maxDischargeDepth := 9) [results, Try.results13, go_sem, *]); (try simp only [beq_iff_eq, beq_eq_false_iff_ne, bne_iff_ne, bne_eq_false_iff_eq, ne_eq, Bool.not_eq_true, Bool.not_eq_true', Bool.not_eq_false', btw_iff, btw_not', Int.not_lt, Int.not_le] at *); done)
    case pos =>
      have hv : Pu.runVal ⟨r, e, c⟩ sh f fs U = ((Pu.folN ⟨r, e, c⟩ f fs (Pu.start ⟨r, e, c⟩ sh f) (U - f).toNat).1.s, 0) := by simp [Pu.runVal, h1, hm, hs, hu, hk]
      rw [hv]
      rw [hk] at HK
      have HF := Lib.hid hf
      have hz := Pu.faults_zero hk
      clear h1 hv hf
      (refine (callsIn_wide (n := 0)).1 (callsIn_of_wp_marks Try.func13 rfl trivial (wpIn_wide.2 ?_)); simp only [Try.ntmps13, List.size_toArray, List.length_cons, List.length_nil, Nat.reduceAdd, Nat.reduceSub, Array.replicate_succ, Array.replicate_zero, List.push_toArray, List.append_toArray, List.nil_append, List.cons_append])
      go_wp2_with (first | (go_at_call 35; refine (HO.out _).mono ?_; rintro e w1 ⟨rfl, hb1⟩; obtain ⟨hc1, hf1, hs1⟩ := bcell hb1; have hz1 := hb1.size; (try simp at hz1); have B1' : Blk w1 (w.heap.size + 1) #[.int .i64 sh] 3 := Blk.below (by repeat first | exact blk_at (by first | rfl | omega | (simp; done) | (simp; omega)) | assumption | refine Blk.alloc ?_ _ | refine Blk.drew ?_ | refine Blk.drewN ?_ _ | (refine Blk.other ?_ _ (by first | omega | (simp; done) | (simp; omega))) | (refine Blk.below ?_ (by assumption))) hb1; have c1' := B1'.cell 0 rfl; have y1' := B1'.lt; have Z1' : Below w.heap.size w w1 := Below.trans (b := _) (by repeat first | exact Below.refl _ _ | assumption | (refine Below.alloc ?_ (by first | omega | (simp; done) | (simp; omega)) _) | (refine Below.setCell ?_ (by first | omega | (simp; done) | (simp; omega)) _) | (refine Below.drew ?_) | (refine belowDrewN ?_) | (refine Below.trans ?_ (Below.mono (by assumption) (by first | omega | (simp; done) | (simp; omega))))) (Below.mono hb1 (by first | omega | (simp; done) | (simp; omega))); obtain ⟨LB, hLB⟩ : ∃ LB, w1.heap.size = LB := ⟨_, rfl⟩) | (go_at_call 36; refine (isMinute_any _ _).mono ?_; rintro e w1 ⟨rfl, hb1⟩; obtain ⟨hc1, hf1, hs1⟩ := bcell hb1; have hz1 := hb1.size; (try simp at hz1); have B1' : Blk w1 (w.heap.size + 1) #[.int .i64 sh] 3 := Blk.below (by repeat first | exact blk_at (by first | rfl | omega | (simp; done) | (simp; omega)) | assumption | refine Blk.alloc ?_ _ | refine Blk.drew ?_ | refine Blk.drewN ?_ _ | (refine Blk.other ?_ _ (by first | omega | (simp; done) | (simp; omega))) | (refine Blk.below ?_ (by assumption))) hb1; have c1' := B1'.cell 0 rfl; have y1' := B1'.lt; have Z1' : Below w.heap.size w w1 := Below.trans (b := _) (by repeat first | exact Below.refl _ _ | assumption | (refine Below.alloc ?_ (by first | omega | (simp; done) | (simp; omega)) _) | (refine Below.setCell ?_ (by first | omega | (simp; done) | (simp; omega)) _) | (refine Below.drew ?_) | (refine belowDrewN ?_) | (refine Below.trans ?_ (Below.mono (by assumption) (by first | omega | (simp; done) | (simp; omega))))) (Below.mono hb1 (by first | omega | (simp; done) | (simp; omega))); have L1' : Blk w1 LB #[.int .i64 r, .int .i64 e, .int .i64 c] 81 := Blk.below (by repeat first | exact blk_at (by first | rfl | omega | (simp; done) | (simp; omega)) | assumption | refine Blk.alloc ?_ _ | refine Blk.drew ?_ | refine Blk.drewN ?_ _ | (refine Blk.other ?_ _ (by first | omega | (simp; done) | (simp; omega))) | (refine Blk.below ?_ (by assumption))) hb1; have c2' := L1'.cell 0 rfl; have c3' := L1'.cell 1 rfl; have c4' := L1'.cell 2 rfl; have y2' := L1'.lt) | (go_at_call 37; refine (isShown_any _ _).mono ?_; rintro e w1 ⟨rfl, hb1⟩; obtain ⟨hc1, hf1, hs1⟩ := bcell hb1; have hz1 := hb1.size; (try simp at hz1); have B1' : Blk w1 (w.heap.size + 1) #[.int .i64 sh] 3 := Blk.below (by repeat first | exact blk_at (by first | rfl | omega | (simp; done) | (simp; omega)) | assumption | refine Blk.alloc ?_ _ | refine Blk.drew ?_ | refine Blk.drewN ?_ _ | (refine Blk.other ?_ _ (by first | omega | (simp; done) | (simp; omega))) | (refine Blk.below ?_ (by assumption))) hb1; have c1' := B1'.cell 0 rfl; have y1' := B1'.lt; have Z1' : Below w.heap.size w w1 := Below.trans (b := _) (by repeat first | exact Below.refl _ _ | assumption | (refine Below.alloc ?_ (by first | omega | (simp; done) | (simp; omega)) _) | (refine Below.setCell ?_ (by first | omega | (simp; done) | (simp; omega)) _) | (refine Below.drew ?_) | (refine belowDrewN ?_) | (refine Below.trans ?_ (Below.mono (by assumption) (by first | omega | (simp; done) | (simp; omega))))) (Below.mono hb1 (by first | omega | (simp; done) | (simp; omega))); have L1' : Blk w1 LB #[.int .i64 r, .int .i64 e, .int .i64 c] 81 := Blk.below (by repeat first | exact blk_at (by first | rfl | omega | (simp; done) | (simp; omega)) | assumption | refine Blk.alloc ?_ _ | refine Blk.drew ?_ | refine Blk.drewN ?_ _ | (refine Blk.other ?_ _ (by first | omega | (simp; done) | (simp; omega))) | (refine Blk.below ?_ (by assumption))) hb1; have c2' := L1'.cell 0 rfl; have c3' := L1'.cell 1 rfl; have c4' := L1'.cell 2 rfl; have y2' := L1'.lt) | (go_at_call 38; refine (within_new (by first | omega | (simp; done) | (simp; omega))).mono ?_; rintro e w1 ⟨rfl, hb1⟩; obtain ⟨hc1, hf1, hs1⟩ := bcell hb1; have hz1 := hb1.size; (try simp at hz1); have B1' : Blk w1 (w.heap.size + 1) #[.int .i64 sh] 3 := Blk.below (by repeat first | exact blk_at (by first | rfl | omega | (simp; done) | (simp; omega)) | assumption | refine Blk.alloc ?_ _ | refine Blk.drew ?_ | refine Blk.drewN ?_ _ | (refine Blk.other ?_ _ (by first | omega | (simp; done) | (simp; omega))) | (refine Blk.below ?_ (by assumption))) hb1; have c1' := B1'.cell 0 rfl; have y1' := B1'.lt; have Z1' : Below w.heap.size w w1 := Below.trans (b := _) (by repeat first | exact Below.refl _ _ | assumption | (refine Below.alloc ?_ (by first | omega | (simp; done) | (simp; omega)) _) | (refine Below.setCell ?_ (by first | omega | (simp; done) | (simp; omega)) _) | (refine Below.drew ?_) | (refine belowDrewN ?_) | (refine Below.trans ?_ (Below.mono (by assumption) (by first | omega | (simp; done) | (simp; omega))))) (Below.mono hb1 (by first | omega | (simp; done) | (simp; omega))); have L1' : Blk w1 LB #[.int .i64 r, .int .i64 e, .int .i64 c] 81 := Blk.below (by repeat first | exact blk_at (by first | rfl | omega | (simp; done) | (simp; omega)) | assumption | refine Blk.alloc ?_ _ | refine Blk.drew ?_ | refine Blk.drewN ?_ _ | (refine Blk.other ?_ _ (by first | omega | (simp; done) | (simp; omega))) | (refine Blk.below ?_ (by assumption))) hb1; have c2' := L1'.cell 0 rfl; have c3' := L1'.cell 1 rfl; have c4' := L1'.cell 2 rfl; have y2' := L1'.lt) | (go_at_call 39; refine (HK.out _ (by first | assumption | exact (by repeat first | exact Below.refl _ _ | assumption | (refine Below.alloc ?_ (by first | omega | (simp; done) | (simp; omega)) _) | (refine Below.setCell ?_ (by first | omega | (simp; done) | (simp; omega)) _) | (refine Below.drew ?_) | (refine belowDrewN ?_) | (refine Below.trans ?_ (Below.mono (by assumption) (by first | omega | (simp; done) | (simp; omega))))))).mono ?_; rintro e w1 ⟨rfl, hb1⟩; obtain ⟨hc1, hf1, hs1⟩ := bcell hb1; have hz1 := hb1.size; (try simp at hz1); have B1' : Blk w1 (w.heap.size + 1) #[.int .i64 sh] 3 := Blk.below (by repeat first | exact blk_at (by first | rfl | omega | (simp; done) | (simp; omega)) | assumption | refine Blk.alloc ?_ _ | refine Blk.drew ?_ | refine Blk.drewN ?_ _ | (refine Blk.other ?_ _ (by first | omega | (simp; done) | (simp; omega))) | (refine Blk.below ?_ (by assumption))) hb1; have c1' := B1'.cell 0 rfl; have y1' := B1'.lt; have Z1' : Below w.heap.size w w1 := Below.trans (b := _) (by repeat first | exact Below.refl _ _ | assumption | (refine Below.alloc ?_ (by first | omega | (simp; done) | (simp; omega)) _) | (refine Below.setCell ?_ (by first | omega | (simp; done) | (simp; omega)) _) | (refine Below.drew ?_) | (refine belowDrewN ?_) | (refine Below.trans ?_ (Below.mono (by assumption) (by first | omega | (simp; done) | (simp; omega))))) (Below.mono hb1 (by first | omega | (simp; done) | (simp; omega))); have L1' : Blk w1 LB #[.int .i64 r, .int .i64 e, .int .i64 c] 81 := Blk.below (by repeat first | exact blk_at (by first | rfl | omega | (simp; done) | (simp; omega)) | assumption | refine Blk.alloc ?_ _ | refine Blk.drew ?_ | refine Blk.drewN ?_ _ | (refine Blk.other ?_ _ (by first | omega | (simp; done) | (simp; omega))) | (refine Blk.below ?_ (by assumption))) hb1; have c2' := L1'.cell 0 rfl; have c3' := L1'.cell 1 rfl; have c4' := L1'.cell 2 rfl; have y2' := L1'.lt))
      have x0 := L1'.later 0 rfl; have x1 := L1'.later 1 rfl; have x2 := L1'.later 2 rfl
      have x3 := B1'.later 0 rfl
      have hb6 := Z1'
      clear HO HK c1' c2' c3' c4'
      have HS := Lib.hid (fun W => start_any r e c sh f W hok hm'.1)
      have hso := Pu.start_ok (s := sh) (t := f) hok hs'.1 (by omega) hm'.1
      have hs0 : (Pu.start ⟨r, e, c⟩ sh f).s = sh := by unfold Pu.start; split <;> rfl
      generalize hDD : Pu.start ⟨r, e, c⟩ sh f = D at HS hso hs0
      obtain ⟨s0, k0⟩ := D
      dsimp only at hs0
      subst hs0
      dsimp only at HS
      (refine wp_region_tail 8 (by kernel_rfl) (by kernel_rfl) ?_; simp only [List.take_succ_cons, List.take_zero, List.drop_succ_cons, List.drop_zero]; (repeat (any_goals (first | go_big_quiet_step ((first | (go_at_call 41; exact later_call (HS.out _)))) | quiet_step ((first | (go_at_call 41; exact later_call (HS.out _)))) | (refine wpQuiet_step (fun K hK => ?_); go_simp; split <;> (refine hK _ ?_; clear hK K))))); (all_goals (refine wpQuiet_nil ?_; intro wq hw'; obtain ⟨⟨_, hbq⟩, hw''⟩ := hw'; subst hw'')))
      have BQ := B1'.below hbq
      have hwq : Below w.heap.size w wq := Below.trans hb6 (hbq.mono hb6.size)
      have hp5 := HF.out.below hwq
      have hR : fs ≠ [] → ∀ x, a = some x → x.block < w.heap.size := by
        intro hne x hx
        obtain ⟨b, o, q1, q2, _⟩ := HF.out.2 0 (by cases fs <;> simp_all)
        rw [q1] at hx; cases hx; exact q2
      have HFo := Lib.hid (follow_any (fun x => x < w.heap.size) r e c f U s0 k0 a cp fs wq hp5 hcp hR)
      clear x0 x1 x2 x3
      go_wp2_with (go_at_call 40; refine HFo.out.mono ?_; rintro en w5 ⟨rfl, hb5, hF5⟩)
      have hq5 := Nat.lt_of_lt_of_le y1' hbq.size
      have hz5 : wq.heap.size + 5 ≤ w5.heap.size := hF5.u.lt
      have hlow : Below w.heap.size w w5 := hwq.trans (hb5.mono hwq.size)
      have hI0 : RunI w r e c f s0 k0 fs 0 (fun x => wq.heap.size ≤ x ∧ x < wq.heap.size + 5) w5 :=
        ⟨hlow, fun b hb => by have := hb.1; omega, by omega, by simpa [Pu.folN] using BQ.below hb5⟩
      have hkd := Pu.chk_kinds hz.2
      have hIT := follow1_iter (fun x => x < w.heap.size) r e c f U s0 k0 fs w5 wq.heap.size hok hF5 (fun x hx => by omega) hkd (by omega) (by omega) (by omega) hso.1 hso.2.1 hso.2.2.1 (by have := hso.2.2.2; dsimp only at *; omega)
      clear hF5 B1' L1' HFo
      refine (wpIn_wide (n := 0)).1 (rangeFunc_wide (gf := 56) (lb := folCap wq.heap.size) (by rfl) ?_ hIT (fun b hb => by have := hb.2; omega) (fun b hb => by omega) (fun x => rfl) (RunI w r e c f s0 k0 fs) runI_abide hI0 ?_ ?_)
      · intro args w; rfl
      · intro l O k W hk hi hSO hOl hlW
        have hfk : folEnc ((Pu.fol ⟨r, e, c⟩ f U fs ⟨s0, k0⟩)[k]) = #[.int .i64 (f + k + 1), .agg #[.int .i64 ((Pu.folN ⟨r, e, c⟩ f fs ⟨s0, k0⟩ (k + 1)).1).s, .int .i64 ((Pu.folN ⟨r, e, c⟩ f fs ⟨s0, k0⟩ (k + 1)).1).k]] := by simp [folEnc, Pu.fol]
        rw [hfk, fold2]
        clear hfk hI0 hIT hlow hkd HF
        have hbig := hi.big
        have hlow := hi.low
        have hup := hi.up
        have hbx := hi.box
        have ha := runI_abide (w := w) (r := r) (e := e) (c := c) (f := f) (s0 := s0) (k0 := k0) (fs := fs)
        simp only [List.setIfInBounds_toArray, List.set_cons_succ, List.set_cons_zero]
        gi_wp2_with fail
        refine ⟨Keeps.alloc _ _ _, ha _ _ _ _ _ hi (Keeps.alloc _ _ _) (fun _ h => h) (fun _ h => .inl h), ?_⟩
        intro W2 hk2 hi2
        have hv : Blk W2 W.heap.size #[.int .i64 (Pu.folN ⟨r, e, c⟩ f fs ⟨s0, k0⟩ (k + 1)).1.s, .int .i64 (Pu.folN ⟨r, e, c⟩ f fs ⟨s0, k0⟩ (k + 1)).1.k] 89 := hk2.blk (Blk.new _ _ _) (by omega)
        have c0 := hv.cell 0 rfl
        have hb2 := hi2.box
        have c1 := hb2.cell 0 rfl
        have f1 := hb2.free
        gi_wp2_with fail
        refine ⟨⟨hi2.low.setCell (by simp) _, hi2.up, by simp; exact hi2.big, ?_⟩, Keeps.setCell _ _ _ ⟨fun h => by have := hi2.up _ h; simp at this, by simp⟩⟩
        simpa using hb2.set 0 (.int .i64 (Pu.folN ⟨r, e, c⟩ f fs ⟨s0, k0⟩ (k + 1)).1.s)
      · intro D O W hi hSO hOD hD hDW
        have hN : (Pu.fol ⟨r, e, c⟩ f U fs ⟨s0, k0⟩).length = (U - f).toNat := by simp [Pu.fol]
        rw [hN] at hi
        have c0 := hi.box.cell 0 rfl
        simp only [Exit.inBlock, Exit.then]
        go_wp2_with fail
        have hlo : Below w.heap.size w (W.putObj D (.deferred none)) := hi.low.trans ((Keeps.putObj (O := fun b => b = D) W D _ rfl).to_below (by have := hi.big; omega) (fun b hb => by omega))
        refine leave_mark (v := .tuple #[.int .i64 (Pu.folN ⟨r, e, c⟩ f fs ⟨s0, k0⟩ (U - f).toNat).1.s, .int .i64 0]) rfl hDW ?_ ⟨by rw [hDD], hlo⟩
        simp [results, Try.results13, go_sem]
end Go.Proofs.Ytpjlihkpnhamlaa
end

/- pulse.Back: what it computes, as plain functions; what holds between two rounds of its loop. -/
section
set_option linter.unusedSimpArgs false
set_option linter.unusedVariables false
namespace Go.Proofs.Ytpjlihkpnhamlaa
open Go.RowKit Go.Shelf

namespace Pu
/-- the minute of the last fault -/
def lastF : Int → List (Int × Int) → Int
  | f, [] => f
  | _, x :: tl => lastF x.1 tl
theorem lastF_get {f : Int} : ∀ {fs : List (Int × Int)} (h : 0 < fs.length), lastF f fs = (fs[fs.length - 1]'(by omega)).1
  | [x], _ => rfl
  | x :: y :: tl, _ => by
    have := lastF_get (f := x.1) (fs := y :: tl) (by simp)
    rw [lastF, this]
    simp
theorem lastF_btw {l : Ln} {U : Int} : ∀ {fs : List (Int × Int)} {f : Int}, chkFs l U f fs = true → f ≤ U → f ≤ lastF f fs ∧ lastF f fs ≤ U
  | [], f, _, h => by simp [lastF, h]
  | x :: tl, f, h, hU => by
    rw [chkFs] at h
    simp only [Bool.and_eq_true, Bool.or_eq_true, decide_eq_true_eq] at h
    have := lastF_btw h.2 (by omega)
    rw [lastF]
    omega
/-- from when on a dial is right, behind k impulses -/
def backAt (l : Ln) (f : Int) (fs : List (Int × Int)) (d : Dl) (last : Int) : Nat → Int
  | 0 => last
  | k + 1 => if last ≤ f + k + 1 ∧ (folN l f fs d (k + 1)).1.s ≠ (f + k + 1) % 720 then f + k + 1 + 1 else backAt l f fs d last k
def backVal (l : Ln) (f : Int) (fs : List (Int × Int)) : Int × Int :=
  if lineErr l.r l.e l.c ≠ 0 then (0, lineErr l.r l.e l.c) else if btw 0 100000 f = false then (0, 3)
  else if faultsErr l f (f + 5000) fs ≠ 0 then (0, faultsErr l f (f + 5000) fs)
  else if lastF f fs + 3 * l.e < backAt l f fs (start l (f % 720) f) (lastF f fs) (lastF f fs + 3 * l.e - f).toNat then (0, 7)
  else (backAt l f fs (start l (f % 720) f) (lastF f fs) (lastF f fs + 3 * l.e - f).toNat, 0)
theorem ok_e {l : Ln} (h : l.ok) : 0 ≤ l.e ∧ l.e ≤ 360 := by unfold Ln.ok at h; omega
theorem backAt_btw {l : Ln} {f : Int} {fs : List (Int × Int)} {d : Dl} {last : Int} (h : f ≤ last) : ∀ k : Nat, last ≤ backAt l f fs d last k ∧ (backAt l f fs d last k ≤ last ∨ backAt l f fs d last k ≤ f + k + 1)
  | 0 => by simp [backAt]
  | k + 1 => by
    have := backAt_btw (l := l) (fs := fs) (d := d) h k
    rw [backAt]
    split <;> omega
end Pu

/-- what holds between two rounds of the loop -/
structure BackI (w : World) (M AB TB : Nat) (last : Int) (at' : Nat → Int) (k : Nat) (O : Nat → Prop) (W : World) : Prop where
  low : Below w.heap.size w W
  up : ∀ b, O b → M ≤ b
  big : M ≤ W.heap.size
  box : Blk W AB #[.int .i64 (at' k)] 3
  lst : Blk W TB #[.int .i64 last] 3
theorem backI_abide {w : World} {M AB TB : Nat} {last : Int} {at' : Nat → Int} (h1 : w.heap.size ≤ M) (h2 : AB < M) (h3 : TB < M) : Abide (BackI w M AB TB last at') := by
  rintro k O O' W W' ⟨q1, q2, q3, q4, q5⟩ hk hO hO'
  have hlo : ∀ b, O' b → M ≤ b := fun b hb => by
    rcases hO' b hb with h | h
    · exact q2 b h
    · omega
  exact ⟨q1.trans (hk.to_below (by omega) (fun b hb => by have := hlo b hb; omega)), hlo, Nat.le_trans q3 hk.size, hk.blk q4 (fun hb => by have := hlo _ hb; omega), hk.blk q5 (fun hb => by have := hlo _ hb; omega)⟩

theorem BackI.same {w : World} {M AB TB : Nat} {last : Int} {at' : Nat → Int} {k : Nat} {O R : Nat → Prop} {W W' : World} (h : BackI w M AB TB last at' k O W) (hb : Below W.heap.size W W') (ha : at' (k + 1) = at' k) (hM : w.heap.size ≤ M) :
    BackI w M AB TB last at' (k + 1) O W' ∧ Keeps R W W' :=
  ⟨⟨h.low.trans (hb.mono h.low.size), h.up, Nat.le_trans h.big hb.size, by rw [ha]; exact h.box.below hb, h.lst.below hb⟩, Keeps.below hb⟩
theorem BackI.set {w : World} {M AB TB : Nat} {last : Int} {at' : Nat → Int} {k : Nat} {O R : Nat → Prop} {W W' : World} {v : Int} (h : BackI w M AB TB last at' k O W) (hb : Below W.heap.size W W') (ha : at' (k + 1) = v) (hA : w.heap.size ≤ AB) (hT : TB ≠ AB) (hR : R AB) :
    BackI w M AB TB last at' (k + 1) O (W'.setCell ⟨AB, 0, none⟩ (.int .i64 v)) ∧ Keeps R W (W'.setCell ⟨AB, 0, none⟩ (.int .i64 v)) :=
  ⟨⟨(h.low.trans (hb.mono h.low.size)).setCell hA _, h.up, by simp; exact Nat.le_trans h.big hb.size, by rw [ha]; exact (h.box.below hb).set 0 _, (h.lst.below hb).other _ hT⟩, (Keeps.below hb).trans (Keeps.setCell _ _ _ hR)⟩
end Go.Proofs.Ytpjlihkpnhamlaa
end

/- The walk of pulse.Back, where the line, the minute and the faults are in order. -/
section
set_option linter.unusedSimpArgs false
set_option linter.unusedVariables false
namespace Go.Proofs.Ytpjlihkpnhamlaa
open Go.RowKit Go.Shelf
attribute [local go_sem] Oper.semAt_some

set_option maxHeartbeats 2000000 in
theorem pulseBack_ok (r e c f : Int) (a : Option Addr) (cp : Nat) (fs : List (Int × Int)) (w : World) (hr : (Lit.int .i64 r).wf = true) (he : (Lit.int .i64 e).wf = true) (hc : (Lit.int .i64 c).wf = true) (hf : IsPairs w a fs) (hcp : fs.length ≤ cp)
   (h1 : Pu.lineErr r e c = 0) (hm : btw 0 100000 f = true) (hk : Pu.faultsErr ⟨r, e, c⟩ f (f + 5000) fs = 0) :
    Calls Try.prog 21 #[.agg #[.int .i64 r, .int .i64 e, .int .i64 c], .int .i64 f, .slice a fs.length cp] w
      (Ret w (.tuple #[.int .i64 (Pu.backVal ⟨r, e, c⟩ f fs).1, .int .i64 (Pu.backVal ⟨r, e, c⟩ f fs).2])) := by
  have HO := Lib.hid (fun W => open_any r e c W hr he hc)
  have hok := Pu.ok_of_err h1
  rw [h1] at HO
  have hm' := btw_iff.1 hm
  have HK := Lib.hid (fun W (hW : Below w.heap.size w W) => lineCheck_any r e c f (f + 5000) a cp fs W hok (hf.below hW) (by omega) (by omega) (by omega))
  rw [hk] at HK
  have HF := Lib.hid hf
  have hz := Pu.faults_zero hk
  have hl := Pu.lastF_btw hz.2 (by omega)
  have hE := Pu.ok_e hok
  dsimp only at hE
  obtain ⟨last, hlast⟩ : ∃ last, Pu.lastF f fs = last := ⟨_, rfl⟩
  obtain ⟨d0, hd0⟩ : ∃ d0, Pu.start ⟨r, e, c⟩ (f % 720) f = d0 := ⟨_, rfl⟩
  have hv : Pu.backVal ⟨r, e, c⟩ f fs = if last + 3 * e < Pu.backAt ⟨r, e, c⟩ f fs d0 last (last + 3 * e - f).toNat then (0, 7) else (Pu.backAt ⟨r, e, c⟩ f fs d0 last (last + 3 * e - f).toNat, 0) := by
    simp [Pu.backVal, h1, hm, hk, hlast, hd0]
  rw [hlast] at hl
  clear h1 hf
  have HV := Lib.hid hv
  clear hv
  have key : (0 < fs.length ∧ ∃ b o, a = some ⟨b, o, none⟩ ∧ b < w.heap.size ∧ w.cell? ⟨b, o + (fs.length - 1) * 2, none⟩ = some (.int .i64 last) ∧ ((fs.length : Int) - 1).toNat = fs.length - 1) ∨ (fs.length = 0 ∧ last = f) := by
    by_cases hn : 0 < fs.length
    · obtain ⟨b, o, q1, q2, q3, _⟩ := HF.out.2 (fs.length - 1) (by omega)
      rw [← Pu.lastF_get (f := f) hn, hlast] at q3
      exact .inl ⟨hn, b, o, q1, q2, q3, by omega⟩
    · have : fs = [] := by cases fs <;> simp_all
      refine .inr ⟨by omega, ?_⟩
      rw [← hlast, this]; rfl
  have hR : fs ≠ [] → ∀ x, a = some x → x.block < w.heap.size := by
    intro hne x hx
    obtain ⟨b, o, q1, q2, _⟩ := HF.out.2 0 (by cases fs <;> simp_all)
    rw [q1] at hx; cases hx; exact q2
  have hlen20 := hz.1
  have HD0 := Lib.hid hd0; have HLA := Lib.hid hlast; clear hd0 hlast
  rcases key with ⟨hn, b, o, rfl, q2, q3, hli⟩ | ⟨hn, hlf⟩
  case' inl =>
    (refine (callsIn_wide (n := 0)).1 (callsIn_of_wp_marks Try.func21 rfl trivial (wpIn_wide.2 ?_)); simp only [Try.ntmps21, List.size_toArray, List.length_cons, List.length_nil, Nat.reduceAdd, Nat.reduceSub, Array.replicate_succ, Array.replicate_zero, List.push_toArray, List.append_toArray, List.nil_append, List.cons_append])
    go_wp2_with (first | (go_at_call 35; refine (HO.out _).mono ?_; rintro e w1 ⟨rfl, hb1⟩; obtain ⟨hc1, hf1, hs1⟩ := bcell hb1; have hz1 := hb1.size; (try simp at hz1); have B1' : Blk w1 (w.heap.size + 1) #[.int .i64 0] 3 := Blk.below (by repeat first | exact blk_at (by first | rfl | omega | (simp; done) | (simp; omega)) | assumption | refine Blk.alloc ?_ _ | refine Blk.drew ?_ | refine Blk.drewN ?_ _ | (refine Blk.other ?_ _ (by first | omega | (simp; done) | (simp; omega))) | (refine Blk.below ?_ (by assumption))) hb1; have c1' := B1'.cell 0 rfl; have y1' := B1'.lt; have g1' := B1'.free; have Z1' : Below w.heap.size w w1 := Below.trans (b := _) (by repeat first | exact Below.refl _ _ | assumption | (refine Below.alloc ?_ (by first | omega | (simp; done) | (simp; omega)) _) | (refine Below.setCell ?_ (by first | omega | (simp; done) | (simp; omega)) _) | (refine Below.drew ?_) | (refine belowDrewN ?_) | (refine Below.trans ?_ (Below.mono (by assumption) (by first | omega | (simp; done) | (simp; omega))))) (Below.mono hb1 (by first | omega | (simp; done) | (simp; omega))); obtain ⟨LB, hLB⟩ : ∃ LB, w1.heap.size = LB := ⟨_, rfl⟩; have y3' : w.heap.size + 1 < LB := (by rw [← hLB]; exact y1')) | (go_at_call 36; refine (isMinute_any _ _).mono ?_; rintro e w1 ⟨rfl, hb1⟩; obtain ⟨hc1, hf1, hs1⟩ := bcell hb1; have hz1 := hb1.size; (try simp at hz1); have B1' : Blk w1 (w.heap.size + 1) #[.int .i64 0] 3 := Blk.below (by repeat first | exact blk_at (by first | rfl | omega | (simp; done) | (simp; omega)) | assumption | refine Blk.alloc ?_ _ | refine Blk.drew ?_ | refine Blk.drewN ?_ _ | (refine Blk.other ?_ _ (by first | omega | (simp; done) | (simp; omega))) | (refine Blk.below ?_ (by assumption))) hb1; have c1' := B1'.cell 0 rfl; have y1' := B1'.lt; have g1' := B1'.free; have Z1' : Below w.heap.size w w1 := Below.trans (b := _) (by repeat first | exact Below.refl _ _ | assumption | (refine Below.alloc ?_ (by first | omega | (simp; done) | (simp; omega)) _) | (refine Below.setCell ?_ (by first | omega | (simp; done) | (simp; omega)) _) | (refine Below.drew ?_) | (refine belowDrewN ?_) | (refine Below.trans ?_ (Below.mono (by assumption) (by first | omega | (simp; done) | (simp; omega))))) (Below.mono hb1 (by first | omega | (simp; done) | (simp; omega))); have L1' : Blk w1 LB #[.int .i64 r, .int .i64 e, .int .i64 c] 81 := Blk.below (by repeat first | exact blk_at (by first | rfl | omega | (simp; done) | (simp; omega)) | assumption | refine Blk.alloc ?_ _ | refine Blk.drew ?_ | refine Blk.drewN ?_ _ | (refine Blk.other ?_ _ (by first | omega | (simp; done) | (simp; omega))) | (refine Blk.below ?_ (by assumption))) hb1; have c2' := L1'.cell 0 rfl; have c3' := L1'.cell 1 rfl; have c4' := L1'.cell 2 rfl; have y2' := L1'.lt) | ((go_at_call 39; refine (HK.out _ (by first | assumption | exact (by repeat first | exact Below.refl _ _ | assumption | (refine Below.alloc ?_ (by first | omega | (simp; done) | (simp; omega)) _) | (refine Below.setCell ?_ (by first | omega | (simp; done) | (simp; omega)) _) | (refine Below.drew ?_) | (refine belowDrewN ?_) | (refine Below.trans ?_ (Below.mono (by assumption) (by first | omega | (simp; done) | (simp; omega))))))).mono ?_; rintro e w1 ⟨rfl, hb1⟩; obtain ⟨hc1, hf1, hs1⟩ := bcell hb1; have hz1 := hb1.size; (try simp at hz1); have B1' : Blk w1 (w.heap.size + 1) #[.int .i64 0] 3 := Blk.below (by repeat first | exact blk_at (by first | rfl | omega | (simp; done) | (simp; omega)) | assumption | refine Blk.alloc ?_ _ | refine Blk.drew ?_ | refine Blk.drewN ?_ _ | (refine Blk.other ?_ _ (by first | omega | (simp; done) | (simp; omega))) | (refine Blk.below ?_ (by assumption))) hb1; have c1' := B1'.cell 0 rfl; have y1' := B1'.lt; have g1' := B1'.free; have Z1' : Below w.heap.size w w1 := Below.trans (b := _) (by repeat first | exact Below.refl _ _ | assumption | (refine Below.alloc ?_ (by first | omega | (simp; done) | (simp; omega)) _) | (refine Below.setCell ?_ (by first | omega | (simp; done) | (simp; omega)) _) | (refine Below.drew ?_) | (refine belowDrewN ?_) | (refine Below.trans ?_ (Below.mono (by assumption) (by first | omega | (simp; done) | (simp; omega))))) (Below.mono hb1 (by first | omega | (simp; done) | (simp; omega))); have L1' : Blk w1 LB #[.int .i64 r, .int .i64 e, .int .i64 c] 81 := Blk.below (by repeat first | exact blk_at (by first | rfl | omega | (simp; done) | (simp; omega)) | assumption | refine Blk.alloc ?_ _ | refine Blk.drew ?_ | refine Blk.drewN ?_ _ | (refine Blk.other ?_ _ (by first | omega | (simp; done) | (simp; omega))) | (refine Blk.below ?_ (by assumption))) hb1; have c2' := L1'.cell 0 rfl; have c3' := L1'.cell 1 rfl; have c4' := L1'.cell 2 rfl; have y2' := L1'.lt); have q3' := (Z1'.cell (p := ⟨b, _, none⟩) q2).trans q3; have q2' := Nat.lt_of_lt_of_le q2 Z1'.size))
    refine wp_name ?_
    intro W hW
    have BA : Blk W (w.heap.size + 1) #[.int .i64 0] 3 := by rw [hW]; exact (by repeat first | exact blk_at (by first | rfl | omega | (simp; done) | (simp; omega)) | assumption | refine Blk.alloc ?_ _ | refine Blk.drew ?_ | refine Blk.drewN ?_ _ | (refine Blk.other ?_ _ (by first | omega | (simp; done) | (simp; omega))) | (refine Blk.below ?_ (by assumption)))
    have BT : Blk W w1.heap.size #[.int .i64 last] 3 := by rw [hW]; exact Blk.new _ _ _
    have BL : Blk W LB #[.int .i64 r, .int .i64 e, .int .i64 c] 81 := by rw [hW]; exact (by repeat first | exact blk_at (by first | rfl | omega | (simp; done) | (simp; omega)) | assumption | refine Blk.alloc ?_ _ | refine Blk.drew ?_ | refine Blk.drewN ?_ _ | (refine Blk.other ?_ _ (by first | omega | (simp; done) | (simp; omega))) | (refine Blk.below ?_ (by assumption)))
    have ZW : Below w.heap.size w W := by rw [hW]; exact (by repeat first | exact Below.refl _ _ | assumption | (refine Below.alloc ?_ (by first | omega | (simp; done) | (simp; omega)) _) | (refine Below.setCell ?_ (by first | omega | (simp; done) | (simp; omega)) _) | (refine Below.drew ?_) | (refine belowDrewN ?_) | (refine Below.trans ?_ (Below.mono (by assumption) (by first | omega | (simp; done) | (simp; omega)))))
    clear hW q3' q2'
  case' inr =>
    have HLF := Lib.hid hlf; clear hlf
    have hn' : ¬ 0 < fs.length := by omega
    clear hn
    (refine (callsIn_wide (n := 0)).1 (callsIn_of_wp_marks Try.func21 rfl trivial (wpIn_wide.2 ?_)); simp only [Try.ntmps21, List.size_toArray, List.length_cons, List.length_nil, Nat.reduceAdd, Nat.reduceSub, Array.replicate_succ, Array.replicate_zero, List.push_toArray, List.append_toArray, List.nil_append, List.cons_append])
    go_wp2_with (first | (go_at_call 35; refine (HO.out _).mono ?_; rintro e w1 ⟨rfl, hb1⟩; obtain ⟨hc1, hf1, hs1⟩ := bcell hb1; have hz1 := hb1.size; (try simp at hz1); have B1' : Blk w1 (w.heap.size + 1) #[.int .i64 0] 3 := Blk.below (by repeat first | exact blk_at (by first | rfl | omega | (simp; done) | (simp; omega)) | assumption | refine Blk.alloc ?_ _ | refine Blk.drew ?_ | refine Blk.drewN ?_ _ | (refine Blk.other ?_ _ (by first | omega | (simp; done) | (simp; omega))) | (refine Blk.below ?_ (by assumption))) hb1; have c1' := B1'.cell 0 rfl; have y1' := B1'.lt; have g1' := B1'.free; have Z1' : Below w.heap.size w w1 := Below.trans (b := _) (by repeat first | exact Below.refl _ _ | assumption | (refine Below.alloc ?_ (by first | omega | (simp; done) | (simp; omega)) _) | (refine Below.setCell ?_ (by first | omega | (simp; done) | (simp; omega)) _) | (refine Below.drew ?_) | (refine belowDrewN ?_) | (refine Below.trans ?_ (Below.mono (by assumption) (by first | omega | (simp; done) | (simp; omega))))) (Below.mono hb1 (by first | omega | (simp; done) | (simp; omega))); obtain ⟨LB, hLB⟩ : ∃ LB, w1.heap.size = LB := ⟨_, rfl⟩; have y3' : w.heap.size + 1 < LB := (by rw [← hLB]; exact y1')) | (go_at_call 36; refine (isMinute_any _ _).mono ?_; rintro e w1 ⟨rfl, hb1⟩; obtain ⟨hc1, hf1, hs1⟩ := bcell hb1; have hz1 := hb1.size; (try simp at hz1); have B1' : Blk w1 (w.heap.size + 1) #[.int .i64 0] 3 := Blk.below (by repeat first | exact blk_at (by first | rfl | omega | (simp; done) | (simp; omega)) | assumption | refine Blk.alloc ?_ _ | refine Blk.drew ?_ | refine Blk.drewN ?_ _ | (refine Blk.other ?_ _ (by first | omega | (simp; done) | (simp; omega))) | (refine Blk.below ?_ (by assumption))) hb1; have c1' := B1'.cell 0 rfl; have y1' := B1'.lt; have g1' := B1'.free; have Z1' : Below w.heap.size w w1 := Below.trans (b := _) (by repeat first | exact Below.refl _ _ | assumption | (refine Below.alloc ?_ (by first | omega | (simp; done) | (simp; omega)) _) | (refine Below.setCell ?_ (by first | omega | (simp; done) | (simp; omega)) _) | (refine Below.drew ?_) | (refine belowDrewN ?_) | (refine Below.trans ?_ (Below.mono (by assumption) (by first | omega | (simp; done) | (simp; omega))))) (Below.mono hb1 (by first | omega | (simp; done) | (simp; omega))); have L1' : Blk w1 LB #[.int .i64 r, .int .i64 e, .int .i64 c] 81 := Blk.below (by repeat first | exact blk_at (by first | rfl | omega | (simp; done) | (simp; omega)) | assumption | refine Blk.alloc ?_ _ | refine Blk.drew ?_ | refine Blk.drewN ?_ _ | (refine Blk.other ?_ _ (by first | omega | (simp; done) | (simp; omega))) | (refine Blk.below ?_ (by assumption))) hb1; have c2' := L1'.cell 0 rfl; have c3' := L1'.cell 1 rfl; have c4' := L1'.cell 2 rfl; have y2' := L1'.lt) | (go_at_call 39; refine (HK.out _ (by first | assumption | exact (by repeat first | exact Below.refl _ _ | assumption | (refine Below.alloc ?_ (by first | omega | (simp; done) | (simp; omega)) _) | (refine Below.setCell ?_ (by first | omega | (simp; done) | (simp; omega)) _) | (refine Below.drew ?_) | (refine belowDrewN ?_) | (refine Below.trans ?_ (Below.mono (by assumption) (by first | omega | (simp; done) | (simp; omega))))))).mono ?_; rintro e w1 ⟨rfl, hb1⟩; obtain ⟨hc1, hf1, hs1⟩ := bcell hb1; have hz1 := hb1.size; (try simp at hz1); have B1' : Blk w1 (w.heap.size + 1) #[.int .i64 0] 3 := Blk.below (by repeat first | exact blk_at (by first | rfl | omega | (simp; done) | (simp; omega)) | assumption | refine Blk.alloc ?_ _ | refine Blk.drew ?_ | refine Blk.drewN ?_ _ | (refine Blk.other ?_ _ (by first | omega | (simp; done) | (simp; omega))) | (refine Blk.below ?_ (by assumption))) hb1; have c1' := B1'.cell 0 rfl; have y1' := B1'.lt; have g1' := B1'.free; have Z1' : Below w.heap.size w w1 := Below.trans (b := _) (by repeat first | exact Below.refl _ _ | assumption | (refine Below.alloc ?_ (by first | omega | (simp; done) | (simp; omega)) _) | (refine Below.setCell ?_ (by first | omega | (simp; done) | (simp; omega)) _) | (refine Below.drew ?_) | (refine belowDrewN ?_) | (refine Below.trans ?_ (Below.mono (by assumption) (by first | omega | (simp; done) | (simp; omega))))) (Below.mono hb1 (by first | omega | (simp; done) | (simp; omega))); have L1' : Blk w1 LB #[.int .i64 r, .int .i64 e, .int .i64 c] 81 := Blk.below (by repeat first | exact blk_at (by first | rfl | omega | (simp; done) | (simp; omega)) | assumption | refine Blk.alloc ?_ _ | refine Blk.drew ?_ | refine Blk.drewN ?_ _ | (refine Blk.other ?_ _ (by first | omega | (simp; done) | (simp; omega))) | (refine Blk.below ?_ (by assumption))) hb1; have c2' := L1'.cell 0 rfl; have c3' := L1'.cell 1 rfl; have c4' := L1'.cell 2 rfl; have y2' := L1'.lt))
    refine wp_name ?_
    intro W hW
    have BA : Blk W (w.heap.size + 1) #[.int .i64 0] 3 := by rw [hW]; exact (by repeat first | exact blk_at (by first | rfl | omega | (simp; done) | (simp; omega)) | assumption | refine Blk.alloc ?_ _ | refine Blk.drew ?_ | refine Blk.drewN ?_ _ | (refine Blk.other ?_ _ (by first | omega | (simp; done) | (simp; omega))) | (refine Blk.below ?_ (by assumption)))
    have BT : Blk W w1.heap.size #[.int .i64 last] 3 := by rw [hW, HLF.out]; exact Blk.new _ _ _
    have BL : Blk W LB #[.int .i64 r, .int .i64 e, .int .i64 c] 81 := by rw [hW]; exact (by repeat first | exact blk_at (by first | rfl | omega | (simp; done) | (simp; omega)) | assumption | refine Blk.alloc ?_ _ | refine Blk.drew ?_ | refine Blk.drewN ?_ _ | (refine Blk.other ?_ _ (by first | omega | (simp; done) | (simp; omega))) | (refine Blk.below ?_ (by assumption)))
    have ZW : Below w.heap.size w W := by rw [hW]; exact (by repeat first | exact Below.refl _ _ | assumption | (refine Below.alloc ?_ (by first | omega | (simp; done) | (simp; omega)) _) | (refine Below.setCell ?_ (by first | omega | (simp; done) | (simp; omega)) _) | (refine Below.drew ?_) | (refine belowDrewN ?_) | (refine Below.trans ?_ (Below.mono (by assumption) (by first | omega | (simp; done) | (simp; omega)))))
    clear hW
  all_goals (
    clear HO HK c1' c2' c3' c4'
    obtain ⟨TB, hTB⟩ : ∃ TB, w1.heap.size = TB := ⟨_, rfl⟩
    rw [hTB] at BT
    have x0 := BT.cell 0 rfl; have x1 := BL.cell 1 rfl; have x2 := BA.cell 0 rfl; have g2 := BA.free
    have lA := BA.lt; have lT := BT.lt; have lL := BL.lt
    have nT : TB ≠ w.heap.size + 1 := by omega
    have nL : LB ≠ w.heap.size + 1 := by omega
    go_region_held3 (fun w' => w'.cell? ⟨TB, 0, none⟩ = some (.int .i64 last) ∧ w'.cell? ⟨LB, 1, none⟩ = some (.int .i64 e)) (first | exact ⟨x0, x1⟩ | exact ⟨(Blk.drew (Blk.other BT _ nT)).cell 0 rfl, (Blk.drew (Blk.other BL _ nL)).cell 1 rfl⟩ | exact ⟨(Blk.other (Blk.drew BT) _ nT).cell 0 rfl, (Blk.other (Blk.drew BL) _ nL).cell 1 rfl⟩ | (go_keep; done)) (fail)
    have hwr : IntKind.i64.wrap (last + IntKind.i64.wrap (3 * e)) = last + 3 * e := by rw [IntKind.wrap_i64, IntKind.wrap_i64]; omega
    have hm720 : 0 ≤ f % 720 ∧ f % 720 < 720 := by omega
    go_wp2_with fail
    refine wp_name ?_
    intro W2 hW2
    have CA : Blk W2 (w.heap.size + 1) #[.int .i64 last] 3 := by rw [hW2]; first | exact (BA.set 0 _).drew | exact (Blk.drew BA).set 0 _
    have CT : Blk W2 TB #[.int .i64 last] 3 := by rw [hW2]; exact (by repeat first | exact blk_at (by first | rfl | omega | (simp; done) | (simp; omega)) | assumption | refine Blk.alloc ?_ _ | refine Blk.drew ?_ | refine Blk.drewN ?_ _ | (refine Blk.other ?_ _ (by first | omega | (simp; done) | (simp; omega))) | (refine Blk.below ?_ (by assumption)))
    have CL : Blk W2 LB #[.int .i64 r, .int .i64 e, .int .i64 c] 81 := by rw [hW2]; exact (by repeat first | exact blk_at (by first | rfl | omega | (simp; done) | (simp; omega)) | assumption | refine Blk.alloc ?_ _ | refine Blk.drew ?_ | refine Blk.drewN ?_ _ | (refine Blk.other ?_ _ (by first | omega | (simp; done) | (simp; omega))) | (refine Blk.below ?_ (by assumption)))
    have ZW2 : Below w.heap.size w W2 := by rw [hW2]; exact (by repeat first | exact Below.refl _ _ | assumption | (refine Below.alloc ?_ (by first | omega | (simp; done) | (simp; omega)) _) | (refine Below.setCell ?_ (by first | omega | (simp; done) | (simp; omega)) _) | (refine Below.drew ?_) | (refine belowDrewN ?_) | (refine Below.trans ?_ (Below.mono (by assumption) (by first | omega | (simp; done) | (simp; omega)))))
    clear hW2 x0 x1 x2 g2 BA BT BL ZW
    have x0 := CL.later 0 rfl; have x1 := CL.later 1 rfl; have x2 := CL.later 2 rfl
    have HS := Lib.hid (fun W => start_any r e c (f % 720) f W hok hm'.1)
    have hso := Pu.start_ok (s := f % 720) (t := f) hok hm720.1 hm720.2 hm'.1
    rw [HD0.out] at HS hso
    obtain ⟨s0, k0⟩ := d0
    dsimp only at HS
    (refine wp_region_tail 9 (by kernel_rfl) (by kernel_rfl) ?_; simp only [List.take_succ_cons, List.take_zero, List.drop_succ_cons, List.drop_zero]; (repeat (any_goals (first | go_big_quiet_step ((first | (go_at_call 41; exact later_call (HS.out _)))) | quiet_step ((first | (go_at_call 41; exact later_call (HS.out _)))) | (refine wpQuiet_step (fun K hK => ?_); go_simp; split <;> (refine hK _ ?_; clear hK K))))); (all_goals (refine wpQuiet_nil ?_; intro wq hw'; obtain ⟨⟨_, hbq⟩, hw''⟩ := hw'; subst hw'')))
    have BQ := CA.below hbq; have TQ := CT.below hbq
    have hwq : Below w.heap.size w wq := Below.trans ZW2 (hbq.mono ZW2.size)
    have hp5 := HF.out.below hwq
    obtain ⟨U, hU⟩ : ∃ U, U = last + 3 * e := ⟨_, rfl⟩
    have HFo := Lib.hid (follow_any (fun x => x < w.heap.size) r e c f U s0 k0 _ cp fs wq hp5 hcp hR)
    rw [hwr, ← hU]
    rw [← hU] at HV
    have hUb : last ≤ U ∧ U ≤ last + 1080 := by omega
    clear x0 x1 x2 hwr hU
    go_wp2_with (go_at_call 40; refine HFo.out.mono ?_; rintro en w5 ⟨rfl, hb5, hF5⟩)
    have hq5 := TQ.lt
    have hqA := BQ.lt
    have hz5 : wq.heap.size + 5 ≤ w5.heap.size := hF5.u.lt
    have hlow : Below w.heap.size w w5 := hwq.trans (hb5.mono hwq.size)
    have hww : w.heap.size ≤ wq.heap.size := hwq.size
    have hI0 : BackI w wq.heap.size (w.heap.size + 1) TB last (Pu.backAt ⟨r, e, c⟩ f fs ⟨s0, k0⟩ last) 0 (fun x => wq.heap.size ≤ x ∧ x < wq.heap.size + 5) w5 :=
      ⟨hlow, fun b hb => hb.1, by omega, by simpa [Pu.backAt] using BQ.below hb5, TQ.below hb5⟩
    have ha := backI_abide (w := w) (M := wq.heap.size) (AB := w.heap.size + 1) (TB := TB) (last := last) (at' := Pu.backAt ⟨r, e, c⟩ f fs ⟨s0, k0⟩ last) hww hqA hq5
    have hkd := Pu.chk_kinds hz.2
    have hIT := follow1_iter (fun x => x < w.heap.size) r e c f U s0 k0 fs w5 wq.heap.size hok hF5 (fun x hx => by omega) hkd (by omega) (by omega) (by omega) hso.1 hso.2.1 hso.2.2.1 (by have := hso.2.2.2; dsimp only at *; omega)
    clear hF5 HFo BQ TQ CA CT CL HS HF
    refine (wpIn_wide (n := 0)).1 (rangeFunc_wide (gf := 56) (lb := folCap wq.heap.size) (by rfl) ?_ hIT (fun b hb => by have := hb.2; omega) (fun b hb => by omega) (fun x => rfl) _ ha hI0 ?_ ?_)
    · intro args w; rfl
    · intro l O k W hk hi hSO hOl hlW
      have hfk : folEnc ((Pu.fol ⟨r, e, c⟩ f U fs ⟨s0, k0⟩)[k]) = #[.int .i64 (f + k + 1), .agg #[.int .i64 ((Pu.folN ⟨r, e, c⟩ f fs ⟨s0, k0⟩ (k + 1)).1).s, .int .i64 ((Pu.folN ⟨r, e, c⟩ f fs ⟨s0, k0⟩ (k + 1)).1).k]] := by simp [folEnc, Pu.fol]
      have hkU : (k : Int) < U - f := by simp [Pu.fol] at hk; omega
      rw [hfk, fold2]
      have hat : Pu.backAt ⟨r, e, c⟩ f fs ⟨s0, k0⟩ last (k + 1) = if last ≤ f + k + 1 ∧ (Pu.folN ⟨r, e, c⟩ f fs ⟨s0, k0⟩ (k + 1)).1.s ≠ (f + k + 1) % 720 then f + k + 1 + 1 else Pu.backAt ⟨r, e, c⟩ f fs ⟨s0, k0⟩ last k := rfl
      generalize (Pu.folN ⟨r, e, c⟩ f fs ⟨s0, k0⟩ (k + 1)).1 = dd at hat
      obtain ⟨s', k'⟩ := dd
      dsimp only at hat ⊢
      clear hfk hI0 hIT hlow hkd
      have HAT := Lib.hid hat; clear hat
      have HA := Lib.hid ha
      clear ha
      simp only [List.setIfInBounds_toArray, List.set_cons_succ, List.set_cons_zero]
      have HR := Lib.hid (fun W => CallsIn.inRound l ((callsIn_wide (n := 0)).2 (isRight_any s' k' (f + k + 1) W (by omega))))
      gi_wp2_with fail
      refine ⟨Keeps.alloc _ _ _, HA.out _ _ _ _ _ hi (Keeps.alloc _ _ _) (fun _ h => h) (fun _ h => .inl h), ?_⟩
      intro W2 hk2 hi2
      have hv : Blk W2 W.heap.size #[.int .i64 s', .int .i64 k'] 89 := hk2.blk (Blk.new _ _ _) (by omega)
      have c0 := hv.cell 0 rfl; have c1 := hv.cell 1 rfl
      have x0 := hi2.box.free; have x1 := hi2.lst.cell 0 rfl
      have hzW := hv.lt; have hzT := hi2.lst.lt; have hzA := hi2.box.lt
      have q3 := hi2.up
      have x2 := hi2.box.cell 0 rfl
      have hA0 : ¬ O (w.heap.size + 1) ∧ w.heap.size ≤ w.heap.size + 1 := ⟨fun h => by have := q3 _ h; omega, by omega⟩
      by_cases q1 : last ≤ f + k + 1
      · cases q2 : s' == (f + k + 1) % 720
        · gi_wp2_with (refine ⟨trivial, rfl, ?_⟩; refine (HR.out _).mono ?_; rintro e w1 ⟨rfl, hb1⟩; obtain ⟨hc1, hf1, hs1⟩ := bcell hb1; have hz1 := hb1.size; (try simp at hz1))
          have hat := HAT.out
          rw [if_pos ⟨q1, by simpa using q2⟩] at hat
          exact hi2.set hb1 hat (by omega) nT hA0
        · gi_wp2_with (refine ⟨trivial, rfl, ?_⟩; refine (HR.out _).mono ?_; rintro e w1 ⟨rfl, hb1⟩; obtain ⟨hc1, hf1, hs1⟩ := bcell hb1; have hz1 := hb1.size; (try simp at hz1))
          have hat := HAT.out
          rw [if_neg (fun h => h.2 (by simpa using q2))] at hat
          exact hi2.same hb1 hat hww
      · gi_wp2_with (refine ⟨trivial, ?_⟩)
        have hat := HAT.out
        rw [if_neg (fun h => by omega)] at hat
        exact hi2.same (Below.refl _ _) hat hww
    · intro D O W hi hSO hOD hD hDW
      have hN : (Pu.fol ⟨r, e, c⟩ f U fs ⟨s0, k0⟩).length = (U - f).toNat := by simp [Pu.fol]
      rw [hN] at hi
      have c0 := hi.box.cell 0 rfl
      have f0 := hi.box.free
      simp only [Exit.inBlock, Exit.then]
      have hDA : D ≠ w.heap.size + 1 := by have := hi.up _ hOD; omega
      have hup := hi.up
      have hbig := hi.big
      have hlo : ∀ v, Below w.heap.size w ((W.setCell ⟨w.heap.size + 1, 0, none⟩ v).putObj D (.deferred none)) := fun v =>
        (hi.low.setCell (by simp) v).trans ((Keeps.putObj (O := fun b => b = D) _ D _ rfl).to_below (by simp; omega) (fun b hb => by omega))
      have HLO := Lib.hid hlo; clear hlo
      have HDD := Lib.hid hDW; clear hDW
      have hce : ∀ v, ((W.setCell ⟨w.heap.size + 1, 0, none⟩ v).putObj D (.deferred none)).cell? ⟨w.heap.size + 1, 0, none⟩ = some v := fun v =>
        Blk.cell (vs := #[v]) (t := 3) ((World.putObj_heap_other (fun h => hDA h.symm)).trans (by have := hi.box.set 0 v; simpa [Blk] using this)) 0 rfl
      have HCE := Lib.hid hce; clear hce
      by_cases hU2 : U < Pu.backAt ⟨r, e, c⟩ f fs ⟨s0, k0⟩ last (U - f).toNat
      · go_wp2_with fail
        refine leave_mark (v := .tuple #[.int .i64 0, .int .i64 7]) rfl ((Below.heap_setCell _ _ _ _ hDA).trans HDD.out) ?_ ⟨by rw [HV.out, if_pos hU2], HLO.out _⟩
        simp [results, Try.results21, go_sem, HCE.out]
      · go_wp2_with fail
        refine leave_mark (v := .tuple #[.int .i64 (Pu.backAt ⟨r, e, c⟩ f fs ⟨s0, k0⟩ last (U - f).toNat), .int .i64 0]) rfl ((Below.heap_setCell _ _ _ _ hDA).trans HDD.out) ?_ ⟨by rw [HV.out, if_neg (by omega)], HLO.out _⟩
        simp [results, Try.results21, go_sem, HCE.out])
end Go.Proofs.Ytpjlihkpnhamlaa
end

/- pulse.Back: its contract at every input. -/
section
set_option linter.unusedSimpArgs false
set_option linter.unusedVariables false
namespace Go.Proofs.Ytpjlihkpnhamlaa
open Go.RowKit Go.Shelf

set_option maxHeartbeats 1000000 in
theorem pulseBack_any (r e c f : Int) (a : Option Addr) (cp : Nat) (fs : List (Int × Int)) (w : World) (hr : (Lit.int .i64 r).wf = true) (he : (Lit.int .i64 e).wf = true) (hc : (Lit.int .i64 c).wf = true) (hf : IsPairs w a fs) (hcp : fs.length ≤ cp) :
    Calls Try.prog 21 #[.agg #[.int .i64 r, .int .i64 e, .int .i64 c], .int .i64 f, .slice a fs.length cp] w
      (Ret w (.tuple #[.int .i64 (Pu.backVal ⟨r, e, c⟩ f fs).1, .int .i64 (Pu.backVal ⟨r, e, c⟩ f fs).2])) := by
  have HO := Lib.hid (fun W => open_any r e c W hr he hc)
  by_cases h1 : Pu.lineErr r e c = 0
  case neg =>
    have h2 := Pu.err_two h1
    have hv : Pu.backVal ⟨r, e, c⟩ f fs = (0, 2) := by simp [Pu.backVal, h2]
    rw [hv]
    rw [h2] at HO
    clear h1 h2 hv hf
    go_enter Try.func21, Try.ntmps21
    go_wp2_with (go_at_call 35; refine (HO.out _).mono ?_; rintro e w1 ⟨rfl, hb1⟩; obtain ⟨hc1, hf1, hs1⟩ := bcell hb1; have hz1 := hb1.size; (try simp at hz1); have B1' : Blk w1 (w.heap.size + 1) #[.int .i64 0] 3 := Blk.below (by repeat first | exact blk_at (by first | rfl | omega | (simp; done) | (simp; omega)) | assumption | refine Blk.alloc ?_ _ | refine Blk.drew ?_ | refine Blk.drewN ?_ _ | (refine Blk.other ?_ _ (by first | omega | (simp; done) | (simp; omega))) | (refine Blk.below ?_ (by assumption))) hb1; have c1' := B1'.cell 0 rfl; have y1' := B1'.lt; have g1' := B1'.free; have Z1' : Below w.heap.size w w1 := Below.trans (b := _) (by repeat first | exact Below.refl _ _ | assumption | (refine Below.alloc ?_ (by first | omega | (simp; done) | (simp; omega)) _) | (refine Below.setCell ?_ (by first | omega | (simp; done) | (simp; omega)) _) | (refine Below.drew ?_) | (refine belowDrewN ?_) | (refine Below.trans ?_ (Below.mono (by assumption) (by first | omega | (simp; done) | (simp; omega))))) (Below.mono hb1 (by first | omega | (simp; done) | (simp; omega))); obtain ⟨LB, hLB⟩ : ∃ LB, w1.heap.size = LB := ⟨_, rfl⟩; have y3' : w.heap.size + 1 < LB := (by rw [← hLB]; exact y1'))
    (refine bodyPost_ret (v := .tuple #[.int .i64 0, .int .i64 2]) ?_ rfl (ret_any rfl (by repeat first | exact Below.refl _ _ | assumption | (refine Below.alloc ?_ (by first | omega | (simp; done) | (simp; omega)) _) | (refine Below.setCell ?_ (by first | omega | (simp; done) | (simp; omega)) _) | (refine Below.drew ?_) | (refine belowDrewN ?_) | (refine Below.trans ?_ (Below.mono (by assumption) (by first | omega | (simp; done) | (simp; omega)))))); (simp (maxDischargeDepth := 9) [results, Try.results21, go_sem, *]); (try simp only [beq_iff_eq, beq_eq_false_iff_ne, bne_iff_ne, bne_eq_false_iff_eq, ne_eq, Bool.not_eq_true, Bool.not_eq_true', Bool.not_eq_false', btw_iff, btw_not', Int.not_lt, Int.not_le] at *); done)
  case pos =>
    have hok := Pu.ok_of_err h1
    rw [h1] at HO
    cases hm : btw 0 100000 f
    case false =>
      have hv : Pu.backVal ⟨r, e, c⟩ f fs = (0, 3) := by simp [Pu.backVal, h1, hm]
      rw [hv]
      clear h1 hv hf hok
      go_enter Try.func21, Try.ntmps21
      go_wp2_with (first | (go_at_call 35; refine (HO.out _).mono ?_; rintro e w1 ⟨rfl, hb1⟩; obtain ⟨hc1, hf1, hs1⟩ := bcell hb1; have hz1 := hb1.size; (try simp at hz1); have B1' : Blk w1 (w.heap.size + 1) #[.int .i64 0] 3 := Blk.below (by repeat first | exact blk_at (by first | rfl | omega | (simp; done) | (simp; omega)) | assumption | refine Blk.alloc ?_ _ | refine Blk.drew ?_ | refine Blk.drewN ?_ _ | (refine Blk.other ?_ _ (by first | omega | (simp; done) | (simp; omega))) | (refine Blk.below ?_ (by assumption))) hb1; have c1' := B1'.cell 0 rfl; have y1' := B1'.lt; have g1' := B1'.free; have Z1' : Below w.heap.size w w1 := Below.trans (b := _) (by repeat first | exact Below.refl _ _ | assumption | (refine Below.alloc ?_ (by first | omega | (simp; done) | (simp; omega)) _) | (refine Below.setCell ?_ (by first | omega | (simp; done) | (simp; omega)) _) | (refine Below.drew ?_) | (refine belowDrewN ?_) | (refine Below.trans ?_ (Below.mono (by assumption) (by first | omega | (simp; done) | (simp; omega))))) (Below.mono hb1 (by first | omega | (simp; done) | (simp; omega))); obtain ⟨LB, hLB⟩ : ∃ LB, w1.heap.size = LB := ⟨_, rfl⟩; have y3' : w.heap.size + 1 < LB := (by rw [← hLB]; exact y1')) | (go_at_call 36; refine (isMinute_any _ _).mono ?_; rintro e w1 ⟨rfl, hb1⟩; obtain ⟨hc1, hf1, hs1⟩ := bcell hb1; have hz1 := hb1.size; (try simp at hz1); have B1' : Blk w1 (w.heap.size + 1) #[.int .i64 0] 3 := Blk.below (by repeat first | exact blk_at (by first | rfl | omega | (simp; done) | (simp; omega)) | assumption | refine Blk.alloc ?_ _ | refine Blk.drew ?_ | refine Blk.drewN ?_ _ | (refine Blk.other ?_ _ (by first | omega | (simp; done) | (simp; omega))) | (refine Blk.below ?_ (by assumption))) hb1; have c1' := B1'.cell 0 rfl; have y1' := B1'.lt; have g1' := B1'.free; have Z1' : Below w.heap.size w w1 := Below.trans (b := _) (by repeat first | exact Below.refl _ _ | assumption | (refine Below.alloc ?_ (by first | omega | (simp; done) | (simp; omega)) _) | (refine Below.setCell ?_ (by first | omega | (simp; done) | (simp; omega)) _) | (refine Below.drew ?_) | (refine belowDrewN ?_) | (refine Below.trans ?_ (Below.mono (by assumption) (by first | omega | (simp; done) | (simp; omega))))) (Below.mono hb1 (by first | omega | (simp; done) | (simp; omega))); have L1' : Blk w1 LB #[.int .i64 r, .int .i64 e, .int .i64 c] 81 := Blk.below (by repeat first | exact blk_at (by first | rfl | omega | (simp; done) | (simp; omega)) | assumption | refine Blk.alloc ?_ _ | refine Blk.drew ?_ | refine Blk.drewN ?_ _ | (refine Blk.other ?_ _ (by first | omega | (simp; done) | (simp; omega))) | (refine Blk.below ?_ (by assumption))) hb1; have c2' := L1'.cell 0 rfl; have c3' := L1'.cell 1 rfl; have c4' := L1'.cell 2 rfl; have y2' := L1'.lt))
      (refine bodyPost_ret (v := .tuple #[.int .i64 0, .int .i64 3]) ?_ rfl (ret_any rfl (by repeat first | exact Below.refl _ _ | assumption | (refine Below.alloc ?_ (by first | omega | (simp; done) | (simp; omega)) _) | (refine Below.setCell ?_ (by first | omega | (simp; done) | (simp; omega)) _) | (refine Below.drew ?_) | (refine belowDrewN ?_) | (refine Below.trans ?_ (Below.mono (by assumption) (by first | omega | (simp; done) | (simp; omega)))))); (simp (maxDischargeDepth := 9) [results, Try.results21, go_sem, *]); (try simp only [beq_iff_eq, beq_eq_false_iff_ne, bne_iff_ne, bne_eq_false_iff_eq, ne_eq, Bool.not_eq_true, Bool.not_eq_true', Bool.not_eq_false', btw_iff, btw_not', Int.not_lt, Int.not_le] at *); done)
    case true =>
    have hm' := btw_iff.1 hm
    have HK := Lib.hid (fun W (hW : Below w.heap.size w W) => lineCheck_any r e c f (f + 5000) a cp fs W hok (hf.below hW) (by omega) (by omega) (by omega))
    by_cases hk : Pu.faultsErr ⟨r, e, c⟩ f (f + 5000) fs = 0
    case neg =>
      have hv : Pu.backVal ⟨r, e, c⟩ f fs = (0, Pu.faultsErr ⟨r, e, c⟩ f (f + 5000) fs) := by simp [Pu.backVal, h1, hm, hk]
      rw [hv]
      generalize Pu.faultsErr ⟨r, e, c⟩ f (f + 5000) fs = q at HK hk
      have hq : (q != 0) = true := by simp [hk]
      clear h1 hv hf hok
      go_enter Try.func21, Try.ntmps21
      go_wp2_with (first | (go_at_call 35; refine (HO.out _).mono ?_; rintro e w1 ⟨rfl, hb1⟩; obtain ⟨hc1, hf1, hs1⟩ := bcell hb1; have hz1 := hb1.size; (try simp at hz1); have B1' : Blk w1 (w.heap.size + 1) #[.int .i64 0] 3 := Blk.below (by repeat first | exact blk_at (by first | rfl | omega | (simp; done) | (simp; omega)) | assumption | refine Blk.alloc ?_ _ | refine Blk.drew ?_ | refine Blk.drewN ?_ _ | (refine Blk.other ?_ _ (by first | omega | (simp; done) | (simp; omega))) | (refine Blk.below ?_ (by assumption))) hb1; have c1' := B1'.cell 0 rfl; have y1' := B1'.lt; have g1' := B1'.free; have Z1' : Below w.heap.size w w1 := Below.trans (b := _) (by repeat first | exact Below.refl _ _ | assumption | (refine Below.alloc ?_ (by first | omega | (simp; done) | (simp; omega)) _) | (refine Below.setCell ?_ (by first | omega | (simp; done) | (simp; omega)) _) | (refine Below.drew ?_) | (refine belowDrewN ?_) | (refine Below.trans ?_ (Below.mono (by assumption) (by first | omega | (simp; done) | (simp; omega))))) (Below.mono hb1 (by first | omega | (simp; done) | (simp; omega))); obtain ⟨LB, hLB⟩ : ∃ LB, w1.heap.size = LB := ⟨_, rfl⟩; have y3' : w.heap.size + 1 < LB := (by rw [← hLB]; exact y1')) | (go_at_call 36; refine (isMinute_any _ _).mono ?_; rintro e w1 ⟨rfl, hb1⟩; obtain ⟨hc1, hf1, hs1⟩ := bcell hb1; have hz1 := hb1.size; (try simp at hz1); have B1' : Blk w1 (w.heap.size + 1) #[.int .i64 0] 3 := Blk.below (by repeat first | exact blk_at (by first | rfl | omega | (simp; done) | (simp; omega)) | assumption | refine Blk.alloc ?_ _ | refine Blk.drew ?_ | refine Blk.drewN ?_ _ | (refine Blk.other ?_ _ (by first | omega | (simp; done) | (simp; omega))) | (refine Blk.below ?_ (by assumption))) hb1; have c1' := B1'.cell 0 rfl; have y1' := B1'.lt; have g1' := B1'.free; have Z1' : Below w.heap.size w w1 := Below.trans (b := _) (by repeat first | exact Below.refl _ _ | assumption | (refine Below.alloc ?_ (by first | omega | (simp; done) | (simp; omega)) _) | (refine Below.setCell ?_ (by first | omega | (simp; done) | (simp; omega)) _) | (refine Below.drew ?_) | (refine belowDrewN ?_) | (refine Below.trans ?_ (Below.mono (by assumption) (by first | omega | (simp; done) | (simp; omega))))) (Below.mono hb1 (by first | omega | (simp; done) | (simp; omega))); have L1' : Blk w1 LB #[.int .i64 r, .int .i64 e, .int .i64 c] 81 := Blk.below (by repeat first | exact blk_at (by first | rfl | omega | (simp; done) | (simp; omega)) | assumption | refine Blk.alloc ?_ _ | refine Blk.drew ?_ | refine Blk.drewN ?_ _ | (refine Blk.other ?_ _ (by first | omega | (simp; done) | (simp; omega))) | (refine Blk.below ?_ (by assumption))) hb1; have c2' := L1'.cell 0 rfl; have c3' := L1'.cell 1 rfl; have c4' := L1'.cell 2 rfl; have y2' := L1'.lt) | (go_at_call 39; refine (HK.out _ (by first | assumption | exact (by repeat first | exact Below.refl _ _ | assumption | (refine Below.alloc ?_ (by first | omega | (simp; done) | (simp; omega)) _) | (refine Below.setCell ?_ (by first | omega | (simp; done) | (simp; omega)) _) | (refine Below.drew ?_) | (refine belowDrewN ?_) | (refine Below.trans ?_ (Below.mono (by assumption) (by first | omega | (simp; done) | (simp; omega))))))).mono ?_; rintro e w1 ⟨rfl, hb1⟩; obtain ⟨hc1, hf1, hs1⟩ := bcell hb1; have hz1 := hb1.size; (try simp at hz1); have B1' : Blk w1 (w.heap.size + 1) #[.int .i64 0] 3 := Blk.below (by repeat first | exact blk_at (by first | rfl | omega | (simp; done) | (simp; omega)) | assumption | refine Blk.alloc ?_ _ | refine Blk.drew ?_ | refine Blk.drewN ?_ _ | (refine Blk.other ?_ _ (by first | omega | (simp; done) | (simp; omega))) | (refine Blk.below ?_ (by assumption))) hb1; have c1' := B1'.cell 0 rfl; have y1' := B1'.lt; have g1' := B1'.free; have Z1' : Below w.heap.size w w1 := Below.trans (b := _) (by repeat first | exact Below.refl _ _ | assumption | (refine Below.alloc ?_ (by first | omega | (simp; done) | (simp; omega)) _) | (refine Below.setCell ?_ (by first | omega | (simp; done) | (simp; omega)) _) | (refine Below.drew ?_) | (refine belowDrewN ?_) | (refine Below.trans ?_ (Below.mono (by assumption) (by first | omega | (simp; done) | (simp; omega))))) (Below.mono hb1 (by first | omega | (simp; done) | (simp; omega))); have L1' : Blk w1 LB #[.int .i64 r, .int .i64 e, .int .i64 c] 81 := Blk.below (by repeat first | exact blk_at (by first | rfl | omega | (simp; done) | (simp; omega)) | assumption | refine Blk.alloc ?_ _ | refine Blk.drew ?_ | refine Blk.drewN ?_ _ | (refine Blk.other ?_ _ (by first | omega | (simp; done) | (simp; omega))) | (refine Blk.below ?_ (by assumption))) hb1; have c2' := L1'.cell 0 rfl; have c3' := L1'.cell 1 rfl; have c4' := L1'.cell 2 rfl; have y2' := L1'.lt))
      (refine bodyPost_ret (v := .tuple #[.int .i64 0, .int .i64 q]) ?_ rfl (ret_any rfl (by repeat first | exact Below.refl _ _ | assumption | (refine Below.alloc ?_ (by first | omega | (simp; done) | (simp; omega)) _) | (refine Below.setCell ?_ (by first | omega | (simp; done) | (simp; omega)) _) | (refine Below.drew ?_) | (refine belowDrewN ?_) | (refine Below.trans ?_ (Below.mono (by assumption) (by first | omega | (simp; done) | (simp; omega)))))); (simp (maxDischargeDepth := 9) [results, Try.results21, go_sem, *]); (try simp only [beq_iff_eq, beq_eq_false_iff_ne, bne_iff_ne, bne_eq_false_iff_eq, ne_eq, Bool.not_eq_true, Bool.not_eq_true', Bool.not_eq_false', btw_iff, btw_not', Int.not_lt, Int.not_le] at *); done)
    case pos => exact pulseBack_ok r e c f a cp fs w hr he hc hf hcp h1 hm hk
end Go.Proofs.Ytpjlihkpnhamlaa
end

/- The walk of pulse.Corrects. -/
section
set_option linter.unusedSimpArgs false
set_option linter.unusedVariables false
namespace Go.Proofs.Ytpjlihkpnhamlaa
open Go.RowKit Go.Shelf

namespace Pu
def corrVal (l : Ln) (a b : Int) : Bool × Int :=
  if lineErr l.r l.e l.c ≠ 0 then (false, lineErr l.r l.e l.c) else if (btw 0 20 a && btw 0 20 b) = false then (false, 3)
  else if l.r = 0 then (a == 0 && b == 0, 0) else if l.r = 2 then (decide (a ≤ l.c), 0) else (decide (max a b ≤ l.c), 0)
end Pu

set_option maxHeartbeats 1000000 in
theorem corrects_any (r e c a b : Int) (w : World) (hr : (Lit.int .i64 r).wf = true) (he : (Lit.int .i64 e).wf = true) (hc : (Lit.int .i64 c).wf = true) :
    Calls Try.prog 23 #[.agg #[.int .i64 r, .int .i64 e, .int .i64 c], .int .i64 a, .int .i64 b] w
      (Ret w (.tuple #[.bool (Pu.corrVal ⟨r, e, c⟩ a b).1, .int .i64 (Pu.corrVal ⟨r, e, c⟩ a b).2])) := by
  have HO := Lib.hid (fun W => open_any r e c W hr he hc)
  by_cases h1 : Pu.lineErr r e c = 0
  case neg =>
    have h2 := Pu.err_two h1
    have hv : Pu.corrVal ⟨r, e, c⟩ a b = (false, 2) := by simp [Pu.corrVal, h2]
    rw [hv]
    rw [h2] at HO
    clear h1 h2 hv
    go_enter Try.func23, Try.ntmps23
    go_wp2_with (go_at_call 35; refine (HO.out _).mono ?_; rintro e w1 ⟨rfl, hb1⟩; obtain ⟨hc1, hf1, hs1⟩ := bcell hb1; have hz1 := hb1.size; (try simp at hz1))
    go_ret2
    exact ret_any rfl (by repeat first | exact Below.refl _ _ | assumption | (refine Below.alloc ?_ (by first | omega | (simp; done) | (simp; omega)) _) | (refine Below.setCell ?_ (by first | omega | (simp; done) | (simp; omega)) _) | (refine Below.drew ?_) | (refine belowDrewN ?_) | (refine Below.trans ?_ (Below.mono (by assumption) (by first | omega | (simp; done) | (simp; omega)))))
  case pos =>
    have hok := Pu.ok_of_err h1
    rw [h1] at HO
    have HK := Lib.hid hok
    by_cases hb : (btw 0 20 a && btw 0 20 b) = true
    case neg =>
      have hb' : (btw 0 20 a && btw 0 20 b) = false := by simpa using hb
      have hv : Pu.corrVal ⟨r, e, c⟩ a b = (false, 3) := by simp only [Pu.corrVal, h1, hb']; simp
      rw [hv]
      clear h1 hv hb hok
      go_enter Try.func23, Try.ntmps23
      go_wp2_with (first | (go_at_call 35; refine (HO.out _).mono ?_; rintro e w1 ⟨rfl, hb1⟩; obtain ⟨hc1, hf1, hs1⟩ := bcell hb1; have hz1 := hb1.size; (try simp at hz1)) | (go_at_call 38; refine (within_new2 (by first | omega | (simp; done) | (simp; omega))).mono ?_; rintro e w1 ⟨rfl, hb1⟩; obtain ⟨hc1, hf1, hs1⟩ := bcell hb1; have hz1 := hb1.size; (try simp at hz1)))
      all_goals (go_ret2; exact ret_any rfl (by repeat first | exact Below.refl _ _ | assumption | (refine Below.alloc ?_ (by first | omega | (simp; done) | (simp; omega)) _) | (refine Below.setCell ?_ (by first | omega | (simp; done) | (simp; omega)) _) | (refine Below.drew ?_) | (refine belowDrewN ?_) | (refine Below.trans ?_ (Below.mono (by assumption) (by first | omega | (simp; done) | (simp; omega))))))
    case pos =>
      have hv : Pu.corrVal ⟨r, e, c⟩ a b = if r = 0 then (a == 0 && b == 0, 0) else if r = 2 then (decide (a ≤ c), 0) else (decide (max a b ≤ c), 0) := by simp only [Pu.corrVal, h1, hb]; simp
      rw [hv]
      clear hv
      obtain ⟨v, hv⟩ : ∃ v : Bool × Int, v = if r = 0 then (a == 0 && b == 0, 0) else if r = 2 then (decide (a ≤ c), 0) else (decide (max a b ≤ c), 0) := ⟨_, rfl⟩
      rw [← hv]
      have HV := Lib.hid hv
      clear h1 hv hok
      go_enter Try.func23, Try.ntmps23
      go_wp2_with (first | (go_at_call 35; refine (HO.out _).mono ?_; rintro e w1 ⟨rfl, hb1⟩; obtain ⟨hc1, hf1, hs1⟩ := bcell hb1; have hz1 := hb1.size; (try simp at hz1)) | (go_at_call 38; refine (within_new2 (by first | omega | (simp; done) | (simp; omega))).mono ?_; rintro e w1 ⟨rfl, hb1⟩; obtain ⟨hc1, hf1, hs1⟩ := bcell hb1; have hz1 := hb1.size; (try simp at hz1)))
      all_goals (go_ret2; refine ret_any ?_ (by repeat first | exact Below.refl _ _ | assumption | (refine Below.alloc ?_ (by first | omega | (simp; done) | (simp; omega)) _) | (refine Below.setCell ?_ (by first | omega | (simp; done) | (simp; omega)) _) | (refine Below.drew ?_) | (refine belowDrewN ?_) | (refine Below.trans ?_ (Below.mono (by assumption) (by first | omega | (simp; done) | (simp; omega))))); rw [HV.out])
      all_goals (first | (simp_all; done) | (simp_all; omega))
end Go.Proofs.Ytpjlihkpnhamlaa
end

/- Maps of integers as functions to options: laws at the operations, whatever the type of the key. -/
section
set_option linter.unusedSimpArgs false
set_option linter.unusedVariables false
set_option linter.unusedSectionVars false
namespace Go.Proofs.Ytpjlihkpnhamlaa
open Go.RowKit Go.Shelf Go.Maps

/-- how the keys of a type are told -/
structure KeyEnc (P : Program) (k : TypeId) (κ : Type) where
  K : Keyed P k
  kv : κ → Value
  kl : κ → Lit
  ok : κ → Prop
  enc : ∀ d, ok d → keyOf P k (kv d) = some (kl d)
  dec : ∀ v l, keyOf P k v = some l → ∃ d, ok d ∧ v = kv d
  inj : ∀ d d', kv d = kv d' → d = d'

section
variable {P : Program} {k e : TypeId} {κ : Type} (E : KeyEnc P k κ)

theorem KeyEnc.dec' {v : Value} {l : Lit} (h : keyOf P k v = some l) : ∃ d, E.ok d ∧ v = E.kv d ∧ l = E.kl d := by
  obtain ⟨d, hd, rfl⟩ := E.dec v l h
  exact ⟨d, hd, rfl, by rw [E.enc d hd] at h; exact (Option.some.inj h).symm⟩
theorem KeyEnc.klinj {d d' : κ} (h : E.ok d) (h' : E.ok d') (he : E.kl d = E.kl d') : d = d' :=
  E.inj _ _ (E.K.inj (E.enc d h) (by rw [he]; exact E.enc d' h'))
theorem KeyEnc.isKey {d : κ} (h : E.ok d) : WideAt.IsKeyLit (E.kl d) := E.K.key (E.enc d h)

/-- a datum tells a function to options -/
structure Tells (D : DataW Unit) (f : κ → Option Int) : Prop where
  from' : ∀ l, Maps.has D l = true → ∃ d, E.ok d ∧ l = E.kl d ∧ (f d).isSome = true
  to : ∀ d c, f d = some c → E.ok d ∧ (Lit.int .i64 c).wf = true ∧ ∀ z, D.atKey (E.kl d) z = .lit (.int .i64 c)

/-- block b is a map of at most n integers with just these entries -/
def IMap (e : TypeId) (w : World) (b n : Nat) (f : κ → Option Int) : Prop := ∃ D, w.ownsMap P k (plainElem (H := Unit) P e) b n D ∧ Tells E D f
/-- a range over such a map is under way: which keys are still to come -/
def IRange (e : TypeId) (w : World) (b r n : Nat) (f : κ → Option Int) (left : κ → Prop) (cnt : Nat) : Prop :=
  ∃ D L, w.ranges P k (plainElem (H := Unit) P e) b r n D L cnt ∧ Tells E D f ∧ ∀ d, E.ok d → (left d ↔ L (E.kl d) = true)

variable {E} {w w' : World} {b r n : Nat} {f : κ → Option Int}

theorem Tells.has {D : DataW Unit} (h : Tells E D f) (d : κ) (hd : E.ok d) : Maps.has D (E.kl d) = (f d).isSome := by
  cases hf : f d with
  | some c => rw [has_true_of_atKey ((h.to d c hf).2.2)]; rfl
  | none =>
    cases hh : Maps.has D (E.kl d)
    · rfl
    · obtain ⟨d', h1, h2, h3⟩ := h.from' _ hh
      rw [← E.klinj hd h1 h2, hf] at h3
      cases h3

def upd [DecidableEq κ] (f : κ → Option Int) (d : κ) (c : Option Int) : κ → Option Int := fun y => if y = d then c else f y

theorem Tells.put [DecidableEq κ] {D : DataW Unit} (h : Tells E D f) (hm : IsMap D) {d : κ} (hd : E.ok d) {c : Int} (hc : (Lit.int .i64 c).wf = true) : Tells E (D.put (E.kl d) (.lit (.int .i64 c))) (upd f d (some c)) := by
  refine ⟨fun l hl => ?_, fun y x hy => ?_⟩
  · by_cases q : l = E.kl d
    · exact ⟨d, hd, q, by simp [upd]⟩
    · rw [has_put_other q] at hl
      obtain ⟨y, h1, h2, h3⟩ := h.from' l hl
      exact ⟨y, h1, h2, by unfold upd; split; rfl; exact h3⟩
  · unfold upd at hy
    split at hy
    · rename_i q; subst q; cases hy
      exact ⟨hd, hc, fun z => atKey_put_same hm (E.isKey hd) _ _⟩
    · rename_i q
      obtain ⟨h1, h2, h3⟩ := h.to y x hy
      exact ⟨h1, h2, fun z => by rw [atKey_put_other (fun e => q (E.klinj h1 hd e))]; exact h3 z⟩
theorem Tells.del [DecidableEq κ] {D : DataW Unit} (h : Tells E D f) {d : κ} (hd : E.ok d) : Tells E (D.del (E.kl d)) (upd f d none) := by
  refine ⟨fun l hl => ?_, fun y x hy => ?_⟩
  · by_cases q : l = E.kl d
    · rw [q, has_del_same] at hl; cases hl
    · rw [has_del_other q] at hl
      obtain ⟨y, h1, h2, h3⟩ := h.from' l hl
      refine ⟨y, h1, h2, ?_⟩
      unfold upd
      rw [if_neg (fun e => q (by rw [h2, e]))]
      exact h3
  · unfold upd at hy
    split at hy
    · cases hy
    · rename_i q
      obtain ⟨h1, h2, h3⟩ := h.to y x hy
      exact ⟨h1, h2, fun z => by rw [atKey_del_other (fun e => q (E.klinj h1 hd e))]; exact h3 z⟩

theorem IMap.made (E : KeyEnc P k κ) (w : World) : IMap E e (w.alloc (.map #[] 0)) w.heap.size 0 (fun _ => none) :=
  ⟨_, World.ownsMap_made w P k _, ⟨fun l h => (by cases h), fun d c h => (by cases h)⟩⟩
theorem IMap.lt (h : IMap E e w b n f) : b < w.heap.size := let ⟨_, h, _⟩ := h; h.lt
theorem IMap.mono (h : IMap E e w b n f) {n' : Nat} (hn : n ≤ n') : IMap E e w b n' f := let ⟨D, h, t⟩ := h; ⟨D, h.mono hn, t⟩
theorem IMap.ok (h : IMap E e w b n f) {d : κ} {c : Int} (hd : f d = some c) : E.ok d ∧ (Lit.int .i64 c).wf = true := let ⟨_, _, t⟩ := h; ⟨(t.to d c hd).1, (t.to d c hd).2.1⟩
theorem IMap.of_heap (h : IMap E e w b n f) (hh : w'.heap[b]? = w.heap[b]?) : IMap E e w' b n f := by
  obtain ⟨D, ⟨es, clock, hb, F, hs, hD⟩, t⟩ := h
  exact ⟨D, ⟨es, clock, hh.trans hb, F, hs, hD⟩, t⟩
theorem IMap.below (h : IMap E e w b n f) (hb : Below w.heap.size w w') : IMap E e w' b n f := h.of_heap (hb.block b h.lt)
theorem IMap.keeps {O : Nat → Prop} (h : IMap E e w b n f) (hk : Keeps O w w') (hO : ¬ O b) : IMap E e w' b n f := h.of_heap (hk.same b h.lt hO)
theorem IMap.alloc (h : IMap E e w b n f) (o : Obj) : IMap E e (w.alloc o) b n f := h.of_heap (Below.heap_alloc w o b h.lt)
theorem IMap.drew (h : IMap E e w b n f) : IMap E e w.drew b n f := h.of_heap rfl
theorem IMap.setCell (h : IMap E e w b n f) (a : Addr) (v : Value) (ha : b ≠ a.block) : IMap E e (w.setCell a v) b n f := h.of_heap (Below.heap_setCell w a v b ha)
theorem IRange.owns {left : κ → Prop} {cnt : Nat} (h : IRange E e w b r n f left cnt) : IMap E e w b n f := let ⟨D, _, h, t, _⟩ := h; ⟨D, h.owns, t⟩
theorem IRange.lt {left : κ → Prop} {cnt : Nat} (h : IRange E e w b r n f left cnt) : r < w.heap.size := let ⟨_, _, h, _, _⟩ := h; h.lt
theorem IRange.ne {left : κ → Prop} {cnt : Nat} (h : IRange E e w b r n f left cnt) : r ≠ b := let ⟨_, _, h, _, _⟩ := h; h.ne
theorem IRange.left_eq {left : κ → Prop} {cnt : Nat} (h : IRange E e w b r n f left cnt) : w.rangeLeft b r = cnt := let ⟨_, _, h, _, _⟩ := h; h.left_eq
theorem IRange.of_heap {left : κ → Prop} {cnt : Nat} (h : IRange E e w b r n f left cnt) (hb' : w'.heap[b]? = w.heap[b]?) (hr' : w'.heap[r]? = w.heap[r]?) : IRange E e w' b r n f left cnt := by
  obtain ⟨D, L, ⟨es, clock, since, seen, c0, hb, F, hs, hD, hr, rest⟩, t, hl⟩ := h
  exact ⟨D, L, ⟨es, clock, since, seen, c0, hb'.trans hb, F, hs, hD, hr'.trans hr, rest⟩, t, hl⟩
theorem IRange.below {left : κ → Prop} {cnt : Nat} (h : IRange E e w b r n f left cnt) (hb : Below w.heap.size w w') : IRange E e w' b r n f left cnt := h.of_heap (hb.block b h.owns.lt) (hb.block r h.lt)
theorem IRange.keeps {O : Nat → Prop} {left : κ → Prop} {cnt : Nat} (h : IRange E e w b r n f left cnt) (hk : Keeps O w w') (hO : ¬ O b) (hR : ¬ O r) : IRange E e w' b r n f left cnt := h.of_heap (hk.same b h.owns.lt hO) (hk.same r h.lt hR)
theorem IRange.alloc {left : κ → Prop} {cnt : Nat} (h : IRange E e w b r n f left cnt) (o : Obj) : IRange E e (w.alloc o) b r n f left cnt := h.of_heap (Below.heap_alloc w o b h.owns.lt) (Below.heap_alloc w o r h.lt)
theorem IRange.iff {left left' : κ → Prop} {cnt : Nat} (h : IRange E e w b r n f left cnt) (hl : ∀ d, E.ok d → (left d ↔ left' d)) : IRange E e w b r n f left' cnt := by
  obtain ⟨D, L, h1, t, h2⟩ := h
  exact ⟨D, L, h1, t, fun d hd => (hl d hd).symm.trans (h2 d hd)⟩

theorem Keeps.grown (row : Option Nat) (h : w.grownBy w' row) : Keeps (fun x => some x = row) w w' :=
  ⟨⟨h.os, h.tape, h.output, h.size, fun i hi => by omega⟩, fun i hi ho => h.block i hi ho⟩
theorem Keeps.none (h : w.grownBy w' Option.none) (O : Nat → Prop) : Keeps O w w' := (Keeps.grown _ h).mono (fun b _ h => by cases h)
theorem Keeps.one {x : Nat} (h : w.grownBy w' (some x)) : Keeps (fun y => y = x) w w' := (Keeps.grown _ h).mono (fun b _ h => by cases h; rfl)

/-- as many entries as there can be keys -/
theorem nodup_le : ∀ (N : Nat) (l : List Nat), l.Pairwise (· ≠ ·) → (∀ x ∈ l, x < N) → l.length ≤ N
  | 0, l, _, h => by cases l with | nil => simp | cons x r => exact absurd (h x (by simp)) (by omega)
  | N + 1, l, hp, h => by
    have h1 := nodup_le N (l.filter (· != N)) (hp.filter _) (fun x hx => by
      obtain ⟨h1, h2⟩ := List.mem_filter.1 hx
      have := h x h1
      simp at h2
      omega)
    have h2 : l.length ≤ (l.filter (· != N)).length + 1 := by
      clear h h1
      induction l with
      | nil => simp
      | cons x r ih =>
        obtain ⟨h1, h2⟩ := List.pairwise_cons.1 hp
        by_cases q : x = N
        · subst q
          have hr : r.filter (· != x) = r := List.filter_eq_self.2 (fun y hy => by simpa using (h1 y hy).symm)
          have : (x :: r).filter (· != x) = r := by rw [List.filter_cons]; simp [hr]
          rw [this]
          simp
        · have := ih h2
          have e : (x :: r).filter (· != N) = x :: r.filter (· != N) := by rw [List.filter_cons]; simp [q]
          rw [e]
          simp at *
          omega
    omega
theorem IMap.bound (h : IMap E e w b n f) (N : Nat) (num : κ → Nat) (hn : ∀ d c, f d = some c → num d < N) (hi : ∀ d d' c c', f d = some c → f d' = some c' → num d = num d' → d = d') : IMap E e w b N f := by
  obtain ⟨D, hown, t⟩ := h
  obtain ⟨es, hD, hp, hk⟩ := hown.entries E.K
  have hmem : ∀ p ∈ es, ∃ d c, E.ok d ∧ p.1 = E.kl d ∧ f d = some c := fun p hp' => by
    obtain ⟨d, h1, h2, h3⟩ := t.from' p.1 (by rw [hD]; exact List.any_eq_true.2 ⟨p, hp', WideAt.sameKey_self (hk p hp')⟩)
    obtain ⟨c, hc⟩ := Option.isSome_iff_exists.1 h3
    exact ⟨d, c, h1, h2, hc⟩
  have hsize : es.length ≤ N := by
    have key : ∀ l : List (Lit × DataW Unit), l.Pairwise (fun p q => p.1 ≠ q.1) → (∀ p ∈ l, ∃ d c, E.ok d ∧ p.1 = E.kl d ∧ f d = some c) → ∃ ns : List Nat, ns.length = l.length ∧ ns.Pairwise (· ≠ ·) ∧ (∀ x ∈ ns, x < N) ∧ ∀ x ∈ ns, ∃ p ∈ l, ∃ d c, p.1 = E.kl d ∧ f d = some c ∧ num d = x := by
      intro l
      induction l with
      | nil => intro _ _; exact ⟨[], rfl, List.Pairwise.nil, by simp, by simp⟩
      | cons p l ih =>
        intro h1 h2
        obtain ⟨a1, a2⟩ := List.pairwise_cons.1 h1
        obtain ⟨ns, b1, b2, b3, b4⟩ := ih a2 (fun q hq => h2 q (by simp [hq]))
        obtain ⟨d, c, c1, c2, c3⟩ := h2 p (by simp)
        refine ⟨num d :: ns, by simp [b1], List.pairwise_cons.2 ⟨fun x hx e1 => ?_, b2⟩, fun x hx => ?_, fun x hx => ?_⟩
        · obtain ⟨q, hq, d', c', d1, d2, d3⟩ := b4 x hx
          have := hi d d' c c' c3 d2 (by rw [d3]; exact e1)
          subst this
          exact a1 q hq (by rw [c2, d1])
        · rcases List.mem_cons.1 hx with rfl | hx
          · exact hn d c c3
          · exact b3 x hx
        · rcases List.mem_cons.1 hx with rfl | hx
          · exact ⟨p, by simp, d, c, c2, c3, rfl⟩
          · obtain ⟨q, hq, r⟩ := b4 x hx
            exact ⟨q, by simp [hq], r⟩
    obtain ⟨ns, h1, h2, h3, _⟩ := key es hp hmem
    rw [← h1]
    exact nodup_le N ns h2 h3
  obtain ⟨es', clock, hb, F, hs, hD'⟩ := hown
  refine ⟨D, ⟨es', clock, hb, F, ?_, hD'⟩, t⟩
  have := hD.symm.trans hD'
  injection this with this
  have hl := congrArg List.length this
  rw [length_read] at hl
  omega

end

section
variable {P : Program} {k e : TypeId} {κ : Type} [DecidableEq κ] (E : KeyEnc P k κ) (w : World) {ops : Array Oper} {rest : List Oper} {o : Oper} {a : Act} {Q : Exit → Act → World → Prop}

theorem wpList_imap_look (hg : o.guard = none) (m x : Operand) (t : TypeId) (hop : o.op = Op.lookup t m x true) (e : TypeId) (ht : P.underlying t = some (.map k e)) (he : P.underlying e = some (.int .i64)) (hz : (zeroValue e).run P w = .ok (.int .i64 0) w)
    (b n : Nat) (f : κ → Option Int) (hm : a.eval m = .map (some b)) (h : IMap E e w b n f) (d : κ) (hx : a.eval x = E.kv d) (hd : E.ok d)
    (hK : wpList P ops Q rest (a.put o.dst (.tuple #[.int .i64 ((f d).getD 0), .bool (f d).isSome])) w) : wpList P ops Q (o :: rest) a w := by
  obtain ⟨D, hown, hT⟩ := h
  refine wpList_lookup_own_ok_int w hg m x t hop k e .i64 E.K ht he hz b n D hm hown (E.kv d) (E.kl d) hx (E.enc d hd) (fun c hat hwc => ?_)
  rw [hT.has d hd]
  cases hf : f d with
  | some c' =>
    rw [(hT.to d c' hf).2.2] at hat
    cases hat
    rw [hf] at hK
    exact hK
  | none =>
    have hh := hT.has d hd
    rw [hf] at hh
    rw [atKey_of_not_has hh] at hat
    cases hat
    rw [hf] at hK
    exact hK
theorem wpList_imap_set (hg : o.guard = none) (m x v : Operand) (t : TypeId) (hop : o.op = Op.mapUpdate t m x v) (e : TypeId) (ht : P.underlying t = some (.map k e)) (he : P.underlying e = some (.int .i64))
    (b n : Nat) (f : κ → Option Int) (hm : a.eval m = .map (some b)) (h : IMap E e w b n f) (hn : n < maxLen) (d : κ) (c : Int) (hx : a.eval x = E.kv d) (hv : a.eval v = .int .i64 c) (hd : E.ok d) (hc : (Lit.int .i64 c).wf = true)
    (hK : ∀ w', IMap E e w' b (n + 1) (upd f d (some c)) → Keeps (fun y => y = b) w w' → wpList P ops Q rest (a.put o.dst undef) w') : wpList P ops Q (o :: rest) a w := by
  obtain ⟨D, hown, hT⟩ := h
  exact wpList_mapUpdate_own w hg m x v t hop k e E.K ht (plainElem P e) b n D hm hown hn (E.kv d) (.int .i64 c) (E.kl d) hx hv (E.enc d hd) (.lit (.int .i64 c)) [] (plainElem_int he hc)
    (fun w' h1 h2 => hK w' ⟨_, h1, hT.put hown.isMap hd hc⟩ (Keeps.one h2))
theorem wpList_imap_insert (hg : o.guard = none) (m x v : Operand) (t : TypeId) (hop : o.op = Op.insert t m x v) (e : TypeId) (ht : P.underlying t = some (.map k e)) (he : P.underlying e = some (.int .i64))
    (b n : Nat) (f : κ → Option Int) (hm : a.eval m = .map (some b)) (h : IMap E e w b n f) (hn : n < maxLen) (d : κ) (c : Int) (hx : a.eval x = E.kv d) (hv : a.eval v = .int .i64 c) (hd : E.ok d) (hc : (Lit.int .i64 c).wf = true)
    (hK : ∀ w', IMap E e w' b (n + 1) (upd f d (some c)) → Keeps (fun y => y = b) w w' → wpList P ops Q rest (a.put o.dst undef) w') : wpList P ops Q (o :: rest) a w := by
  obtain ⟨D, hown, hT⟩ := h
  refine wpList_plain hg fun K' hK' => ?_
  obtain ⟨w', hrun, r1, r2⟩ := hown.update E.K ht hn (E.enc d hd) (plainElem_int he hc)
  unfold Oper.wp
  simp [execOp, hop, hm, hx, hv, hrun, Result.andThen]
  exact hK' _ _ (hK w' ⟨_, r1, hT.put hown.isMap hd hc⟩ (Keeps.one r2))
theorem wpList_imap_len (hg : o.guard = none) (m : Operand) (t : TypeId) (hop : o.op = Op.call { callee := Callee.builtin Builtin.len, args := #[m], argTypes := #[t] }) (e : TypeId) (ht : P.underlying t = some (.map k e))
    (b n : Nat) (f : κ → Option Int) (hm : a.eval m = .map (some b)) (h : IMap E e w b n f)
    (hK : ∀ s : Nat, s ≤ n → ((0 < s) ↔ ∃ d c, f d = some c) → wpList P ops Q rest (a.put o.dst (.int .i64 s)) w) : wpList P ops Q (o :: rest) a w := by
  obtain ⟨D, hown, hT⟩ := h
  refine wpList_len_own w hg m t hop k e ht (plainElem P e) b n D hm hown (hK _ hown.size_le ?_)
  obtain ⟨es, hD, hp, hk⟩ := hown.entries E.K
  rw [hD, size_eq]
  constructor
  · intro h0
    have hmem : es[0] ∈ es := List.getElem_mem h0
    obtain ⟨d, h1, h2, h3⟩ := hT.from' es[0].1 (by rw [hD]; exact List.any_eq_true.2 ⟨_, hmem, WideAt.sameKey_self (hk _ hmem)⟩)
    obtain ⟨c, hc⟩ := Option.isSome_iff_exists.1 h3
    exact ⟨d, c, hc⟩
  · rintro ⟨d, c, hd⟩
    have := hT.has d (hT.to d c hd).1
    rw [hd, hD, has_eq] at this
    cases es with
    | nil => cases this
    | cons x r => simp
theorem IMap.len {w : World} {E : KeyEnc P k κ} {e t : TypeId} (ht : P.underlying t = some (.map k e)) {b n : Nat} {f : κ → Option Int} (h : IMap E e w b n f) :
    ∃ s : Nat, s ≤ n ∧ ((0 < s) ↔ ∃ d c, f d = some c) ∧ ∀ ty, (Builtin.len_ #[t] ty #[.map (some b)]).run P w = .ok (.int .i64 s) w := by
  obtain ⟨D, hown, hT⟩ := h
  refine ⟨_, hown.size_le, ?_, fun ty => hown.len ht ty⟩
  obtain ⟨es, hD, hp, hk⟩ := hown.entries E.K
  rw [hD, size_eq]
  constructor
  · intro h0
    have hmem : es[0] ∈ es := List.getElem_mem h0
    obtain ⟨d, h1, h2, h3⟩ := hT.from' es[0].1 (by rw [hD]; exact List.any_eq_true.2 ⟨_, hmem, WideAt.sameKey_self (hk _ hmem)⟩)
    obtain ⟨c, hc⟩ := Option.isSome_iff_exists.1 h3
    exact ⟨d, c, hc⟩
  · rintro ⟨d, c, hd⟩
    have := hT.has d (hT.to d c hd).1
    rw [hd, hD, has_eq] at this
    cases es with
    | nil => cases this
    | cons x r => simp
theorem wpList_imap_range (hg : o.guard = none) (m : Operand) (t : TypeId) (hop : o.op = Op.range t m) (e : TypeId) (ht : P.underlying t = some (.map k e))
    (b n : Nat) (f : κ → Option Int) (hm : a.eval m = .map (some b)) (h : IMap E e w b n f)
    (hK : ∀ w' cnt, IRange E e w' b w.heap.size n f (fun d => ∃ c, f d = some c) cnt → cnt ≤ n → Below w.heap.size w w' → w'.heap.size = w.heap.size + 1 → wpList P ops Q rest (a.put o.dst (.pointer (some ⟨w.heap.size, 0, none⟩))) w') : wpList P ops Q (o :: rest) a w := by
  obtain ⟨D, hown, hT⟩ := h
  refine wpList_range_own w hg m t hop k e E.K ht (plainElem P e) b n D hm hown (fun w' h1 h2 h3 => ?_)
  have hext := Keeps.none h2 (fun _ => False)
  exact hK w' _ ⟨D, _, h1, hT, fun d hd => by rw [hT.has d hd, Option.isSome_iff_exists]⟩ hown.size_le (hext.to_below (Nat.le_refl _) (fun b h => h.elim)) h3
theorem wpList_imap_next (hg : o.guard = none) (it : Operand) (hop : o.op = Op.next it false) (e : TypeId) (he : P.underlying e = some (.int .i64))
    (b r n : Nat) (f : κ → Option Int) (left : κ → Prop) (cnt : Nat) (hit : a.eval it = .pointer (some ⟨r, 0, none⟩)) (h : IRange E e w b r n f left cnt)
    (hDone : (∀ d, E.ok d → ¬ left d) → wpList P ops Q rest (a.put o.dst (.tuple #[.bool false])) w)
    (hMore : ∀ (d : κ) (c : Int) (w' : World) (cnt' : Nat), E.ok d → f d = some c → left d → IRange E e w' b r n f (fun y => left y ∧ y ≠ d) cnt' → cnt' < cnt → Keeps (fun y => y = r) w w' → w'.heap.size = w.heap.size →
      (Instr.entry (.pointer (some ⟨r, 0, none⟩))).run P w' = .ok (.tuple #[E.kv d, .int .i64 c]) w' → wpList P ops Q rest (a.put o.dst (.tuple #[.bool true, E.kv d, .int .i64 c])) w') :
    wpList P ops Q (o :: rest) a w := by
  obtain ⟨D, L, hr, hT, hL⟩ := h
  refine wpList_next_ranges w hg it hop k E.K (plainElem P e) E.kv (Value.int .i64) (fun key kl hkey => by obtain ⟨x, _, rfl⟩ := E.dec key kl hkey; exact ⟨x, rfl⟩)
    (fun v y hv => by obtain ⟨c, rfl, _⟩ := plainElem_int_inv he hv; exact ⟨c, rfl⟩) b r n D L cnt hit hr (fun _ hl => hDone (fun d hd hh => by have := (hL d hd).1 hh; rw [hl] at this; cases this)) ?_
  intro d c kl y w' cnt' hkey hlk hv hat hrg hlt hgr hsz hen
  obtain ⟨d', h1, h2, h3⟩ := E.dec' hkey
  obtain rfl := E.inj _ _ h2
  subst h3
  obtain ⟨c', ec, ey, hwc⟩ := plainElem_int_inv he hv
  cases ec
  have hf : f d = some c := by
    have hh : Maps.has D (E.kl d) = true := has_true_of_atKey hat
    rw [hT.has d h1] at hh
    obtain ⟨c', hc⟩ := Option.isSome_iff_exists.1 hh
    have := (hT.to d c' hc).2.2 .nil
    rw [hat, ey] at this
    cases this
    exact hc
  refine hMore d c w' cnt' h1 hf ((hL d h1).2 hlk) ⟨D, _, hrg, hT, fun x hx => ?_⟩ hlt (Keeps.one hgr) hsz hen
  dsimp only
  rw [hL x hx]
  simp only [Bool.and_eq_true, Bool.not_eq_true', ne_eq]
  constructor
  · rintro ⟨q1, q2⟩
    exact ⟨q1, sameKey_ne (fun e => q2 (E.klinj hx h1 e))⟩
  · rintro ⟨q1, q2⟩
    refine ⟨q1, fun e => ?_⟩
    subst e
    rw [WideAt.sameKey_self (E.isKey hx)] at q2
    cases q2
theorem wpList_imap_delete (hg : o.guard = none) (m x : Operand) (t : TypeId) (hop : o.op = Op.call { callee := Callee.builtin Builtin.delete, args := #[m, x], argTypes := #[t, k] })
    (e : TypeId) (ht : P.underlying t = some (.map k e)) (b r n : Nat) (f : κ → Option Int) (left : κ → Prop) (cnt : Nat)
    (hm : a.eval m = .map (some b)) (h : IRange E e w b r n f left cnt) (d : κ) (hx : a.eval x = E.kv d) (hd : E.ok d)
    (hK : ∀ w' cnt', IRange E e w' b r n (upd f d none) (fun y => left y ∧ y ≠ d) cnt' → cnt' ≤ cnt → Keeps (fun y => y = b) w w' → w'.heap.size = w.heap.size → wpList P ops Q rest (a.put o.dst (.tuple #[])) w') :
    wpList P ops Q (o :: rest) a w := by
  obtain ⟨D, L, hr, hT, hL⟩ := h
  refine wpList_delete_ranges w hg m x t k hop e E.K ht (plainElem P e) b r n D L cnt hm hr (E.kv d) (E.kl d) hx (E.enc d hd) (fun w' cnt' h1 h2 h3 => ?_)
  have hz : w'.heap.size = w.heap.size := by obtain ⟨es, clock, es', clock', _, rfl⟩ := h3; simp [ChangeMaps.setBlock]
  refine hK w' cnt' ⟨_, _, h1, hT.del hd, fun y hy => ?_⟩ h2 (Keeps.one h3.grown) hz
  dsimp only
  rw [hL y hy]
  simp only [Bool.and_eq_true, Bool.not_eq_true', ne_eq]
  constructor
  · rintro ⟨q1, q2⟩
    exact ⟨q1, sameKey_ne (fun e => q2 (E.klinj hy hd e))⟩
  · rintro ⟨q1, q2⟩
    refine ⟨q1, fun e => ?_⟩
    subst e
    rw [WideAt.sameKey_self (E.isKey hy)] at q2
    cases q2
end
end Go.Proofs.Ytpjlihkpnhamlaa
end

/- A struct of two ints as a key of maps. -/
section
set_option linter.unusedSimpArgs false
set_option linter.unusedVariables false
set_option linter.unusedSectionVars false
namespace Go.Proofs.Ytpjlihkpnhamlaa
open Go.RowKit Go.Shelf Go.Maps

theorem laid_try : laidOutB Try.prog = true := by kernel_rfl
theorem keyLits_int {P : Program} {d : Nat} {T : TypeId} {q : IntKind} (hT : P.underlying T = some (.int q)) {z : Value} {l : List Lit} (h : P.keyLits (d + 1) T [z] = some l) : ∃ n, z = .int q n ∧ (Lit.int q n).wf = true ∧ l = [.int q n] := by
  cases z <;> simp [Program.keyLits, hT] at h
  obtain ⟨⟨rfl, hw⟩, rfl⟩ := h
  exact ⟨_, rfl, hw, rfl⟩
section
variable {P : Program} {K : TypeId} {f0 f1 : Field} (hu : P.underlying K = some (.struct #[f0, f1])) (hkt : P.keyType K = true) (hsz : ∃ m, P.types.size = m + 2) (hc : P.cellsOf K = 2)
    (h0 : f0.name ≠ "_") (h1 : f1.name ≠ "_") (o0 : f0.offset = 0) (o1 : f1.offset = 1) (t0 : P.underlying f0.type = some (.int .i64)) (t1 : P.underlying f1.type = some (.int .i64)) (c0 : P.cellsOf f0.type = 1) (c1 : P.cellsOf f1.type = 1)
include hu hkt hsz hc h0 h1 o0 o1 t0 t1 c0 c1
theorem keyOf_two {a b : Int} (wa : (Lit.int .i64 a).wf = true) (wb : (Lit.int .i64 b).wf = true) :
    keyOf P K (.agg #[.int .i64 a, .int .i64 b]) = some (.string (keyBytes [.int .i64 a, .int .i64 b])) := by
  obtain ⟨m, hm⟩ := hsz
  unfold keyOf
  simp only [hu]
  rw [if_pos (by simp [hkt, Value.formed, hu, hc]), hm]
  unfold Program.keyLits
  simp only [hu, Value.cells]
  rw [if_pos (by simp [hc, h0, h1])]
  simp [o0, o1, c0, c1, Program.keyLits, t0, t1, wa, wb]
theorem keyOf_two_inv {v : Value} {l : Lit} (h : keyOf P K v = some l) : ∃ a b, (Lit.int .i64 a).wf = true ∧ (Lit.int .i64 b).wf = true ∧ v = .agg #[.int .i64 a, .int .i64 b] := by
  obtain ⟨m, hm⟩ := hsz
  unfold keyOf at h
  simp only [hu] at h
  split at h
  case isFalse => cases h
  case isTrue hf =>
  simp only [Bool.and_eq_true] at hf
  obtain ⟨_, hf⟩ := hf
  cases v <;> simp [Value.formed, hu] at hf
  rename_i cs
  rw [hc] at hf
  obtain ⟨x, y, rfl⟩ : ∃ x y, cs = #[x, y] := ⟨cs[0]'(by omega), cs[1]'(by omega), by
    apply Array.ext
    · simp [hf]
    · intro i h1 h2
      have : i = 0 ∨ i = 1 := by omega
      rcases this with rfl | rfl <;> rfl⟩
  rw [hm] at h
  unfold Program.keyLits at h
  simp only [hu, Value.cells] at h
  rw [if_pos (by simp [hc, h0, h1]), List.mapM_cons, List.mapM_cons, List.mapM_nil, o0, o1, c0, c1] at h
  simp only [bind, Option.bind_eq_some_iff, pure, Option.some.injEq, Option.map_eq_some_iff] at h
  obtain ⟨_, ⟨_, ⟨l0, h2, _, ⟨l1, h3, _⟩, _⟩, _⟩, _⟩ := h
  obtain ⟨a, rfl, wa, _⟩ := keyLits_int (d := m + 1) t0 h2
  obtain ⟨b, rfl, wb, _⟩ := keyLits_int (d := m + 1) t1 h3
  exact ⟨a, b, wa, wb, rfl⟩
end
end Go.Proofs.Ytpjlihkpnhamlaa
end

/- Dials as keys of maps. -/
section
set_option linter.unusedSimpArgs false
set_option linter.unusedVariables false
namespace Go.Proofs.Ytpjlihkpnhamlaa
open Go.RowKit Go.Shelf Go.Maps

instance : DecidableEq Pu.Dl := fun a b => if h : a.s = b.s ∧ a.k = b.k then isTrue (by cases a; cases b; simp_all) else isFalse (fun e => h (by rw [e]; exact ⟨rfl, rfl⟩))
theorem le_ble {a b : Nat} (h : Nat.ble a b = true) : a ≤ b := Nat.le_of_ble_eq_true h
theorem dial_keyed : Keyed Try.prog 89 := Keyed.of_law (deep_law_gate laid_try (le_ble (by kernel_rfl)) (le_ble (by kernel_rfl)) (by kernel_rfl) (by kernel_rfl))
theorem sizes2 : ∃ m, Try.prog.types.size = m + 2 := ⟨Try.prog.types.size - 2, by have : 2 ≤ Try.prog.types.size := le_ble (by kernel_rfl); omega⟩
/-- dials as keys -/
def dialE : KeyEnc Try.prog 89 Pu.Dl where
  K := dial_keyed
  kv d := .agg #[.int .i64 (d).s, .int .i64 (d).k]
  kl d := .string (keyBytes [.int .i64 d.s, .int .i64 d.k])
  ok d := (Lit.int .i64 d.s).wf = true ∧ (Lit.int .i64 d.k).wf = true
  enc d h := keyOf_two Try.underlying89 (by kernel_rfl) sizes2 (by kernel_rfl) (by decide) (by decide) rfl rfl Try.underlying3 Try.underlying3 (by kernel_rfl) (by kernel_rfl) h.1 h.2
  dec v l h := by
    obtain ⟨a, b, wa, wb, rfl⟩ := keyOf_two_inv Try.underlying89 (by kernel_rfl) sizes2 (by kernel_rfl) (by decide) (by decide) rfl rfl Try.underlying3 Try.underlying3 (by kernel_rfl) (by kernel_rfl) h
    exact ⟨⟨a, b⟩, ⟨wa, wb⟩, rfl⟩
  inj d d' h := by
    cases d; cases d'
    simp at h
    rw [h.1, h.2]
theorem dialE_kv (d : Pu.Dl) : dialE.kv d = .agg #[.int .i64 (d).s, .int .i64 (d).k] := rfl
theorem dialE_ok {d : Pu.Dl} (h0 : -1000000000 ≤ d.s) (h1 : d.s ≤ 1000000000) (h2 : -1000000000 ≤ d.k) (h3 : d.k ≤ 1000000000) : dialE.ok d :=
  ⟨WalkArith.wf_i64 ⟨by omega, by omega⟩, WalkArith.wf_i64 ⟨by omega, by omega⟩⟩
theorem zero_int (w : World) : (zeroValue 3).run Try.prog w = .ok (.int .i64 0) w := by kernel_rfl
end Go.Proofs.Ytpjlihkpnhamlaa
end

/- The walk of pulse.costs.add. -/
section
set_option linter.unusedSimpArgs false
set_option linter.unusedVariables false
namespace Go.Proofs.Ytpjlihkpnhamlaa
open Go.RowKit Go.Shelf Go.Maps

namespace Pu
/-- costs with one dial more, if it costs less -/
def addF (f : Dl → Option Int) (d : Dl) (c : Int) : Dl → Option Int := if c ≤ 20 ∧ (∀ old, f d = some old → c < old) then upd f d (some c) else f
end Pu
def AddPost (b n : Nat) (f : Pu.Dl → Option Int) (d : Pu.Dl) (c : Int) (w : World) (e : Ending) (w' : World) : Prop :=
  e = .returned (.tuple #[]) ∧ Keeps (fun y => y = b) w w' ∧ IMap dialE 3 w' b (n + 1) (Pu.addF f d c)

set_option maxHeartbeats 400000 in
theorem add_any (b n : Nat) (f : Pu.Dl → Option Int) (s k c : Int) (w : World) (h : IMap dialE 3 w b n f) (hn : n < maxLen) (hd : dialE.ok ⟨s, k⟩) (hc : (Lit.int .i64 c).wf = true) :
    Calls Try.prog 59 #[.map (some b), .agg #[.int .i64 s, .int .i64 k], .int .i64 c] w (AddPost b n f ⟨s, k⟩ c w) := by
  have hlt := h.lt
  have H := Lib.hid (h.alloc (.cells #[.int .i64 s, .int .i64 k] 89)); clear h
  have HN := Lib.hid hn; clear hn
  have HD := Lib.hid hd; clear hd
  have HC := Lib.hid hc; clear hc
  have K0 := Lib.hid (Keeps.alloc (fun y => y = b) w (.cells #[.int .i64 s, .int .i64 k] 89))
  obtain ⟨fd, hfd⟩ : ∃ fd, f ⟨s, k⟩ = fd := ⟨_, rfl⟩
  have HF := Lib.hid hfd
  go_enter Try.func59, Try.ntmps59
  cases fd
  all_goals (
    go_wp2_with (first
      | (at_lookup; refine wpList_imap_look dialE _ rfl _ _ 95 rfl 3 Try.underlying95 Try.underlying3 (zero_int _) b n f rfl H.out ⟨s, k⟩ rfl HD.out ?_)
      | (at_mapUpdate; refine wpList_imap_set dialE _ rfl _ _ _ 95 rfl 3 Try.underlying95 Try.underlying3 b n f rfl H.out HN.out ⟨s, k⟩ c rfl rfl HD.out HC.out ?_; intro w1 hm1 hk1))
    all_goals go_end0)
  all_goals (have hf := HF.out; refine ⟨rfl, ?_⟩; unfold Pu.addF)
  all_goals (first
    | (rw [if_pos (by refine ⟨by omega, fun old h => ?_⟩; rw [hf] at h; first | (simp at h; done) | (cases h; assumption))]; exact ⟨K0.out.trans hk1, hm1⟩)
    | (rw [if_neg (by rintro ⟨h1, h2⟩; first | omega | (have := h2 _ hf; omega))]; exact ⟨K0.out, H.out.mono (by omega)⟩))
end Go.Proofs.Ytpjlihkpnhamlaa
end

/- The walk of pulse.line.after: the costs behind the impulse of a minute. -/
section
set_option linter.unusedSimpArgs false
set_option linter.unusedVariables false
namespace Go.Proofs.Ytpjlihkpnhamlaa
open Go.RowKit Go.Shelf Go.Maps

namespace Pu
/-- the least costs of what can be, up to 20 -/
def MinOf (R : Dl → Int → Prop) (g : Dl → Option Int) : Prop := ∀ d, (∀ c, g d = some c → R d c ∧ c ≤ 20) ∧ (∀ c, R d c → c ≤ 20 → ∃ c', g d = some c' ∧ c' ≤ c)
theorem MinOf.iff {R R' : Dl → Int → Prop} {g : Dl → Option Int} (h : MinOf R g) (hR : ∀ d c, R d c ↔ R' d c) : MinOf R' g :=
  fun d => ⟨fun c hc => ⟨(hR d c).1 ((h d).1 c hc).1, ((h d).1 c hc).2⟩, fun c hc h20 => (h d).2 c ((hR d c).2 hc) h20⟩
theorem MinOf.add {R : Dl → Int → Prop} {g : Dl → Option Int} (h : MinOf R g) (d : Dl) (c : Int) : MinOf (fun y x => R y x ∨ (y = d ∧ x = c)) (addF g d c) := by
  intro y
  obtain ⟨h1, h2⟩ := h y
  unfold addF
  split
  · rename_i hc
    unfold upd
    by_cases q : y = d
    · subst q
      simp only [if_true]
      refine ⟨fun x hx => by cases hx; exact ⟨.inr (by simp), hc.1⟩, fun x hx h20 => ⟨c, rfl, ?_⟩⟩
      rcases hx with hx | hx
      · obtain ⟨x', h3, h4⟩ := h2 x hx h20
        have := hc.2 x' h3
        omega
      · omega
    · simp only [if_neg q]
      refine ⟨fun x hx => ⟨.inl (h1 x hx).1, (h1 x hx).2⟩, fun x hx h20 => ?_⟩
      rcases hx with hx | hx
      · exact h2 x hx h20
      · exact absurd hx.1 q
  · rename_i hc
    refine ⟨fun x hx => ⟨.inl (h1 x hx).1, (h1 x hx).2⟩, fun x hx h20 => ?_⟩
    rcases hx with hx | ⟨rfl, rfl⟩
    · exact h2 x hx h20
    · by_cases q : ∃ old, g y = some old ∧ old ≤ x
      · exact q
      · exact absurd ⟨h20, fun old ho => by
          rcases Int.lt_or_le x old with h | h
          · exact h
          · exact absurd ⟨old, ho, h⟩ q⟩ hc
/-- what a dial can be behind the impulse of a minute, if it was one of some -/
def Contrib (l : Ln) (t : Int) (f : Dl → Option Int) (on : Dl → Prop) (d' : Dl) (c' : Int) : Prop :=
  ∃ d c, f d = some c ∧ on d ∧ ((d' = imp l t 1 d ∧ c' = c) ∨ (isLong l t = false ∧ c' = c + 1 ∧ (d' = imp l t 0 d ∨ d' = imp l t 2 d)))
theorem contrib_long {l : Ln} {t : Int} {f : Dl → Option Int} {left : Dl → Prop} {g : Dl → Option Int} {d : Dl} {x : Int} (h : MinOf (Contrib l t f (fun y => ¬ left y)) g) (hf : f d = some x) (hl : isLong l t = true) :
    MinOf (Contrib l t f (fun y => ¬(left y ∧ y ≠ d))) (addF g (imp l t 1 d) x) := by
  refine (h.add _ _).iff fun d' c' => ?_
  unfold Contrib
  constructor
  · rintro (⟨y, c, h1, h2, h3⟩ | ⟨rfl, rfl⟩)
    · exact ⟨y, c, h1, fun q => h2 q.1, h3⟩
    · exact ⟨d, _, hf, fun q => q.2 rfl, .inl ⟨rfl, rfl⟩⟩
  · rintro ⟨y, c, h1, h2, h3⟩
    by_cases q : y = d
    · subst q
      rw [hf] at h1; cases h1
      rcases h3 with h3 | ⟨h3, _⟩
      · exact .inr h3
      · rw [hl] at h3; cases h3
    · exact .inl ⟨y, c, h1, fun q' => h2 ⟨q', q⟩, h3⟩
theorem contrib_short {l : Ln} {t : Int} {f : Dl → Option Int} {left : Dl → Prop} {g : Dl → Option Int} {d : Dl} {x : Int} (h : MinOf (Contrib l t f (fun y => ¬ left y)) g) (hf : f d = some x) (hl : isLong l t = false) :
    MinOf (Contrib l t f (fun y => ¬(left y ∧ y ≠ d))) (addF (addF (addF g (imp l t 1 d) x) (imp l t 0 d) (x + 1)) (imp l t 2 d) (x + 1)) := by
  refine (((h.add _ _).add _ _).add _ _).iff fun d' c' => ?_
  unfold Contrib
  constructor
  · rintro (((⟨y, c, h1, h2, h3⟩ | ⟨rfl, rfl⟩) | ⟨rfl, rfl⟩) | ⟨rfl, rfl⟩)
    · exact ⟨y, c, h1, fun q => h2 q.1, h3⟩
    · exact ⟨d, _, hf, fun q => q.2 rfl, .inl ⟨rfl, rfl⟩⟩
    · exact ⟨d, _, hf, fun q => q.2 rfl, .inr ⟨hl, rfl, .inl rfl⟩⟩
    · exact ⟨d, _, hf, fun q => q.2 rfl, .inr ⟨hl, rfl, .inr rfl⟩⟩
  · rintro ⟨y, c, h1, h2, h3⟩
    by_cases q : y = d
    · subst q
      rw [hf] at h1; cases h1
      rcases h3 with h3 | ⟨_, h4, h3 | h3⟩
      · exact .inl (.inl (.inr h3))
      · exact .inl (.inr ⟨h3, h4⟩)
      · exact .inr ⟨h3, h4⟩
    · exact .inl (.inl (.inl ⟨y, c, h1, fun q' => h2 ⟨q', q⟩, h3⟩))
end Pu

/-- what holds on the way through the range -/
structure AftI (w : World) (r e c : Int) (b n : Nat) (f : Pu.Dl → Option Int) (left : Pu.Dl → Prop) (cnt m : Nat) (g : Pu.Dl → Option Int) (W : World) : Prop where
  low : Below w.heap.size w W
  ln : Blk W w.heap.size #[.int .i64 r, .int .i64 e, .int .i64 c] 81
  rg : IRange dialE 3 W b (w.heap.size + 1 + 1) n f left cnt
  mp : IMap dialE 3 W (w.heap.size + 1) m g
theorem AftI.below {w : World} {r e c : Int} {b n : Nat} {f : Pu.Dl → Option Int} {left : Pu.Dl → Prop} {cnt m : Nat} {g : Pu.Dl → Option Int} {W W' : World} (h : AftI w r e c b n f left cnt m g W) (hb : Below W.heap.size W W') : AftI w r e c b n f left cnt m g W' :=
  ⟨h.low.trans (hb.mono h.low.size), h.ln.below hb, h.rg.below hb, h.mp.below hb⟩
theorem AftI.add {w : World} {r e c : Int} {b n : Nat} {f : Pu.Dl → Option Int} {left : Pu.Dl → Prop} {cnt m m' : Nat} {g g' : Pu.Dl → Option Int} {W W' : World} (h : AftI w r e c b n f left cnt m g W) (hb : b < w.heap.size) (hk : Keeps (fun y => y = w.heap.size + 1) W W') (hm : IMap dialE 3 W' (w.heap.size + 1) m' g') : AftI w r e c b n f left cnt m' g' W' :=
  ⟨h.low.trans (hk.to_below h.low.size (fun b hb => by omega)), hk.blk h.ln (by omega), h.rg.keeps hk (by omega) (by omega), hm⟩
theorem AftI.next {w : World} {r e c : Int} {b n : Nat} {f : Pu.Dl → Option Int} {left left' : Pu.Dl → Prop} {cnt cnt' m : Nat} {g : Pu.Dl → Option Int} {W W' : World} (h : AftI w r e c b n f left cnt m g W) (hk : Keeps (fun y => y = w.heap.size + 1 + 1) W W') (hr : IRange dialE 3 W' b (w.heap.size + 1 + 1) n f left' cnt') : AftI w r e c b n f left' cnt' m g W' :=
  ⟨h.low.trans (hk.to_below h.low.size (fun b hb => by omega)), hk.blk h.ln (by omega), hr, h.mp.keeps hk (by omega)⟩
theorem AftI.iff {w : World} {r e c : Int} {b n : Nat} {f : Pu.Dl → Option Int} {left left' : Pu.Dl → Prop} {cnt m : Nat} {g : Pu.Dl → Option Int} {W : World} (h : AftI w r e c b n f left cnt m g W) (hl : ∀ d, dialE.ok d → (left d ↔ left' d)) : AftI w r e c b n f left' cnt m g W :=
  ⟨h.low, h.ln, h.rg.iff hl, h.mp⟩

def AfterPost (r e c t : Int) (n : Nat) (f : Pu.Dl → Option Int) (w : World) (en : Ending) (w' : World) : Prop :=
  ∃ b' g, en = .returned (.map (some b')) ∧ w.heap.size ≤ b' ∧ Below w.heap.size w w' ∧ IMap dialE 3 w' b' (3 * n) g ∧ Pu.MinOf (Pu.Contrib ⟨r, e, c⟩ t f (fun _ => True)) g
def AfterRel (w : World) (r e c t : Int) (b n : Nat) (f : Pu.Dl → Option Int) (W : World) : Prop :=
  ∃ left cnt m g, AftI w r e c b n f left cnt m g W ∧ m + 3 * cnt ≤ 3 * n ∧ Pu.MinOf (Pu.Contrib ⟨r, e, c⟩ t f (fun d => ¬ left d)) g

set_option maxHeartbeats 1000000 in
theorem after_any (r e c t : Int) (b n : Nat) (f : Pu.Dl → Option Int) (w : World) (hl : (Pu.Ln.mk r e c).ok) (ht : 0 ≤ t) (h : IMap dialE 3 w b n f) (hn : 3 * n < 140737488355327) (hf : ∀ d x, f d = some x → d.ok 400000 ∧ 0 ≤ x ∧ x ≤ 20) :
    Calls Try.prog 47 #[.agg #[.int .i64 r, .int .i64 e, .int .i64 c], .map (some b), .int .i64 t] w (AfterPost r e c t n f w) := by
  have hlt := h.lt
  have H := Lib.hid h; clear h
  have HF := Lib.hid hf; clear hf
  have HL := Lib.hid hl; clear hl
  have hmm := @run_makeMap Try.prog
  have h3 : 0 < n ∨ n = 0 := by omega
  go_enter Try.func47, Try.ntmps47
  go_wp2_with (at_range; refine wpList_imap_range dialE _ rfl _ 95 rfl 3 Try.underlying95 b n f rfl ((H.out.alloc _).alloc _) ?_; intro w0 cnt0 hrg0 hcn0 hb0 hs0)
  have hz1 : ((w.alloc (.cells #[.int .i64 r, .int .i64 e, .int .i64 c] 81)).alloc (.map #[] 0)).heap.size = w.heap.size + 1 + 1 := by simp
  rw [hz1] at hrg0 hb0 ⊢
  have A0 : AftI w r e c b n f (fun d => ∃ c, f d = some c) cnt0 0 (fun _ => none) w0 := by
    refine ⟨Below.trans (b := _) (by repeat first | exact Below.refl _ _ | assumption | (refine Below.alloc ?_ (by first | omega | (simp; done) | (simp; omega)) _) | (refine Below.setCell ?_ (by first | omega | (simp; done) | (simp; omega)) _) | (refine Below.drew ?_) | (refine belowDrewN ?_) | (refine Below.trans ?_ (Below.mono (by assumption) (by first | omega | (simp; done) | (simp; omega))))) (Below.mono hb0 (by omega)), (hb0.block w.heap.size (by omega)).trans (by repeat first | exact blk_at (by first | rfl | omega | (simp; done) | (simp; omega)) | assumption | refine Blk.alloc ?_ _ | refine Blk.drew ?_ | refine Blk.drewN ?_ _ | (refine Blk.other ?_ _ (by first | omega | (simp; done) | (simp; omega))) | (refine Blk.below ?_ (by assumption))), hrg0, ?_⟩
    have := IMap.made (e := 3) dialE (w.alloc (.cells #[.int .i64 r, .int .i64 e, .int .i64 c] 81))
    rw [show (w.alloc (.cells #[.int .i64 r, .int .i64 e, .int .i64 c] 81)).heap.size = w.heap.size + 1 by simp] at this
    exact this.of_heap (hb0.block _ (by omega))
  have R0 : AfterRel w r e c t b n f w0 := ⟨_, _, 0, _, A0, by omega, fun d => ⟨fun x hx => (by cases hx), fun x hx => by
    obtain ⟨d', y, h1, h2, _⟩ := hx
    exact absurd ⟨y, h1⟩ h2⟩⟩
  clear A0 hrg0 hb0 hs0 hz1 hcn0
  go_frame
  go_loopw [9] (fun _ wr => AfterRel w r e c t b n f wr) (fun _ wr => wr.rangeLeft b (w.heap.size + 1 + 1))
  case atStart => exact R0
  case round =>
    obtain ⟨left, cnt, m, g, A, hmc, hmin⟩ := hrel
    have HA := Lib.hid A; have HM := Lib.hid hmin
    clear A R0 hmin
    go_wp2_with (at_next; refine wpList_imap_next dialE _ rfl _ rfl 3 Try.underlying3 b (w.heap.size + 1 + 1) n f left cnt rfl HA.out.rg ?_ ?_)
    · intro hdone
      go_wp2_with fail
      go_ret
      have A := HA.out
      refine ⟨_, g, rfl, by omega, A.low, A.mp.mono (by omega), HM.out.iff fun d' c' => ?_⟩
      unfold Pu.Contrib
      constructor
      · rintro ⟨d, y, h1, _, h2⟩; exact ⟨d, y, h1, trivial, h2⟩
      · rintro ⟨d, y, h1, _, h2⟩; exact ⟨d, y, h1, hdone d (A.rg.owns.ok h1).1, h2⟩
    · intro d x w2 cnt2 hd hfd hld hrg2 hlt2 hk2 hs2 hen
      obtain ⟨s, k⟩ := d
      obtain ⟨⟨x0, x1, x2, x3⟩, x4, x5⟩ := HF.out _ _ hfd
      dsimp only at x0 x1 x2 x3
      simp only [dialE_kv] at hen ⊢
      have A2 := HA.out.next hk2 hrg2
      have o1 := Pu.imp_ok (l := ⟨r, e, c⟩) (t := t) (m := 1) (d := ⟨s, k⟩) (B := 400000) ⟨x0, x1, x2, x3⟩ (by omega)
      have o0 := Pu.imp_ok (l := ⟨r, e, c⟩) (t := t) (m := 0) (d := ⟨s, k⟩) (B := 400000) ⟨x0, x1, x2, x3⟩ (by omega)
      have o2 := Pu.imp_ok (l := ⟨r, e, c⟩) (t := t) (m := 2) (d := ⟨s, k⟩) (B := 400000) ⟨x0, x1, x2, x3⟩ (by omega)
      have I1 : Hid (∀ W, Calls Try.prog 57 #[.agg #[.int .i64 r, .int .i64 e, .int .i64 c], .agg #[.int .i64 s, .int .i64 k], .int .i64 t, .int .i64 1] W (Ret W (.agg #[.int .i64 (Pu.imp ⟨r, e, c⟩ t 1 ⟨s, k⟩).s, .int .i64 (Pu.imp ⟨r, e, c⟩ t 1 ⟨s, k⟩).k]))) := Lib.hid (fun W => impulse_any r e c s k t 1 W HL.out ht (by omega) x0 x1 x2 (by omega))
      have I0 : Hid (∀ W, Calls Try.prog 57 #[.agg #[.int .i64 r, .int .i64 e, .int .i64 c], .agg #[.int .i64 s, .int .i64 k], .int .i64 t, .int .i64 0] W (Ret W (.agg #[.int .i64 (Pu.imp ⟨r, e, c⟩ t 0 ⟨s, k⟩).s, .int .i64 (Pu.imp ⟨r, e, c⟩ t 0 ⟨s, k⟩).k]))) := Lib.hid (fun W => impulse_any r e c s k t 0 W HL.out ht (by omega) x0 x1 x2 (by omega))
      have I2 : Hid (∀ W, Calls Try.prog 57 #[.agg #[.int .i64 r, .int .i64 e, .int .i64 c], .agg #[.int .i64 s, .int .i64 k], .int .i64 t, .int .i64 2] W (Ret W (.agg #[.int .i64 (Pu.imp ⟨r, e, c⟩ t 2 ⟨s, k⟩).s, .int .i64 (Pu.imp ⟨r, e, c⟩ t 2 ⟨s, k⟩).k]))) := Lib.hid (fun W => impulse_any r e c s k t 2 W HL.out ht (by omega) x0 x1 x2 (by omega))
      have IL := Lib.hid (fun W => isLong_any r e c t W HL.out ht)
      obtain ⟨D1, hD1⟩ : ∃ D, Pu.imp ⟨r, e, c⟩ t 1 ⟨s, k⟩ = D := ⟨_, rfl⟩
      obtain ⟨D0, hD0⟩ : ∃ D, Pu.imp ⟨r, e, c⟩ t 0 ⟨s, k⟩ = D := ⟨_, rfl⟩
      obtain ⟨D2, hD2⟩ : ∃ D, Pu.imp ⟨r, e, c⟩ t 2 ⟨s, k⟩ = D := ⟨_, rfl⟩
      obtain ⟨lg, hlg⟩ : ∃ lg, Pu.isLong ⟨r, e, c⟩ t = lg := ⟨_, rfl⟩
      rw [hD1] at I1 o1; rw [hD0] at I0 o0; rw [hD2] at I2 o2; rw [hlg] at IL
      have E1 := Lib.hid hD1; have E0 := Lib.hid hD0; have E2 := Lib.hid hD2; have EL := Lib.hid hlg; have HX := Lib.hid hfd
      clear hD1 hD0 hD2 hlg hfd
      have k1 : dialE.ok D1 := dialE_ok (by have := o1.1; omega) (by have := o1.2.1; omega) (by have := o1.2.2.1; omega) (by have := o1.2.2.2; omega)
      have k0 : dialE.ok D0 := dialE_ok (by have := o0.1; omega) (by have := o0.2.1; omega) (by have := o0.2.2.1; omega) (by have := o0.2.2.2; omega)
      have k2 : dialE.ok D2 := dialE_ok (by have := o2.1; omega) (by have := o2.2.1; omega) (by have := o2.2.2.1; omega) (by have := o2.2.2.2; omega)
      clear o0 o1 o2
      obtain ⟨s1, j1⟩ := D1; obtain ⟨s0, j0⟩ := D0; obtain ⟨s2, j2⟩ := D2
      dsimp only at I1 I0 I2
      have hb1' : w.heap.size + 1 < w2.heap.size := A2.mp.lt
      clear hs2
      have hlw : w.heap.size < w2.heap.size := by omega
      have l0 := A2.ln.cell 0 rfl; have l1 := A2.ln.cell 1 rfl; have l2 := A2.ln.cell 2 rfl
      go_wp2_with fail
      refine calls_name ?_
      intro W hW
      have BX : Blk W w2.heap.size #[.int .i64 s, .int .i64 k] 89 := by rw [hW]; exact (by repeat first | exact blk_at (by first | rfl | omega | (simp; done) | (simp; omega)) | assumption | refine Blk.alloc ?_ _ | refine Blk.drew ?_ | refine Blk.drewN ?_ _ | (refine Blk.other ?_ _ (by first | omega | (simp; done) | (simp; omega))) | (refine Blk.below ?_ (by assumption)))
      have A3 := A2.below (W' := W) (by rw [hW]; exact (by repeat first | exact Below.refl _ _ | assumption | (refine Below.alloc ?_ (by first | omega | (simp; done) | (simp; omega)) _) | (refine Below.setCell ?_ (by first | omega | (simp; done) | (simp; omega)) _) | (refine Below.drew ?_) | (refine belowDrewN ?_) | (refine Below.trans ?_ (Below.mono (by assumption) (by first | omega | (simp; done) | (simp; omega))))))
      clear hW A2 hen hrg2 l0 l1 l2
      refine (I1.out W).mono ?_
      rintro e w1 ⟨rfl, hb1⟩; obtain ⟨hc1, hf1, hs1⟩ := bcell hb1; have hz1 := hb1.size; (try simp at hz1)
      have A4 := A3.below hb1; have B4 := BX.below hb1
      clear hc1 hf1 hs1 A3 BX
      go_wp2_with fail
      refine (add_any (w.heap.size + 1) m g s1 j1 x w1 A4.mp (by unfold maxLen; omega) k1 (WalkArith.wf_i64 ⟨by omega, by omega⟩)).mono ?_
      rintro en w3 ⟨rfl, hk3, hm3⟩
      have A5 := A4.add hlt hk3 hm3; have B5 := hk3.blk B4 (by omega)
      clear A4 B4 hk3 hm3 hb1 hz1
      have c0 := A5.ln.cell 0 rfl; have c1 := A5.ln.cell 1 rfl; have c2 := A5.ln.cell 2 rfl
      go_wp2_with fail
      refine (IL.out w3).mono ?_
      rintro e w1 ⟨rfl, hb1⟩; obtain ⟨hc1, hf1, hs1⟩ := bcell hb1; have hz1 := hb1.size; (try simp at hz1)
      have A6 := A5.below hb1; have B6 := B5.below hb1
      clear A5 B5 hc1 hf1 hs1 c0 c1 c2 hb1
      cases lg
      · have c0 := A6.ln.cell 0 rfl; have c1 := A6.ln.cell 1 rfl; have c2 := A6.ln.cell 2 rfl
        have c3 := B6.cell 0 rfl; have c4 := B6.cell 1 rfl
        go_wp2_with fail
        refine (I0.out w1).mono ?_
        rintro e w1 ⟨rfl, hb1⟩; obtain ⟨hc1, hf1, hs1⟩ := bcell hb1; have hz1 := hb1.size; (try simp at hz1)
        have A7 := A6.below hb1; have B7 := B6.below hb1
        clear A6 B6 hc1 hf1 hs1 hb1 c0 c1 c2 c3 c4
        go_wp2_with fail
        refine (add_any (w.heap.size + 1) (m + 1) _ s0 j0 (x + 1) w1 A7.mp (by unfold maxLen; omega) k0 (WalkArith.wf_i64 ⟨by omega, by omega⟩)).mono ?_
        rintro en w4 ⟨rfl, hk4, hm4⟩
        have A8 := A7.add hlt hk4 hm4; have B8 := hk4.blk B7 (by omega)
        clear A7 B7 hk4 hm4 hz1
        have c0 := A8.ln.cell 0 rfl; have c1 := A8.ln.cell 1 rfl; have c2 := A8.ln.cell 2 rfl
        have c3 := B8.cell 0 rfl; have c4 := B8.cell 1 rfl
        go_wp2_with fail
        refine (I2.out w4).mono ?_
        rintro e w1 ⟨rfl, hb1⟩; obtain ⟨hc1, hf1, hs1⟩ := bcell hb1; have hz1 := hb1.size; (try simp at hz1)
        have A9 := A8.below hb1; have B9 := B8.below hb1
        clear A8 B8 hc1 hf1 hs1 hb1 c0 c1 c2 c3 c4
        go_wp2_with fail
        refine (add_any (w.heap.size + 1) (m + 1 + 1) _ s2 j2 (x + 1) w1 A9.mp (by unfold maxLen; omega) k2 (WalkArith.wf_i64 ⟨by omega, by omega⟩)).mono ?_
        rintro en w5 ⟨rfl, hk5, hm5⟩
        have A10 := A9.add hlt hk5 hm5
        clear A9 B9 hk5 hm5 hz1
        go_wp2_with fail
        have hfin := Pu.contrib_short HM.out HX.out EL.out
        rw [E1.out, E0.out, E2.out] at hfin
        exact ⟨⟨_, cnt2, _, _, A10, by omega, hfin⟩, by rw [A10.rg.left_eq, HA.out.rg.left_eq]; exact hlt2⟩
      · go_wp2_with fail
        have hfin := Pu.contrib_long HM.out HX.out EL.out
        rw [E1.out] at hfin
        exact ⟨⟨_, cnt2, _, _, A6, by omega, hfin⟩, by rw [A6.rg.left_eq, HA.out.rg.left_eq]; exact hlt2⟩
end Go.Proofs.Ytpjlihkpnhamlaa
end

/- The walks of the checks of what was seen: pulse's and the reference's. -/
section
set_option linter.unusedSimpArgs false
set_option linter.unusedVariables false
namespace Go.Proofs.Ytpjlihkpnhamlaa
open Go.RowKit Go.Shelf

namespace Pu
def chkSn (f : Int) : Int → List (Int × Int) → Bool
  | _, [] => true
  | l, x :: rest => (decide (l + 1 ≤ x.1 ∧ x.1 ≤ f + 5000) && decide (0 ≤ x.2 ∧ x.2 ≤ 719)) && chkSn f x.1 rest
def seenErr (f : Int) (fs : List (Int × Int)) : Int := if 40 < fs.length then 5 else if chkSn f f fs = true then 0 else 2
theorem chkSn_false {f v : Int} {x : Int × Int} {rest : List (Int × Int)} (h : ¬(v + 1 ≤ x.1 ∧ x.1 ≤ f + 5000) ∨ ¬(0 ≤ x.2 ∧ x.2 ≤ 719)) : chkSn f v (x :: rest) = false := by
  rw [chkSn]
  rcases h with h | h
  · rw [decide_eq_false h]; simp
  · rw [decide_eq_false h]; simp
theorem chkSn_true {f v : Int} {x : Int × Int} {rest : List (Int × Int)} (h1 : v + 1 ≤ x.1 ∧ x.1 ≤ f + 5000) (h2 : 0 ≤ x.2 ∧ x.2 ≤ 719) : chkSn f v (x :: rest) = chkSn f x.1 rest := by
  rw [chkSn, decide_eq_true h1, decide_eq_true h2]; simp
theorem seen_two {f : Int} {fs : List (Int × Int)} (hl : ¬ 40 < fs.length) (h : chkSn f f fs = false) : (2 : Int) = seenErr f fs := by simp [seenErr, hl, h]
theorem seen_zero {f : Int} {fs : List (Int × Int)} (hl : ¬ 40 < fs.length) (h : chkSn f f fs = true) : (0 : Int) = seenErr f fs := by simp [seenErr, hl, h]
end Pu

set_option maxHeartbeats 1000000 in
theorem checkSeen_any (f : Int) (a : Option Addr) (cp : Nat) (fs : List (Int × Int)) (w : World) (hf : IsPairs w a fs) (f0 : 0 ≤ f) (f1 : f ≤ 1000000) :
    Calls Try.prog 46 #[.slice a fs.length cp, .int .i64 f] w (Ret w (.int .i64 (Pu.seenErr f fs))) := by
  have hlen := hf.1
  have HZ := Lib.hid hf; clear hf
  obtain ⟨v, hv⟩ : ∃ v, v = Pu.seenErr f fs := ⟨_, rfl⟩
  rw [← hv]
  have HV := Lib.hid hv; clear hv
  by_cases hl : 40 < fs.length
  · go_enter Try.func46, Try.ntmps46
    go_wp2
    go_ret
    exact ret_int (by rw [HV.out]; simp [Pu.seenErr, hl]) (by repeat first | exact Below.refl _ _ | assumption | (refine Below.alloc ?_ (by first | omega | (simp; done) | (simp; omega)) _) | (refine Below.setCell ?_ (by first | omega | (simp; done) | (simp; omega)) _) | (refine Below.drew ?_) | (refine belowDrewN ?_) | (refine Below.trans ?_ (Below.mono (by assumption) (by first | omega | (simp; done) | (simp; omega)))))
  · go_enter Try.func46, Try.ntmps46
    go_wp2_with fail
    go_loopw [14, 5] (fun i g wr => ∃ (k : Nat) (v : Int), k ≤ fs.length ∧ i = .int .i64 k ∧ g = .int .i64 v ∧ 0 ≤ v ∧ v ≤ 2000000 ∧ Pu.chkSn f f fs = Pu.chkSn f v (fs.drop k) ∧ Below w.heap.size w wr) (fun i _ _ => fs.length - (intOf i).toNat)
    case atStart => exact ⟨0, f, Nat.zero_le _, rfl, rfl, f0, by omega, rfl, Below.refl _ _⟩
    case round =>
      obtain ⟨k, v, hk, rfl, rfl, v0, v1, hch, hb⟩ := hrel
      have hzw := hb.size
      by_cases hlt : k < fs.length
      · obtain ⟨b, o, rfl, hbl, hc, hd⟩ := (HZ.out.below hb).2 k hlt
        rw [List.drop_eq_getElem_cons hlt] at hch
        have HCH := Lib.hid hch; clear hch
        have hbla := Nat.lt_succ_of_lt hbl; have hblb := Nat.lt_succ_of_lt hbla; have hblc := Nat.lt_succ_of_lt hblb; have hbld := Nat.lt_succ_of_lt hblc; simp only [Nat.succ_eq_add_one] at hbla hblb hblc hbld
        have zz1 : wr.heap.size < wr.heap.size + 1 := (by omega); have zz2 : wr.heap.size < wr.heap.size + 1 + 1 := (by omega); have zz3 : wr.heap.size < wr.heap.size + 1 + 1 + 1 := (by omega); have zz4 : wr.heap.size < wr.heap.size + 1 + 1 + 1 + 1 := (by omega)
        generalize fs[k] = x at *
        obtain ⟨xa, xs⟩ := x
        dsimp only at hc hd HCH
        by_cases q : v + 1 ≤ xa ∧ xa ≤ f + 5000
        · have qb : btw (v + 1) (f + 5000) xa = true := btw_iff.2 q
          obtain ⟨q1, q2⟩ := q
          cases q3 : btw 0 719 xs
          all_goals
            go_wp2_with (first | ((go_at_call 38; refine (within_new (by first | omega | (simp; done) | (simp; omega))).mono ?_; rintro e w1 ⟨rfl, hb1⟩; obtain ⟨hc1, hf1, hs1⟩ := bcell hb1; have hz1 := hb1.size; (try simp at hz1)); have t1 : wr.heap.size < w1.heap.size := (by omega)) | (go_at_call 37; refine (isShown_any _ _).mono ?_; rintro e w1 ⟨rfl, hb1⟩; obtain ⟨hc1, hf1, hs1⟩ := bcell hb1; have hz1 := hb1.size; (try simp at hz1)))
          · go_ret
            exact ret_int (by rw [HV.out]; exact Pu.seen_two hl (HCH.out.trans (Pu.chkSn_false (.inr (btw_not'.1 q3))))) (by repeat first | exact Below.refl _ _ | assumption | (refine Below.alloc ?_ (by first | omega | (simp; done) | (simp; omega)) _) | (refine Below.setCell ?_ (by first | omega | (simp; done) | (simp; omega)) _) | (refine Below.drew ?_) | (refine belowDrewN ?_) | (refine Below.trans ?_ (Below.mono (by assumption) (by first | omega | (simp; done) | (simp; omega)))))
          · exact ⟨⟨k + 1, xa, by omega, by go_num, rfl, by omega, by omega, HCH.out.trans (Pu.chkSn_true ⟨q1, q2⟩ (btw_iff.1 q3)), (by repeat first | exact Below.refl _ _ | assumption | (refine Below.alloc ?_ (by first | omega | (simp; done) | (simp; omega)) _) | (refine Below.setCell ?_ (by first | omega | (simp; done) | (simp; omega)) _) | (refine Below.drew ?_) | (refine belowDrewN ?_) | (refine Below.trans ?_ (Below.mono (by assumption) (by first | omega | (simp; done) | (simp; omega)))))⟩, by simp [intOf]; omega⟩
        · have qb : btw (v + 1) (f + 5000) xa = false := btw_not'.2 q
          have HQ := Lib.hid q; clear q
          go_wp2_with (go_at_call 38; refine (within_new (by first | omega | (simp; done) | (simp; omega))).mono ?_; rintro e w1 ⟨rfl, hb1⟩; obtain ⟨hc1, hf1, hs1⟩ := bcell hb1; have hz1 := hb1.size; (try simp at hz1))
          go_ret
          exact ret_int (by rw [HV.out]; exact Pu.seen_two hl (HCH.out.trans (Pu.chkSn_false (.inl HQ.out)))) (by repeat first | exact Below.refl _ _ | assumption | (refine Below.alloc ?_ (by first | omega | (simp; done) | (simp; omega)) _) | (refine Below.setCell ?_ (by first | omega | (simp; done) | (simp; omega)) _) | (refine Below.drew ?_) | (refine belowDrewN ?_) | (refine Below.trans ?_ (Below.mono (by assumption) (by first | omega | (simp; done) | (simp; omega)))))
      · have hk' : k = fs.length := by omega
        have HCH := Lib.hid hch; clear hch
        go_wp2_with fail
        go_ret
        refine ret_int ?_ (by repeat first | exact Below.refl _ _ | assumption | (refine Below.alloc ?_ (by first | omega | (simp; done) | (simp; omega)) _) | (refine Below.setCell ?_ (by first | omega | (simp; done) | (simp; omega)) _) | (refine Below.drew ?_) | (refine belowDrewN ?_) | (refine Below.trans ?_ (Below.mono (by assumption) (by first | omega | (simp; done) | (simp; omega)))))
        have := HCH.out
        subst hk'
        simp [Pu.chkSn] at this
        rw [HV.out]
        exact Pu.seen_zero hl this
end Go.Proofs.Ytpjlihkpnhamlaa
end

/- With how few faults a dial can have shown what was seen: the plain side. -/
section
set_option linter.unusedSimpArgs false
set_option linter.unusedVariables false
namespace Go.Proofs.Ytpjlihkpnhamlaa
open Go.RowKit Go.Shelf Go.Maps

namespace Pu
/-- what a dial can be, at what cost, behind the impulse of a minute -/
def stepR (l : Ln) (t : Int) (R : Dl → Int → Prop) (d' : Dl) (c' : Int) : Prop :=
  ∃ d c, R d c ∧ ((d' = imp l t 1 d ∧ c' = c) ∨ (isLong l t = false ∧ c' = c + 1 ∧ (d' = imp l t 0 d ∨ d' = imp l t 2 d)))
def stepsR (l : Ln) (t : Int) (R : Dl → Int → Prop) : Nat → Dl → Int → Prop
  | 0 => R
  | n + 1 => stepR l (t + n + 1) (stepsR l t R n)
def filtR (sh : Int) (R : Dl → Int → Prop) (d : Dl) (c : Int) : Prop := R d c ∧ d.s = sh
/-- .. behind all that was seen -/
def seenR (l : Ln) (R : Dl → Int → Prop) (t : Int) : List (Int × Int) → Dl → Int → Prop
  | [] => R
  | x :: rest => seenR l (filtR x.2 (stepsR l t R (x.1 - t).toNat)) x.1 rest
def startR (d0 : Dl) (d : Dl) (c : Int) : Prop := d = d0 ∧ c = 0

theorem MinOf.step {R : Dl → Int → Prop} {f g : Dl → Option Int} {l : Ln} {t : Int} (h : MinOf R f) (hg : MinOf (Contrib l t f (fun _ => True)) g) : MinOf (stepR l t R) g := by
  intro d'
  obtain ⟨h1, h2⟩ := hg d'
  refine ⟨fun c hc => ?_, fun c hc h20 => ?_⟩
  · obtain ⟨⟨d, x, hf, _, hx⟩, h20⟩ := h1 c hc
    exact ⟨⟨d, x, ((h d).1 x hf).1, hx⟩, h20⟩
  · obtain ⟨d, x, hR, hx⟩ := hc
    have hx20 : x ≤ 20 := by rcases hx with ⟨_, rfl⟩ | ⟨_, rfl, _⟩ <;> omega
    obtain ⟨x0, hf, hle⟩ := (h d).2 x hR hx20
    rcases hx with ⟨hd, rfl⟩ | ⟨hl, rfl, hd⟩
    · obtain ⟨c', h3, h4⟩ := h2 x0 ⟨d, x0, hf, trivial, .inl ⟨hd, rfl⟩⟩ (by omega)
      exact ⟨c', h3, by omega⟩
    · obtain ⟨c', h3, h4⟩ := h2 (x0 + 1) ⟨d, x0, hf, trivial, .inr ⟨hl, rfl, hd⟩⟩ (by omega)
      exact ⟨c', h3, by omega⟩
theorem MinOf.filt {R : Dl → Int → Prop} {f : Dl → Option Int} (h : MinOf R f) (sh : Int) : MinOf (filtR sh R) (fun d => if d.s = sh then f d else none) := by
  intro d
  obtain ⟨h1, h2⟩ := h d
  by_cases q : d.s = sh
  · simp only [if_pos q]
    exact ⟨fun c hc => ⟨⟨(h1 c hc).1, q⟩, (h1 c hc).2⟩, fun c hc h20 => h2 c hc.1 h20⟩
  · simp only [if_neg q]
    exact ⟨fun c hc => (by cases hc), fun c hc h20 => absurd hc.2 q⟩
theorem MinOf.start (d0 : Dl) : MinOf (startR d0) (upd (fun _ => Option.none) d0 (some 0)) := by
  intro d
  unfold upd startR
  by_cases q : d = d0
  · subst q
    simp only [if_true]
    exact ⟨fun c hc => by cases hc; exact ⟨⟨trivial, rfl⟩, by omega⟩, fun c hc _ => ⟨0, rfl, by omega⟩⟩
  · simp only [if_neg q]
    exact ⟨fun c hc => (by cases hc), fun c hc _ => absurd hc.1 q⟩
/-- nothing is possible with 20 faults -/
def NoneR (R : Dl → Int → Prop) : Prop := ∀ d c, R d c → 20 < c
theorem NoneR.step {R : Dl → Int → Prop} {l : Ln} {t : Int} (h : NoneR R) : NoneR (stepR l t R) := by
  rintro d' c' ⟨d, c, hR, hx⟩
  have := h d c hR
  rcases hx with ⟨_, rfl⟩ | ⟨_, rfl, _⟩ <;> omega
theorem NoneR.steps {R : Dl → Int → Prop} {l : Ln} {t : Int} {n : Nat} (h : NoneR (stepsR l t R n)) : ∀ k, NoneR (stepsR l t R (n + k))
  | 0 => h
  | k + 1 => (NoneR.steps h k).step
theorem NoneR.minOf {R : Dl → Int → Prop} {g : Dl → Option Int} (h : NoneR R) (hg : ∀ d, g d = none) : MinOf R g :=
  fun d => ⟨fun c hc => (by rw [hg] at hc; cases hc), fun c hc h20 => absurd (h d c hc) (by omega)⟩
theorem MinOf.none {R : Dl → Int → Prop} {g : Dl → Option Int} (h : MinOf R g) (hg : ∀ d, g d = none) : NoneR R := fun d c hc => by
  rcases Int.lt_or_le 20 c with q | q
  · exact q
  · obtain ⟨c', h1, _⟩ := (h d).2 c hc q
    rw [hg] at h1
    cases h1
/-- bounds -/
def OkR (B : Int) (R : Dl → Int → Prop) : Prop := ∀ d c, R d c → d.ok B ∧ 0 ≤ c
theorem OkR.step {R : Dl → Int → Prop} {l : Ln} {t B : Int} (h : OkR B R) (hB : 0 ≤ B) : OkR (B + 2) (stepR l t R) := by
  rintro d' c' ⟨d, c, hR, hx⟩
  obtain ⟨h1, h2⟩ := h d c hR
  rcases hx with ⟨rfl, rfl⟩ | ⟨_, rfl, rfl | rfl⟩
  · have := imp_ok (l := l) (t := t) (m := 1) h1 hB; unfold Dl.ok at *; omega
  · have := imp_ok (l := l) (t := t) (m := 0) h1 hB; unfold Dl.ok at *; omega
  · have := imp_ok (l := l) (t := t) (m := 2) h1 hB; unfold Dl.ok at *; omega
theorem OkR.steps {R : Dl → Int → Prop} {l : Ln} {t B : Int} (h : OkR B R) (hB : 0 ≤ B) : ∀ n : Nat, OkR (B + 2 * n) (stepsR l t R n)
  | 0 => by simpa [stepsR] using h
  | n + 1 => by
    have := (OkR.steps (l := l) (t := t) h hB n).step (l := l) (t := t + n + 1) (by omega)
    intro d c hc
    have := this d c hc
    unfold Dl.ok at *
    omega
theorem OkR.filt {R : Dl → Int → Prop} {B sh : Int} (h : OkR B R) : OkR B (filtR sh R) := fun d c hc => h d c hc.1
def lastS : Int → List (Int × Int) → Int
  | t, [] => t
  | _, x :: tl => lastS x.1 tl
theorem lastS_snoc (x : Int × Int) : ∀ (t : Int) (fs : List (Int × Int)), lastS t (fs ++ [x]) = x.1
  | _, [] => rfl
  | _, y :: tl => lastS_snoc x y.1 tl
theorem seenR_snoc (l : Ln) (x : Int × Int) : ∀ (fs : List (Int × Int)) (R : Dl → Int → Prop) (t : Int), seenR l R t (fs ++ [x]) = filtR x.2 (stepsR l (lastS t fs) (seenR l R t fs) (x.1 - lastS t fs).toNat)
  | [], R, t => rfl
  | y :: tl, R, t => seenR_snoc l x tl _ _
/-- the answer -/
def FewSpec (R : Dl → Int → Prop) (n e : Int) : Prop := (e = 0 ∧ n ≤ 20 ∧ (∃ d, R d n) ∧ ∀ d c, R d c → n ≤ c) ∨ (e = 7 ∧ n = 0 ∧ NoneR R)
def FewOut (l : Ln) (sh f : Int) (fs : List (Int × Int)) (n e : Int) : Prop :=
  if lineErr l.r l.e l.c ≠ 0 then n = 0 ∧ e = lineErr l.r l.e l.c else if btw 0 100000 f = false then n = 0 ∧ e = 3 else if btw 0 719 sh = false then n = 0 ∧ e = 2
  else if seenErr f fs ≠ 0 then n = 0 ∧ e = seenErr f fs else FewSpec (seenR l (startR (start l sh f)) f fs) n e
end Pu
end Go.Proofs.Ytpjlihkpnhamlaa
end

/- The walks of maps.DeleteFunc over costs, and of the closure that it is handed. -/
section
set_option linter.unusedSimpArgs false
set_option linter.unusedVariables false
namespace Go.Proofs.Ytpjlihkpnhamlaa
open Go.RowKit Go.Shelf Go.Maps

set_option maxHeartbeats 400000 in
theorem few1_any (s k c sh : Int) (X : Nat) (w : World) (h : w.cell? ⟨X, 1, none⟩ = some (.int .i64 sh)) (hX : X < w.heap.size) :
    Calls Try.prog 49 #[.agg #[.int .i64 s, .int .i64 k], .int .i64 c, .pointer (some ⟨X, 0, none⟩)] w (Ret w (.bool (s != sh))) := by
  go_enter Try.func49, Try.ntmps49
  go_wp2
  go_ret
  exact ret_bool rfl (by repeat first | exact Below.refl _ _ | assumption | (refine Below.alloc ?_ (by first | omega | (simp; done) | (simp; omega)) _) | (refine Below.setCell ?_ (by first | omega | (simp; done) | (simp; omega)) _) | (refine Below.drew ?_) | (refine belowDrewN ?_) | (refine Below.trans ?_ (Below.mono (by assumption) (by first | omega | (simp; done) | (simp; omega)))))

namespace Pu
def keepF (f : Dl → Option Int) (sh : Int) : Dl → Option Int := fun d => if d.s = sh then f d else none
end Pu
def DelRel (w : World) (b n X : Nat) (sh : Int) (f : Pu.Dl → Option Int) (W : World) : Prop :=
  ∃ left cnt g, IRange dialE 3 W b w.heap.size n g left cnt ∧ Keeps (fun y => y = b) w W ∧ w.heap.size + 1 ≤ W.heap.size ∧ ∀ d, dialE.ok d → ((left d ∨ d.s = sh) → g d = f d) ∧ (¬ left d → d.s ≠ sh → g d = none)
def DelPost (b n : Nat) (sh : Int) (f : Pu.Dl → Option Int) (w : World) (en : Ending) (w' : World) : Prop :=
  en = .returned (.tuple #[]) ∧ Keeps (fun y => y = b) w w' ∧ IMap dialE 3 w' b n (Pu.keepF f sh)

set_option maxHeartbeats 1000000 in
theorem deleteFunc_any (b n X : Nat) (sh : Int) (f : Pu.Dl → Option Int) (w : World) (h : IMap dialE 3 w b n f) (hc : w.cell? ⟨X, 1, none⟩ = some (.int .i64 sh)) (hX : X < w.heap.size) (hne : X ≠ b) :
    Calls Try.prog 48 #[.map (some b), .func (.func 49) #[] #[.pointer (some ⟨X, 0, none⟩)]] w (DelPost b n sh f w) := by
  have hlt := h.lt
  have H := Lib.hid h; clear h
  have HC := Lib.hid hc; clear hc
  have ef := enters_of Try.func49 (by kernel_rfl) rfl
  go_enter Try.func48, Try.ntmps48
  go_wp2_with (at_range; refine wpList_imap_range dialE _ rfl _ 95 rfl 3 Try.underlying95 b n f rfl H.out ?_; intro w0 cnt0 hrg0 hcn0 hb0 hs0)
  have R0 : DelRel w b n X sh f w0 := ⟨_, _, f, hrg0, Keeps.below hb0, by omega, fun d hd => ⟨fun _ => rfl, fun h1 _ => by
    cases hf : f d with
    | none => rfl
    | some c => exact absurd ⟨c, hf⟩ h1⟩⟩
  clear hrg0 hb0 hs0 hcn0
  go_frame
  go_loopw [5] (fun _ wr => DelRel w b n X sh f wr) (fun _ wr => wr.rangeLeft b w.heap.size)
  case atStart => exact R0
  case round =>
    obtain ⟨left, cnt, g, hrg, hkw, hzw, hgf⟩ := hrel
    have HG := Lib.hid hgf; have HR := Lib.hid hrg
    clear hgf hrg R0
    go_wp2_with (at_next; refine wpList_imap_next dialE _ rfl _ rfl 3 Try.underlying3 b w.heap.size n g left cnt rfl HR.out ?_ ?_)
    · intro hdone
      go_wp2_with fail
      go_end0
      have e : Pu.keepF f sh = g := by
        funext d
        unfold Pu.keepF
        by_cases hd : dialE.ok d
        · have := HG.out d hd
          split
          · exact (this.1 (.inr ‹_›)).symm
          · exact (this.2 (hdone d hd) ‹_›).symm
        · have h1 : f d = none := by cases hf : f d with | none => rfl | some c => exact absurd (H.out.ok hf).1 hd
          have h2 : g d = none := by cases hf : g d with | none => rfl | some c => exact absurd (HR.out.owns.ok hf).1 hd
          rw [h1, h2]; split <;> rfl
      exact ⟨rfl, hkw, by rw [e]; exact HR.out.owns⟩
    · intro d x w2 cnt2 hd hfd hld hrg2 hlt2 hk2 hs2 hen
      have kw2 : Keeps (fun y => y = b) w w2 := ⟨hkw.low.trans hk2.low, fun i hi ho => (hk2.same i (by omega) (by omega)).trans (hkw.same i hi ho)⟩
      have hz2 : w.heap.size + 1 ≤ w2.heap.size := by omega
      clear hs2
      obtain ⟨s, k⟩ := d
      simp only [dialE_kv] at hen ⊢
      have HC2 : w2.cell? ⟨X, 1, none⟩ = some (.int .i64 sh) := (World.cell?_of_block (w := w) (kw2.same X hX hne)).trans HC.out
      have hXw : X < w2.heap.size := by omega
      clear HC
      go_wp2_with fail
      refine calls_name ?_
      intro W hW
      have BX : Blk W w2.heap.size #[.int .i64 s, .int .i64 k] 89 := by rw [hW]; exact (by repeat first | exact blk_at (by first | rfl | omega | (simp; done) | (simp; omega)) | assumption | refine Blk.alloc ?_ _ | refine Blk.drew ?_ | refine Blk.drewN ?_ _ | (refine Blk.other ?_ _ (by first | omega | (simp; done) | (simp; omega))) | (refine Blk.below ?_ (by assumption)))
      have hbW : Below w2.heap.size w2 W := by rw [hW]; exact (by repeat first | exact Below.refl _ _ | assumption | (refine Below.alloc ?_ (by first | omega | (simp; done) | (simp; omega)) _) | (refine Below.setCell ?_ (by first | omega | (simp; done) | (simp; omega)) _) | (refine Below.drew ?_) | (refine belowDrewN ?_) | (refine Below.trans ?_ (Below.mono (by assumption) (by first | omega | (simp; done) | (simp; omega)))))
      clear hW
      refine (few1_any s k x sh X W ((hbW.cell (p := ⟨X, 1, none⟩) hXw).trans HC2) (Nat.lt_of_lt_of_le hXw hbW.size)).mono ?_
      rintro e w1 ⟨rfl, hb1⟩; obtain ⟨hc1, hf1, hs1⟩ := bcell hb1; have hz1 := hb1.size; (try simp at hz1)
      have B1 := BX.below hb1
      have hb2 : Below w2.heap.size w2 w1 := hbW.trans (hb1.mono hbW.size)
      have hr1 := hrg2.below hb2
      have kw1 : Keeps (fun y => y = b) w w1 := kw2.trans (Keeps.below hb2)
      have c0 := B1.cell 0 rfl; have c1 := B1.cell 1 rfl
      have hz4 : w.heap.size + 1 ≤ w1.heap.size := by have := hb2.size; omega
      clear hc1 hf1 hs1 hb1 hen hrg2 kw2 HC2 BX hbW hb2
      cases hq : (s != sh)
      · go_wp2_with fail
        have hs : s = sh := by simpa using hq
        refine ⟨⟨_, cnt2, g, hr1, kw1, hz4, fun d hd' => ⟨fun h => ?_, fun h1 h2 => ?_⟩⟩, by rw [hr1.left_eq, HR.out.left_eq]; exact hlt2⟩
        · rcases h with h | h
          · exact (HG.out d hd').1 (.inl h.1)
          · exact (HG.out d hd').1 (.inr h)
        · exact (HG.out d hd').2 (fun hl => h1 ⟨hl, fun e => h2 (by rw [e]; exact hs)⟩) h2
      · have HQ := Lib.hid hq; 
        go_wp2_with (at_delete; refine wpList_imap_delete dialE _ rfl _ _ 95 rfl 3 Try.underlying95 b w.heap.size n g _ cnt2 rfl hr1 ⟨s, k⟩ rfl hd ?_; intro w3 cnt3 hr3 hle3 hk3 hs3; go_frame)
        have hs : s ≠ sh := by simpa using HQ.out
        clear hs3
        refine ⟨⟨_, cnt3, _, hr3, kw1.trans hk3, Nat.le_trans hz4 hk3.size, fun d hd' => ⟨fun h => ?_, fun h1 h2 => ?_⟩⟩, by rw [hr3.left_eq, HR.out.left_eq]; omega⟩
        · unfold upd
          by_cases q : d = ⟨s, k⟩
          · subst q
            rcases h with h | h
            · exact absurd rfl h.2
            · exact absurd h hs
          · rw [if_neg q]
            rcases h with h | h
            · exact (HG.out d hd').1 (.inl h.1.1)
            · exact (HG.out d hd').1 (.inr h)
        · unfold upd
          by_cases q : d = ⟨s, k⟩
          · rw [if_pos q]
          · rw [if_neg q]
            exact (HG.out d hd').2 (fun hl => h1 ⟨⟨hl, q⟩, q⟩) h2
end Go.Proofs.Ytpjlihkpnhamlaa
end

/- Ranges over maps of integers, inside a fence. -/
section
set_option linter.unusedSimpArgs false
set_option linter.unusedVariables false
set_option linter.unusedSectionVars false
namespace Go.Proofs.Ytpjlihkpnhamlaa
open Go.RowKit Go.Shelf Go.Maps
section
variable {F : Fence} {nF : Nat} {P : Program} {k e : TypeId} {κ : Type} [DecidableEq κ] (E : KeyEnc P k κ) (w : World) {ops : Array Oper} {rest : List Oper} {o : Oper} {a : Act} {Q : Exit → Act → World → Prop}

theorem wpListIn_imap_range (hg : o.guard = none) (m : Operand) (t : TypeId) (hop : o.op = Op.range t m) (e : TypeId) (ht : P.underlying t = some (.map k e))
    (b n : Nat) (f : κ → Option Int) (hm : a.eval m = .map (some b)) (h : IMap E e w b n f)
    (hK : ∀ w' cnt, IRange E e w' b w.heap.size n f (fun d => ∃ c, f d = some c) cnt → cnt ≤ n → Below w.heap.size w w' → w'.heap.size = w.heap.size + 1 → wpListIn F nF P ops Q rest (a.put o.dst (.pointer (some ⟨w.heap.size, 0, none⟩))) w') : wpListIn F nF P ops Q (o :: rest) a w := by
  obtain ⟨D, hown, hT⟩ := h
  refine wpListIn_range_own w hg m t hop k e E.K ht (plainElem P e) b n D hm hown (fun w' h1 h2 h3 => ?_)
  have hext := Keeps.none h2 (fun _ => False)
  exact hK w' _ ⟨D, _, h1, hT, fun d hd => by rw [hT.has d hd, Option.isSome_iff_exists]⟩ hown.size_le (hext.to_below (Nat.le_refl _) (fun b h => h.elim)) h3
theorem wpListIn_imap_next (hg : o.guard = none) (it : Operand) (hop : o.op = Op.next it false) (e : TypeId) (he : P.underlying e = some (.int .i64))
    (b r n : Nat) (f : κ → Option Int) (left : κ → Prop) (cnt : Nat) (hit : a.eval it = .pointer (some ⟨r, 0, none⟩)) (h : IRange E e w b r n f left cnt)
    (hDone : (∀ d, E.ok d → ¬ left d) → wpListIn F nF P ops Q rest (a.put o.dst (.tuple #[.bool false])) w)
    (hMore : ∀ (d : κ) (c : Int) (w' : World) (cnt' : Nat), E.ok d → f d = some c → left d → IRange E e w' b r n f (fun y => left y ∧ y ≠ d) cnt' → cnt' < cnt → Keeps (fun y => y = r) w w' → w'.heap.size = w.heap.size →
      (Instr.entry (.pointer (some ⟨r, 0, none⟩))).run P w' = .ok (.tuple #[E.kv d, .int .i64 c]) w' → wpListIn F nF P ops Q rest (a.put o.dst (.tuple #[.bool true, E.kv d, .int .i64 c])) w') :
    wpListIn F nF P ops Q (o :: rest) a w := by
  obtain ⟨D, L, hr, hT, hL⟩ := h
  refine wpListIn_next_ranges w hg it hop k E.K (plainElem P e) E.kv (Value.int .i64) (fun key kl hkey => by obtain ⟨x, _, rfl⟩ := E.dec key kl hkey; exact ⟨x, rfl⟩)
    (fun v y hv => by obtain ⟨c, rfl, _⟩ := plainElem_int_inv he hv; exact ⟨c, rfl⟩) b r n D L cnt hit hr (fun _ hl => hDone (fun d hd hh => by have := (hL d hd).1 hh; rw [hl] at this; cases this)) ?_
  intro d c kl y w' cnt' hkey hlk hv hat hrg hlt hgr hsz hen
  obtain ⟨d', h1, h2, h3⟩ := E.dec' hkey
  obtain rfl := E.inj _ _ h2
  subst h3
  obtain ⟨c', ec, ey, hwc⟩ := plainElem_int_inv he hv
  cases ec
  have hf : f d = some c := by
    have hh : Maps.has D (E.kl d) = true := has_true_of_atKey hat
    rw [hT.has d h1] at hh
    obtain ⟨c', hc⟩ := Option.isSome_iff_exists.1 hh
    have := (hT.to d c' hc).2.2 .nil
    rw [hat, ey] at this
    cases this
    exact hc
  refine hMore d c w' cnt' h1 hf ((hL d h1).2 hlk) ⟨D, _, hrg, hT, fun x hx => ?_⟩ hlt (Keeps.one hgr) hsz hen
  dsimp only
  rw [hL x hx]
  simp only [Bool.and_eq_true, Bool.not_eq_true', ne_eq]
  constructor
  · rintro ⟨q1, q2⟩
    exact ⟨q1, sameKey_ne (fun e => q2 (E.klinj hx h1 e))⟩
  · rintro ⟨q1, q2⟩
    refine ⟨q1, fun e => ?_⟩
    subst e
    rw [WideAt.sameKey_self (E.isKey hx)] at q2
    cases q2
end
end Go.Proofs.Ytpjlihkpnhamlaa
end
