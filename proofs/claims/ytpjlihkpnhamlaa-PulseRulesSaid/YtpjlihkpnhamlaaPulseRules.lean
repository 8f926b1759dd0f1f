/- The law PulseRules: what a rule can do: its walk. -/
import Derived.Test.YtpjlihkpnhamlaaPulseWired
import Derived.Test.YtpjlihkpnhamlaaPulseKnown
set_option linter.unusedSimpArgs false
set_option linter.unusedVariables false
namespace Go.Proofs.Ytpjlihkpnhamlaa
open Go.RowKit Go.Shelf
namespace Pu
def corrB (l : Ln) (a b : Int) : Bool := if l.r = 0 then (a == 0 && b == 0) else if l.r = 2 then decide (a ≤ l.c) else decide (max a b ≤ l.c)
theorem corr_ok {l : Ln} {a b : Int} (hl : l.ok) (ha : 0 ≤ a) (ha2 : a ≤ 20) (hb : 0 ≤ b) (hb2 : b ≤ 20) : corrVal l a b = (corrB l a b, 0) := by
  unfold corrVal corrB
  rw [if_neg (by simpa using err_of_ok hl), if_neg (by rw [btw_iff.2 ⟨ha, ha2⟩, btw_iff.2 ⟨hb, hb2⟩]; decide)]
  split
  · rfl
  · split <;> rfl
end Pu
theorem corr_call (r e c a b : Int) (w : World) (hl : (Pu.Ln.mk r e c).ok) (ha : 0 ≤ a) (ha2 : a ≤ 20) (hb : 0 ≤ b) (hb2 : b ≤ 20) :
    Calls Try.prog 23 #[.agg #[.int .i64 r, .int .i64 e, .int .i64 c], .int .i64 a, .int .i64 b] w (Ret w (.tuple #[.bool (Pu.corrB ⟨r, e, c⟩ a b), .int .i64 0])) := by
  have hw : (Lit.int .i64 r).wf = true ∧ (Lit.int .i64 e).wf = true ∧ (Lit.int .i64 c).wf = true := by
    rcases hl with ⟨h1, h2, h3⟩ | ⟨h1, h2, h3, h4, _, h5, h6⟩ <;> dsimp only at * <;> exact ⟨wfi (by omega) (by omega), wfi (by omega) (by omega), wfi (by omega) (by omega)⟩
  have := corrects_any r e c a b w hw.1 hw.2.1 hw.2.2
  rwa [Pu.corr_ok hl ha ha2 hb hb2] at this
def RulesPost (w : World) (e : Ending) (w' : World) : Prop := e = .returned (.bool true) ∧ Below w.heap.size w w'

set_option maxHeartbeats 2000000 in
theorem pulseRules_any (r e c m0 m1 m2 m3 : Int) (w : World) (h0 : 0 ≤ r) (h1 : r ≤ 255) (h2 : 0 ≤ e) (h3 : e ≤ 255) (h4 : 0 ≤ c) (h5 : c ≤ 255)
    (q0 : 0 ≤ m0) (q1 : m0 ≤ 255) (q2 : 0 ≤ m1) (q3 : m1 ≤ 255) (q4 : 0 ≤ m2) (q5 : m2 ≤ 255) (q6 : 0 ≤ m3) (q7 : m3 ≤ 255) :
    Calls Try.prog 9 #[.agg #[.int .u8 r, .int .u8 e, .int .u8 c], .agg #[.int .u8 m0, .int .u8 m1, .int .u8 m2, .int .u8 m3]] w (Ret w (.bool true)) := by
  have Z : Below w.heap.size w w := Below.refl _ w
  have hwl := Pu.wL_ok (r := r) (e := e) h4
  have HWD := Lib.hid (fun W => wired_any r e c W h0 h1 h2 h3 h4 h5)
  have hwe := Pu.wE_btw e
  have he : (Pu.wL r e c).e = Pu.wE e := rfl
  have hr13 : 1 ≤ (Pu.wL r e c).r ∧ (Pu.wL r e c).r ≤ 3 := by simp only [Pu.wL]; omega
  have hc0 : 0 ≤ (Pu.wL r e c).c ∧ (Pu.wL r e c).c ≤ ((Pu.wL r e c).e - 1) / 2 := by have := Int.emod_lt_of_pos c (show 0 < (Pu.wE e - 1) / 2 + 1 by omega); have := Int.emod_nonneg c (show (Pu.wE e - 1) / 2 + 1 ≠ 0 by omega); simp only [Pu.wL]; omega
  obtain ⟨l, hl⟩ : ∃ l, Pu.wL r e c = l := ⟨_, rfl⟩
  rw [hl] at hwl HWD he hr13 hc0
  rw [← he] at hwe
  clear hl he h0 h1 h2 h3 h4 h5
  obtain ⟨lr, le, lc⟩ := l
  dsimp only at HWD hwe hr13 hc0
  have HL := Lib.hid hwl
  go_enter Try.func9, Try.ntmps9
  have a0 : 0 ≤ m0 % 21 := by omega
  have a1 : m0 % 21 ≤ 20 := by omega
  have b0 : 0 ≤ m1 % 21 := by omega
  have b1 : m1 % 21 ≤ 20 := by omega
  have p0 : 0 ≤ m0 % 21 * m2 := Int.mul_nonneg a0 q4
  have p1 : m0 % 21 * m2 ≤ 20 * 255 := Int.mul_le_mul a1 q5 q4 (by omega)
  have p2 : 0 ≤ m1 % 21 * m3 := Int.mul_nonneg b0 q6
  have p3 : m1 % 21 * m3 ≤ 20 * 255 := Int.mul_le_mul b1 q7 q6 (by omega)
  have p4 : m0 % 21 * m2 / 255 ≤ 20 := by omega
  have p5 : m1 % 21 * m3 / 255 ≤ 20 := by omega
  have p6 : 0 ≤ m0 % 21 * m2 / 255 := by omega
  have p7 : 0 ≤ m1 % 21 * m3 / 255 := by omega
  simp only [Int.reduceMul] at p1 p3
  have HL0 := Lib.hid (show (Pu.Ln.mk 0 0 0).ok from .inl ⟨rfl, rfl, rfl⟩)
  have HL1 := Lib.hid (show (Pu.Ln.mk lr le ((le - 1) / 2)).ok from .inr ⟨hr13.1, hr13.2, hwe.1, by simp only; omega, hwe.2.2, by simp only; omega, by simp only; omega⟩)
  have HL2 := Lib.hid (show (Pu.Ln.mk 2 le lc).ok from .inr ⟨by simp only; omega, by simp only; omega, hwe.1, by simp only; omega, hwe.2.2, hc0.1, hc0.2⟩)
  have X3 : Pu.corrB ⟨lr, le, lc⟩ 0 0 = true := by unfold Pu.corrB; simp only; split; rfl; split <;> simp <;> omega
  have X6 : Pu.corrB ⟨2, le, lc⟩ 0 (m1 % 21) = true := by unfold Pu.corrB; simp; omega
  have X4 : Pu.corrB ⟨0, 0, 0⟩ (m0 % 21) (m1 % 21) = (m0 % 21 + m1 % 21 == 0) := by unfold Pu.corrB; rw [Bool.eq_iff_iff]; simp; omega
  have X25 : Pu.corrB ⟨lr, le, lc⟩ (m0 % 21) (m1 % 21) = true → Pu.corrB ⟨lr, le, lc⟩ (m0 % 21 * m2 / 255) (m1 % 21 * m3 / 255) = true ∧ Pu.corrB ⟨lr, le, (le - 1) / 2⟩ (m0 % 21) (m1 % 21) = true := by
    have d0 : m0 % 21 * m2 ≤ m0 % 21 * 255 := Int.mul_le_mul_of_nonneg_left q5 a0
    have d1 : m1 % 21 * m3 ≤ m1 % 21 * 255 := Int.mul_le_mul_of_nonneg_left q7 b0
    have d2 : m0 % 21 * m2 / 255 ≤ m0 % 21 := by omega
    have d3 : m1 % 21 * m3 / 255 ≤ m1 % 21 := by omega
    unfold Pu.corrB
    simp only
    simp only [if_neg (show ¬ lr = 0 by omega)]
    by_cases q : lr = 2
    · simp only [if_pos q, decide_eq_true_eq]; omega
    · simp only [if_neg q, decide_eq_true_eq]; omega
  have X5' := fun h => (X25 h).2
  have X2' := fun h => (X25 h).1
  clear X25
  go_wp2_with fail
  refine calls_name ?_
  intro W hW
  have ZW : Below w.heap.size w W := by rw [hW]; exact (by repeat first | exact Below.refl _ _ | assumption | (refine Below.alloc ?_ (by first | omega | (simp; done) | (simp; omega)) _) | (refine Below.setCell ?_ (by first | omega | (simp; done) | (simp; omega)) _) | (refine Below.drew ?_) | (refine belowDrewN ?_) | (refine Below.trans ?_ (Below.mono (by assumption) (by first | omega | (simp; done) | (simp; omega)))))
  have BM' : Blk W (w.heap.size + 1) #[.int .u8 m0, .int .u8 m1, .int .u8 m2, .int .u8 m3] 72 := by rw [hW]; exact (by repeat first | exact blk_at (by first | rfl | omega | (simp; done) | (simp; omega)) | assumption | refine Blk.alloc ?_ _ | refine Blk.drew ?_ | refine Blk.drewN ?_ _ | (refine Blk.other ?_ _ (by first | omega | (simp; done) | (simp; omega))) | (refine Blk.below ?_ (by assumption)))
  clear hW Z
  refine (HWD.out W).mono ?_
  rintro en w1 ⟨rfl, hb1⟩
  have Z := ZW.trans (hb1.mono ZW.size)
  have BM'' := BM'.below hb1
  clear hb1 ZW BM'
  obtain ⟨LB, hLB⟩ : ∃ LB, w1.heap.size = LB := ⟨_, rfl⟩
  have hZs := Z.size
  go_wp2_with fail
  refine wp_name ?_
  intro W2 hW2
  have Z2 : Below w.heap.size w W2 := by rw [hW2]; exact (by repeat first | exact Below.refl _ _ | assumption | (refine Below.alloc ?_ (by first | omega | (simp; done) | (simp; omega)) _) | (refine Below.setCell ?_ (by first | omega | (simp; done) | (simp; omega)) _) | (refine Below.drew ?_) | (refine belowDrewN ?_) | (refine Below.trans ?_ (Below.mono (by assumption) (by first | omega | (simp; done) | (simp; omega)))))
  have BM2 : Blk W2 (w.heap.size + 1) #[.int .u8 m0, .int .u8 m1, .int .u8 m2, .int .u8 m3] 72 := by rw [hW2]; exact (by repeat first | exact blk_at (by first | rfl | omega | (simp; done) | (simp; omega)) | assumption | refine Blk.alloc ?_ _ | refine Blk.drew ?_ | refine Blk.drewN ?_ _ | (refine Blk.other ?_ _ (by first | omega | (simp; done) | (simp; omega))) | (refine Blk.below ?_ (by assumption)))
  have BL2 : Blk W2 LB #[.int .i64 lr, .int .i64 le, .int .i64 lc] 24 := by rw [hW2, ← hLB]; exact (by repeat first | exact blk_at (by first | rfl | omega | (simp; done) | (simp; omega)) | assumption | refine Blk.alloc ?_ _ | refine Blk.drew ?_ | refine Blk.drewN ?_ _ | (refine Blk.other ?_ _ (by first | omega | (simp; done) | (simp; omega))) | (refine Blk.below ?_ (by assumption)))
  (try rw [hLB])
  clear hW2 Z BM'' hZs hLB
  have BM := BM2; have BL := BL2; have Z := Z2
  have BMc0 := BM.cell 0 rfl; have BMc1 := BM.cell 1 rfl; have BMc2 := BM.cell 2 rfl; have BMc3 := BM.cell 3 rfl; have BLc0 := BL.cell 0 rfl; have BLc1 := BL.cell 1 rfl; have BLc2 := BL.cell 2 rfl; have BMl := BM.lt; have BLl := BL.lt; have BLf := BL.free
  clear BM2 BL2 Z2
  obtain ⟨x1, hx1⟩ : ∃ x, Pu.corrB ⟨lr, le, lc⟩ (m0 % 21) (m1 % 21) = x := ⟨_, rfl⟩
  obtain ⟨x2, hx2⟩ : ∃ x, Pu.corrB ⟨lr, le, lc⟩ (m0 % 21 * m2 / 255) (m1 % 21 * m3 / 255) = x := ⟨_, rfl⟩
  obtain ⟨x5, hx5⟩ : ∃ x, Pu.corrB ⟨lr, le, (le - 1) / 2⟩ (m0 % 21) (m1 % 21) = x := ⟨_, rfl⟩
  rw [hx1] at X5' X2'
  rw [hx2] at X2'
  rw [hx5] at X5'
  have HX5 := Lib.hid X5'; have HX2 := Lib.hid X2'
  clear X5' X2' hwl
  (refine wp_region_quiet_lit (by kernel_rfl) (by kernel_rfl) ?_; (repeat (any_goals (first | go_big_quiet_step (fail) | quiet_step (fail) | (refine wpQuiet_step (fun K hK => ?_); go_simp; split <;> (refine hK _ ?_; clear hK K))))); (all_goals (refine wpQuiet_nil ?_; intro _ hw'; obtain ⟨nq, hw''⟩ := hw'; subst hw'')))
  cases x1
  · go_wp2_with (go_at_call 23; refine calls_name ?_; intro W hW; have hZs := Z.size; have ZW : Below w.heap.size w W := (by rw [hW]; exact (by repeat first | exact Below.refl _ _ | assumption | (refine Below.alloc ?_ (by first | omega | (simp; done) | (simp; omega)) _) | (refine Below.setCell ?_ (by first | omega | (simp; done) | (simp; omega)) _) | (refine Below.drew ?_) | (refine belowDrewN ?_) | (refine Below.trans ?_ (Below.mono (by assumption) (by first | omega | (simp; done) | (simp; omega)))))); have BM' : Blk W (w.heap.size + 1) #[.int .u8 m0, .int .u8 m1, .int .u8 m2, .int .u8 m3] 72 := (by rw [hW]; exact (by repeat first | exact blk_at (by first | rfl | omega | (simp; done) | (simp; omega)) | assumption | refine Blk.alloc ?_ _ | refine Blk.drew ?_ | refine Blk.drewN ?_ _ | (refine Blk.other ?_ _ (by first | omega | (simp; done) | (simp; omega))) | (refine Blk.below ?_ (by assumption)))); have BL' : Blk W LB #[.int .i64 lr, .int .i64 le, .int .i64 lc] 24 := (by rw [hW]; exact (by repeat first | exact blk_at (by first | rfl | omega | (simp; done) | (simp; omega)) | assumption | refine Blk.alloc ?_ _ | refine Blk.drew ?_ | refine Blk.drewN ?_ _ | (refine Blk.other ?_ _ (by first | omega | (simp; done) | (simp; omega))) | (refine Blk.below ?_ (by assumption)))); clear Z hW hZs BM BL; clear BMc0 BMc1 BMc2 BMc3 BLc0 BLc1 BLc2 BMl BLl BLf; go_must (refine (corr_call _ _ _ _ _ _ (by first | exact HL.out | exact HL0.out | exact HL1.out | exact HL2.out) (by omega) (by omega) (by omega) (by omega)).mono ?_); rintro e w1 ⟨rfl, hb1⟩; have Z := ZW.trans (hb1.mono ZW.size); have BM := BM'.below hb1; have BL := BL'.below hb1; clear hb1 ZW BM' BL'; have BMc0 := BM.cell 0 rfl; have BMc1 := BM.cell 1 rfl; have BMc2 := BM.cell 2 rfl; have BMc3 := BM.cell 3 rfl; have BLc0 := BL.cell 0 rfl; have BLc1 := BL.cell 1 rfl; have BLc2 := BL.cell 2 rfl; have BMl := BM.lt; have BLl := BL.lt; have BLf := BL.free)
    all_goals (refine (known_any _).mono ?_; rintro en w1 ⟨rfl, hb1⟩; have Z := Z.trans (hb1.mono Z.size); clear hb1; go_wp2_with fail; go_ret; exact ret_bool rfl Z)
  · obtain rfl := HX5.out rfl
    obtain rfl := HX2.out rfl
    go_wp2_with (go_at_call 23; refine calls_name ?_; intro W hW; have hZs := Z.size; have ZW : Below w.heap.size w W := (by rw [hW]; exact (by repeat first | exact Below.refl _ _ | assumption | (refine Below.alloc ?_ (by first | omega | (simp; done) | (simp; omega)) _) | (refine Below.setCell ?_ (by first | omega | (simp; done) | (simp; omega)) _) | (refine Below.drew ?_) | (refine belowDrewN ?_) | (refine Below.trans ?_ (Below.mono (by assumption) (by first | omega | (simp; done) | (simp; omega)))))); have BM' : Blk W (w.heap.size + 1) #[.int .u8 m0, .int .u8 m1, .int .u8 m2, .int .u8 m3] 72 := (by rw [hW]; exact (by repeat first | exact blk_at (by first | rfl | omega | (simp; done) | (simp; omega)) | assumption | refine Blk.alloc ?_ _ | refine Blk.drew ?_ | refine Blk.drewN ?_ _ | (refine Blk.other ?_ _ (by first | omega | (simp; done) | (simp; omega))) | (refine Blk.below ?_ (by assumption)))); have BL' : Blk W LB #[.int .i64 lr, .int .i64 le, .int .i64 lc] 24 := (by rw [hW]; exact (by repeat first | exact blk_at (by first | rfl | omega | (simp; done) | (simp; omega)) | assumption | refine Blk.alloc ?_ _ | refine Blk.drew ?_ | refine Blk.drewN ?_ _ | (refine Blk.other ?_ _ (by first | omega | (simp; done) | (simp; omega))) | (refine Blk.below ?_ (by assumption)))); clear Z hW hZs BM BL; clear BMc0 BMc1 BMc2 BMc3 BLc0 BLc1 BLc2 BMl BLl BLf; go_must (refine (corr_call _ _ _ _ _ _ (by first | exact HL.out | exact HL0.out | exact HL1.out | exact HL2.out) (by omega) (by omega) (by omega) (by omega)).mono ?_); rintro e w1 ⟨rfl, hb1⟩; have Z := ZW.trans (hb1.mono ZW.size); have BM := BM'.below hb1; have BL := BL'.below hb1; clear hb1 ZW BM' BL'; have BMc0 := BM.cell 0 rfl; have BMc1 := BM.cell 1 rfl; have BMc2 := BM.cell 2 rfl; have BMc3 := BM.cell 3 rfl; have BLc0 := BL.cell 0 rfl; have BLc1 := BL.cell 1 rfl; have BLc2 := BL.cell 2 rfl; have BMl := BM.lt; have BLl := BL.lt; have BLf := BL.free)
    all_goals (refine (known_any _).mono ?_; rintro en w1 ⟨rfl, hb1⟩; have Z := Z.trans (hb1.mono Z.size); clear hb1; go_wp2_with fail; go_ret; exact ret_bool rfl Z)
theorem u8b {x : Int} (h : (Lit.int .u8 x).wf = true) : 0 ≤ x ∧ x ≤ 255 := by simpa [Lit.wf, IntKind.min, IntKind.max, IntKind.signed, IntKind.bits] using h
theorem pulseRules_wf (r e c m0 m1 m2 m3 : Int) (w : World) (h0 : (Lit.int .u8 r).wf = true) (h1 : (Lit.int .u8 e).wf = true) (h2 : (Lit.int .u8 c).wf = true) (h3 : (Lit.int .u8 m0).wf = true) (h4 : (Lit.int .u8 m1).wf = true) (h5 : (Lit.int .u8 m2).wf = true) (h6 : (Lit.int .u8 m3).wf = true) :
    Calls Try.prog 9 #[.agg #[.int .u8 r, .int .u8 e, .int .u8 c], .agg #[.int .u8 m0, .int .u8 m1, .int .u8 m2, .int .u8 m3]] w (Ret w (.bool true)) :=
  pulseRules_any r e c m0 m1 m2 m3 w (u8b h0).1 (u8b h0).2 (u8b h1).1 (u8b h1).2 (u8b h2).1 (u8b h2).2 (u8b h3).1 (u8b h3).2 (u8b h4).1 (u8b h4).2 (u8b h5).1 (u8b h5).2 (u8b h6).1 (u8b h6).2
end Go.Proofs.Ytpjlihkpnhamlaa
