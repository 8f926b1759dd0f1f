/- The law PulseCorrects: its walk. -/
import Derived.Test.YtpjlihkpnhamlaaCorPlain
import Derived.Test.YtpjlihkpnhamlaaPulseKnown
import Derived.Test.YtpjlihkpnhamlaaCopies
import Derived.Deep.DeepMust
set_option linter.unusedSimpArgs false
set_option linter.unusedVariables false
namespace Go.Proofs.Ytpjlihkpnhamlaa
open Go.RowKit Go.Shelf

set_option maxHeartbeats 2000000 in
theorem pulseCorrects_wf (r e c a b : Int) (w : World) (hr : (Lit.int .i64 r).wf = true) (he : (Lit.int .i64 e).wf = true) (hc : (Lit.int .i64 c).wf = true)
    (haw : (Lit.int .i64 a).wf = true) (hbw : (Lit.int .i64 b).wf = true) :
    Calls Try.prog 5 #[.agg #[.int .i64 r, .int .i64 e, .int .i64 c], .agg #[.int .i64 a, .int .i64 b]] w (Ret w (.bool true)) := by
  obtain ⟨v, hv⟩ : ∃ v, Pu.corrVal ⟨r, e, c⟩ a b = v := ⟨_, rfl⟩
  obtain ⟨er, her⟩ : ∃ er, Pu.lineErr r e c = er := ⟨_, rfl⟩
  have HV := Lib.hid hv; have HE := Lib.hid her
  have HR := Lib.hid (fun W => corrects_any r e c a b W hr he hc)
  have HRc := Lib.hid (fun W => refCheck_any r e c W hr he hc)
  rw [hv] at HR; rw [her] at HRc
  obtain ⟨v1, v2⟩ := v
  dsimp only at HR
  clear hv her
  go_enter Try.func5, Try.ntmps5
  go_wp2_with fail
  refine calls_name ?_
  intro W hW
  have ZW : Below w.heap.size w W := by rw [hW]; exact (by repeat first | exact Below.refl _ _ | assumption | (refine Below.alloc ?_ (by first | omega | (simp; done) | (simp; omega)) _) | (refine Below.setCell ?_ (by first | omega | (simp; done) | (simp; omega)) _) | (refine Below.drew ?_) | (refine belowDrewN ?_) | (refine Below.trans ?_ (Below.mono (by assumption) (by first | omega | (simp; done) | (simp; omega)))))
  have BL : Blk W w.heap.size #[.int .i64 r, .int .i64 e, .int .i64 c] 24 := by rw [hW]; exact (by repeat first | exact blk_at (by first | rfl | omega | (simp; done) | (simp; omega)) | assumption | refine Blk.alloc ?_ _ | refine Blk.drew ?_ | refine Blk.drewN ?_ _ | (refine Blk.other ?_ _ (by first | omega | (simp; done) | (simp; omega))) | (refine Blk.below ?_ (by assumption)))
  have BA : Blk W (w.heap.size + 1) #[.int .i64 a, .int .i64 b] 45 := by rw [hW]; exact (by repeat first | exact blk_at (by first | rfl | omega | (simp; done) | (simp; omega)) | assumption | refine Blk.alloc ?_ _ | refine Blk.drew ?_ | refine Blk.drewN ?_ _ | (refine Blk.other ?_ _ (by first | omega | (simp; done) | (simp; omega))) | (refine Blk.below ?_ (by assumption)))
  clear hW
  refine (HR.out W).mono ?_
  rintro en w1 ⟨rfl, hb1⟩
  have BL := BL.below hb1
  have BA := BA.below hb1
  have Z := ZW.trans (hb1.mono ZW.size)
  clear ZW hb1 HR
  have BLc0 := BL.cell 0 rfl; have BLc1 := BL.cell 1 rfl; have BLc2 := BL.cell 2 rfl; have BLl := BL.lt; have BAc0 := BA.cell 0 rfl; have BAc1 := BA.cell 1 rfl; have BAl := BA.lt
  by_cases h1 : er = 0
  case neg =>
    have hv2 : ((v1, v2) : Bool × Int) = (false, er) := by rw [← HV.out, ← HE.out]; simp only [Pu.corrVal]; rw [if_pos (by rw [HE.out]; exact h1)]
    obtain ⟨rfl, rfl⟩ := Prod.mk.inj hv2
    have hq : (v2 != 0) = true := by simp [h1]
    have hq2 : (v2 == 0) = false := by simp [h1]
    clear hv2
    go_wp2_with (first | (go_at_call 14; refine calls_name ?_; intro W hW; have hZs := Z.size; have ZW : Below w.heap.size w W := (by rw [hW]; exact (by repeat first | exact Below.refl _ _ | assumption | (refine Below.alloc ?_ (by first | omega | (simp; done) | (simp; omega)) _) | (refine Below.setCell ?_ (by first | omega | (simp; done) | (simp; omega)) _) | (refine Below.drew ?_) | (refine belowDrewN ?_) | (refine Below.trans ?_ (Below.mono (by assumption) (by first | omega | (simp; done) | (simp; omega)))))); have BL' : Blk W w.heap.size #[.int .i64 r, .int .i64 e, .int .i64 c] 24 := (by rw [hW]; exact (by repeat first | exact blk_at (by first | rfl | omega | (simp; done) | (simp; omega)) | assumption | refine Blk.alloc ?_ _ | refine Blk.drew ?_ | refine Blk.drewN ?_ _ | (refine Blk.other ?_ _ (by first | omega | (simp; done) | (simp; omega))) | (refine Blk.below ?_ (by assumption)))); have BA' : Blk W (w.heap.size + 1) #[.int .i64 a, .int .i64 b] 45 := (by rw [hW]; exact (by repeat first | exact blk_at (by first | rfl | omega | (simp; done) | (simp; omega)) | assumption | refine Blk.alloc ?_ _ | refine Blk.drew ?_ | refine Blk.drewN ?_ _ | (refine Blk.other ?_ _ (by first | omega | (simp; done) | (simp; omega))) | (refine Blk.below ?_ (by assumption)))); clear Z hW hZs BL BA BLc0 BLc1 BLc2 BLl BAc0 BAc1 BAl; go_must (refine (HRc.out W).mono ?_); rintro en w1 ⟨rfl, hb1⟩; have Z := ZW.trans (hb1.mono ZW.size); have BL := BL'.below hb1; have BA := BA'.below hb1; clear hb1 ZW BL' BA'; have BLc0 := BL.cell 0 rfl; have BLc1 := BL.cell 1 rfl; have BLc2 := BL.cell 2 rfl; have BLl := BL.lt; have BAc0 := BA.cell 0 rfl; have BAc1 := BA.cell 1 rfl; have BAl := BA.lt) | (go_at_call 11; go_must (refine (known_any _).mono ?_); rintro en w1 ⟨rfl, hb1⟩; have Z := Z.trans (hb1.mono Z.size); clear hb1))
    all_goals (first | (exfalso; omega) | (go_ret; exact ret_bool rfl Z))
  case pos =>
  subst h1
  have hok := Pu.ok_of_err HE.out
  have hle : ¬ (Pu.lineErr r e c ≠ 0) := by rw [HE.out]; simp
  by_cases hab : 0 ≤ a ∧ a ≤ 20 ∧ 0 ≤ b ∧ b ≤ 20
  case neg =>
    have hv2 : ((v1, v2) : Bool × Int) = (false, 3) := by
      rw [← HV.out]; simp only [Pu.corrVal]; rw [if_neg hle, if_pos]
      cases q : (btw 0 20 a && btw 0 20 b)
      · rfl
      · rw [Bool.and_eq_true, btw_iff, btw_iff] at q; exact absurd ⟨q.1.1, q.1.2, q.2.1, q.2.2⟩ hab
    obtain ⟨rfl, rfl⟩ := Prod.mk.inj hv2
    have hs : a < 0 ∨ (0 ≤ a ∧ 20 < a) ∨ (0 ≤ a ∧ a ≤ 20 ∧ b < 0) ∨ (0 ≤ a ∧ a ≤ 20 ∧ 0 ≤ b ∧ 20 < b) := by omega
    clear hv2 hle hok hab
    rcases hs with hs | ⟨hs, hs2⟩ | ⟨hs, hs2, hs3⟩ | ⟨hs, hs2, hs3, hs4⟩
    all_goals (
      go_wp2_with (first | (go_at_call 14; refine calls_name ?_; intro W hW; have hZs := Z.size; have ZW : Below w.heap.size w W := (by rw [hW]; exact (by repeat first | exact Below.refl _ _ | assumption | (refine Below.alloc ?_ (by first | omega | (simp; done) | (simp; omega)) _) | (refine Below.setCell ?_ (by first | omega | (simp; done) | (simp; omega)) _) | (refine Below.drew ?_) | (refine belowDrewN ?_) | (refine Below.trans ?_ (Below.mono (by assumption) (by first | omega | (simp; done) | (simp; omega)))))); have BL' : Blk W w.heap.size #[.int .i64 r, .int .i64 e, .int .i64 c] 24 := (by rw [hW]; exact (by repeat first | exact blk_at (by first | rfl | omega | (simp; done) | (simp; omega)) | assumption | refine Blk.alloc ?_ _ | refine Blk.drew ?_ | refine Blk.drewN ?_ _ | (refine Blk.other ?_ _ (by first | omega | (simp; done) | (simp; omega))) | (refine Blk.below ?_ (by assumption)))); have BA' : Blk W (w.heap.size + 1) #[.int .i64 a, .int .i64 b] 45 := (by rw [hW]; exact (by repeat first | exact blk_at (by first | rfl | omega | (simp; done) | (simp; omega)) | assumption | refine Blk.alloc ?_ _ | refine Blk.drew ?_ | refine Blk.drewN ?_ _ | (refine Blk.other ?_ _ (by first | omega | (simp; done) | (simp; omega))) | (refine Blk.below ?_ (by assumption)))); clear Z hW hZs BL BA BLc0 BLc1 BLc2 BLl BAc0 BAc1 BAl; go_must (refine (HRc.out W).mono ?_); rintro en w1 ⟨rfl, hb1⟩; have Z := ZW.trans (hb1.mono ZW.size); have BL := BL'.below hb1; have BA := BA'.below hb1; clear hb1 ZW BL' BA'; have BLc0 := BL.cell 0 rfl; have BLc1 := BL.cell 1 rfl; have BLc2 := BL.cell 2 rfl; have BLl := BL.lt; have BAc0 := BA.cell 0 rfl; have BAc1 := BA.cell 1 rfl; have BAl := BA.lt) | (go_at_call 11; go_must (refine (known_any _).mono ?_); rintro en w1 ⟨rfl, hb1⟩; have Z := Z.trans (hb1.mono Z.size); clear hb1))
      all_goals (first | (exfalso; omega) | (go_ret; exact ret_bool rfl Z)))
  case pos =>
  obtain ⟨a0, a1, b0, b1⟩ := hab
  have hv3 : ((v1, v2) : Bool × Int) = ((Pu.corrVal ⟨r, e, c⟩ a b).1, 0) := by
    rw [← HV.out]; simp only [Pu.corrVal]; rw [if_neg hle, if_neg (by simp [btw_iff.2 ⟨a0, a1⟩, btw_iff.2 ⟨b0, b1⟩])]
    split
    · rfl
    · split <;> rfl
  obtain ⟨hv1, rfl⟩ := Prod.mk.inj hv3
  clear hv3
  by_cases hr0 : r = 0
  case pos =>
    have hv4 : v1 = decide (a + b = 0) := by
      rw [hv1]; simp only [Pu.corrVal]; rw [if_neg hle, if_neg (by simp [btw_iff.2 ⟨a0, a1⟩, btw_iff.2 ⟨b0, b1⟩]), if_pos hr0]
      exact Pu.bool_iff (by simp only [Bool.and_eq_true, beq_iff_eq, decide_eq_true_eq]; omega)
    have hrb : (r == 0) = true := by simp [hr0]
    clear hv1 hle hok HE HV hr0
    by_cases h0 : a + b = 0
    · rw [decide_eq_true h0] at hv4
      subst hv4
      go_wp2_with (first | (go_at_call 14; refine calls_name ?_; intro W hW; have hZs := Z.size; have ZW : Below w.heap.size w W := (by rw [hW]; exact (by repeat first | exact Below.refl _ _ | assumption | (refine Below.alloc ?_ (by first | omega | (simp; done) | (simp; omega)) _) | (refine Below.setCell ?_ (by first | omega | (simp; done) | (simp; omega)) _) | (refine Below.drew ?_) | (refine belowDrewN ?_) | (refine Below.trans ?_ (Below.mono (by assumption) (by first | omega | (simp; done) | (simp; omega)))))); have BL' : Blk W w.heap.size #[.int .i64 r, .int .i64 e, .int .i64 c] 24 := (by rw [hW]; exact (by repeat first | exact blk_at (by first | rfl | omega | (simp; done) | (simp; omega)) | assumption | refine Blk.alloc ?_ _ | refine Blk.drew ?_ | refine Blk.drewN ?_ _ | (refine Blk.other ?_ _ (by first | omega | (simp; done) | (simp; omega))) | (refine Blk.below ?_ (by assumption)))); have BA' : Blk W (w.heap.size + 1) #[.int .i64 a, .int .i64 b] 45 := (by rw [hW]; exact (by repeat first | exact blk_at (by first | rfl | omega | (simp; done) | (simp; omega)) | assumption | refine Blk.alloc ?_ _ | refine Blk.drew ?_ | refine Blk.drewN ?_ _ | (refine Blk.other ?_ _ (by first | omega | (simp; done) | (simp; omega))) | (refine Blk.below ?_ (by assumption)))); clear Z hW hZs BL BA BLc0 BLc1 BLc2 BLl BAc0 BAc1 BAl; go_must (refine (HRc.out W).mono ?_); rintro en w1 ⟨rfl, hb1⟩; have Z := ZW.trans (hb1.mono ZW.size); have BL := BL'.below hb1; have BA := BA'.below hb1; clear hb1 ZW BL' BA'; have BLc0 := BL.cell 0 rfl; have BLc1 := BL.cell 1 rfl; have BLc2 := BL.cell 2 rfl; have BLl := BL.lt; have BAc0 := BA.cell 0 rfl; have BAc1 := BA.cell 1 rfl; have BAl := BA.lt) | (go_at_call 11; go_must (refine (known_any _).mono ?_); rintro en w1 ⟨rfl, hb1⟩; have Z := Z.trans (hb1.mono Z.size); clear hb1))
      all_goals (first | (exfalso; omega) | (go_ret; exact ret_bool rfl Z))
    · rw [decide_eq_false h0] at hv4
      subst hv4
      go_wp2_with (first | (go_at_call 14; refine calls_name ?_; intro W hW; have hZs := Z.size; have ZW : Below w.heap.size w W := (by rw [hW]; exact (by repeat first | exact Below.refl _ _ | assumption | (refine Below.alloc ?_ (by first | omega | (simp; done) | (simp; omega)) _) | (refine Below.setCell ?_ (by first | omega | (simp; done) | (simp; omega)) _) | (refine Below.drew ?_) | (refine belowDrewN ?_) | (refine Below.trans ?_ (Below.mono (by assumption) (by first | omega | (simp; done) | (simp; omega)))))); have BL' : Blk W w.heap.size #[.int .i64 r, .int .i64 e, .int .i64 c] 24 := (by rw [hW]; exact (by repeat first | exact blk_at (by first | rfl | omega | (simp; done) | (simp; omega)) | assumption | refine Blk.alloc ?_ _ | refine Blk.drew ?_ | refine Blk.drewN ?_ _ | (refine Blk.other ?_ _ (by first | omega | (simp; done) | (simp; omega))) | (refine Blk.below ?_ (by assumption)))); have BA' : Blk W (w.heap.size + 1) #[.int .i64 a, .int .i64 b] 45 := (by rw [hW]; exact (by repeat first | exact blk_at (by first | rfl | omega | (simp; done) | (simp; omega)) | assumption | refine Blk.alloc ?_ _ | refine Blk.drew ?_ | refine Blk.drewN ?_ _ | (refine Blk.other ?_ _ (by first | omega | (simp; done) | (simp; omega))) | (refine Blk.below ?_ (by assumption)))); clear Z hW hZs BL BA BLc0 BLc1 BLc2 BLl BAc0 BAc1 BAl; go_must (refine (HRc.out W).mono ?_); rintro en w1 ⟨rfl, hb1⟩; have Z := ZW.trans (hb1.mono ZW.size); have BL := BL'.below hb1; have BA := BA'.below hb1; clear hb1 ZW BL' BA'; have BLc0 := BL.cell 0 rfl; have BLc1 := BL.cell 1 rfl; have BLc2 := BL.cell 2 rfl; have BLl := BL.lt; have BAc0 := BA.cell 0 rfl; have BAc1 := BA.cell 1 rfl; have BAl := BA.lt) | (go_at_call 11; go_must (refine (known_any _).mono ?_); rintro en w1 ⟨rfl, hb1⟩; have Z := Z.trans (hb1.mono Z.size); clear hb1))
      all_goals (first | (exfalso; omega) | (go_ret; exact ret_bool rfl Z))
  case neg =>
  have hrb : (r == 0) = false := by simp [hr0]
  by_cases he9 : 9 < e
  case pos =>
    clear hv1 hle hok HE HV
    go_wp2_with (first | (go_at_call 14; refine calls_name ?_; intro W hW; have hZs := Z.size; have ZW : Below w.heap.size w W := (by rw [hW]; exact (by repeat first | exact Below.refl _ _ | assumption | (refine Below.alloc ?_ (by first | omega | (simp; done) | (simp; omega)) _) | (refine Below.setCell ?_ (by first | omega | (simp; done) | (simp; omega)) _) | (refine Below.drew ?_) | (refine belowDrewN ?_) | (refine Below.trans ?_ (Below.mono (by assumption) (by first | omega | (simp; done) | (simp; omega)))))); have BL' : Blk W w.heap.size #[.int .i64 r, .int .i64 e, .int .i64 c] 24 := (by rw [hW]; exact (by repeat first | exact blk_at (by first | rfl | omega | (simp; done) | (simp; omega)) | assumption | refine Blk.alloc ?_ _ | refine Blk.drew ?_ | refine Blk.drewN ?_ _ | (refine Blk.other ?_ _ (by first | omega | (simp; done) | (simp; omega))) | (refine Blk.below ?_ (by assumption)))); have BA' : Blk W (w.heap.size + 1) #[.int .i64 a, .int .i64 b] 45 := (by rw [hW]; exact (by repeat first | exact blk_at (by first | rfl | omega | (simp; done) | (simp; omega)) | assumption | refine Blk.alloc ?_ _ | refine Blk.drew ?_ | refine Blk.drewN ?_ _ | (refine Blk.other ?_ _ (by first | omega | (simp; done) | (simp; omega))) | (refine Blk.below ?_ (by assumption)))); clear Z hW hZs BL BA BLc0 BLc1 BLc2 BLl BAc0 BAc1 BAl; go_must (refine (HRc.out W).mono ?_); rintro en w1 ⟨rfl, hb1⟩; have Z := ZW.trans (hb1.mono ZW.size); have BL := BL'.below hb1; have BA := BA'.below hb1; clear hb1 ZW BL' BA'; have BLc0 := BL.cell 0 rfl; have BLc1 := BL.cell 1 rfl; have BLc2 := BL.cell 2 rfl; have BLl := BL.lt; have BAc0 := BA.cell 0 rfl; have BAc1 := BA.cell 1 rfl; have BAl := BA.lt) | (go_at_call 11; go_must (refine (known_any _).mono ?_); rintro en w1 ⟨rfl, hb1⟩; have Z := Z.trans (hb1.mono Z.size); clear hb1))
    all_goals (first | (exfalso; omega) | (go_ret; exact ret_bool rfl Z))
  case neg =>
    have hcor := Pu.cor_all hok hr0 (by omega) ⟨a0, a1⟩ ⟨b0, b1⟩
    rw [← hv1] at hcor
    have hE := Pu.ok_e hok
    have he1 : 2 ≤ e := by unfold Pu.Ln.ok at hok; dsimp only at hok; omega
    have HN := Lib.hid (fun W => refNew_any r e c 0 0 W hok (by omega))
    have hso := Pu.start_ok (s := 0) (t := 0) hok (by omega) (by omega) (by omega)
    have hcall := fun W => refCorrects_any r e c hok (by omega) hE.2 (e - 1).toNat (Pu.start ⟨r, e, c⟩ 0 0).s (Pu.start ⟨r, e, c⟩ 0 0).k a b 360 1 W (by omega) (by omega) hso (by omega) (by omega) a0 a1 b0 b1
    have hcall2 : ∀ W, Calls Try.prog 24 #[.agg #[.int .i64 r, .int .i64 e, .int .i64 c], .agg #[.int .i64 (Pu.start ⟨r, e, c⟩ 0 0).s, .int .i64 (Pu.start ⟨r, e, c⟩ 0 0).k], .int .i64 1, .int .i64 a, .int .i64 b] W (Ret W (.bool v1)) := fun W => by rw [← hcor]; exact hcall W
    generalize Pu.start ⟨r, e, c⟩ 0 0 = D at HN hcall2
    obtain ⟨ds, dk⟩ := D
    dsimp only at HN hcall2
    have HC := Lib.hid hcall2
    clear hcall hcall2 hcor hv1 hle hok HE HV hso
    go_wp2_with (first | (go_at_call 14; refine calls_name ?_; intro W hW; have hZs := Z.size; have ZW : Below w.heap.size w W := (by rw [hW]; exact (by repeat first | exact Below.refl _ _ | assumption | (refine Below.alloc ?_ (by first | omega | (simp; done) | (simp; omega)) _) | (refine Below.setCell ?_ (by first | omega | (simp; done) | (simp; omega)) _) | (refine Below.drew ?_) | (refine belowDrewN ?_) | (refine Below.trans ?_ (Below.mono (by assumption) (by first | omega | (simp; done) | (simp; omega)))))); have BL' : Blk W w.heap.size #[.int .i64 r, .int .i64 e, .int .i64 c] 24 := (by rw [hW]; exact (by repeat first | exact blk_at (by first | rfl | omega | (simp; done) | (simp; omega)) | assumption | refine Blk.alloc ?_ _ | refine Blk.drew ?_ | refine Blk.drewN ?_ _ | (refine Blk.other ?_ _ (by first | omega | (simp; done) | (simp; omega))) | (refine Blk.below ?_ (by assumption)))); have BA' : Blk W (w.heap.size + 1) #[.int .i64 a, .int .i64 b] 45 := (by rw [hW]; exact (by repeat first | exact blk_at (by first | rfl | omega | (simp; done) | (simp; omega)) | assumption | refine Blk.alloc ?_ _ | refine Blk.drew ?_ | refine Blk.drewN ?_ _ | (refine Blk.other ?_ _ (by first | omega | (simp; done) | (simp; omega))) | (refine Blk.below ?_ (by assumption)))); clear Z hW hZs BL BA BLc0 BLc1 BLc2 BLl BAc0 BAc1 BAl; go_must (refine (HRc.out W).mono ?_); rintro en w1 ⟨rfl, hb1⟩; have Z := ZW.trans (hb1.mono ZW.size); have BL := BL'.below hb1; have BA := BA'.below hb1; clear hb1 ZW BL' BA'; have BLc0 := BL.cell 0 rfl; have BLc1 := BL.cell 1 rfl; have BLc2 := BL.cell 2 rfl; have BLl := BL.lt; have BAc0 := BA.cell 0 rfl; have BAc1 := BA.cell 1 rfl; have BAl := BA.lt) | (go_at_call 11; go_must (refine (known_any _).mono ?_); rintro en w1 ⟨rfl, hb1⟩; have Z := Z.trans (hb1.mono Z.size); clear hb1))
    all_goals (try (exfalso; omega))
    have x0 := BL.later 0 rfl; have x1 := BL.later 1 rfl; have x2 := BL.later 2 rfl
    have z0 := BA.later 0 rfl; have z1 := BA.later 1 rfl
    have ZZ := Lib.hid Z
    (refine wp_region_later (by kernel_rfl) (by kernel_rfl) ?_; (repeat (any_goals (first | go_big_quiet_step ((first | (go_at_call 19; exact later_call (HN.out _)) | (go_at_call 24; exact later_call (HC.out _)) | (go_at_call 11; exact later_call (known_any _)))) | quiet_step ((first | (go_at_call 19; exact later_call (HN.out _)) | (go_at_call 24; exact later_call (HC.out _)) | (go_at_call 11; exact later_call (known_any _)))) | (refine wpQuiet_step (fun K hK => ?_); go_simp; split <;> (refine hK _ ?_; clear hK K))))); (all_goals (refine wpQuiet_nil ?_; intro wq hw'; obtain ⟨⟨_, hbq⟩, hw''⟩ := hw'; subst hw'')))
    have Z := ZZ.out.trans (hbq.mono ZZ.out.size)
    all_goals go_wp2
    all_goals (go_ret; exact ret_bool rfl Z)
end Go.Proofs.Ytpjlihkpnhamlaa
