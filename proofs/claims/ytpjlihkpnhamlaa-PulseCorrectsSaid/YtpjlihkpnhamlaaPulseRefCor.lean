/- The walk of the reference's Corrects: all lists of faults are tried. -/
import Derived.Test.YtpjlihkpnhamlaaPulseRefRun
import Derived.Deep.DeepMust
set_option linter.unusedSimpArgs false
set_option linter.unusedVariables false
namespace Go.Proofs.Ytpjlihkpnhamlaa
open Go.RowKit Go.Shelf

namespace Pu
/-- a dial behind j impulses, from the minute of the first correction on -/
def runP (l : Ln) (d : Dl) : Nat → Dl
  | 0 => d
  | j + 1 => imp l (l.e + j) 1 (runP l d j)
/-- it is right at each of these minutes, from the second correction on -/
def okT (l : Ln) (d : Dl) : Nat → Bool
  | 0 => true
  | j + 1 => okT l d j && (decide (l.e + j < 2 * l.e) || (runP l d (j + 1)).s == (l.e + j) % 720)
theorem okT_mono {l : Ln} {d : Dl} {j : Nat} (h : okT l d j = false) : ∀ m : Nat, okT l d (j + m) = false
  | 0 => h
  | m + 1 => by rw [← Nat.add_assoc, okT, okT_mono h m]; rfl
theorem okT_le {l : Ln} {d : Dl} {j n : Nat} (h : okT l d j = false) (hj : j ≤ n) : okT l d n = false := by
  have := okT_mono h (n - j)
  rwa [show j + (n - j) = n by omega] at this
def corN (l : Ln) : Nat → Dl → Int → Int → Bool
  | 0, d, _, _ => okT l d (4 * l.e + 1).toNat
  | n + 1, d, a, b => corN l n (imp l (l.e - (n + 1)) 1 d) a b && (a == 0 || corN l n (imp l (l.e - (n + 1)) 0 d) (a - 1) b) && (b == 0 || corN l n (imp l (l.e - (n + 1)) 2 d) a (b - 1))
theorem runP_ok {l : Ln} {d : Dl} {B : Int} (h : d.ok B) (hB : 0 ≤ B) : ∀ j : Nat, (runP l d j).ok (B + j)
  | 0 => by simpa [runP] using h
  | j + 1 => by
    have := imp_ok (l := l) (t := l.e + j) (m := 1) (runP_ok (l := l) h hB j) (by omega)
    simp only [runP]
    unfold Dl.ok at *
    omega
end Pu

/-- between two rounds -/
def CorRel (r e c : Int) (d : Pu.Dl) (w : World) (i : Value) (wr : World) : Prop :=
  ∃ (j : Nat), (j : Int) ≤ 4 * e + 1 ∧ i = .int .i64 (e + j) ∧ Pu.okT ⟨r, e, c⟩ d j = true ∧ Below w.heap.size w wr ∧ Blk wr (w.heap.size + 1) #[.int .i64 (Pu.runP ⟨r, e, c⟩ d j).s, .int .i64 (Pu.runP ⟨r, e, c⟩ d j).k] 37 ∧
    Blk wr w.heap.size #[.int .i64 r, .int .i64 e, .int .i64 c] 24

set_option maxHeartbeats 2000000 in
theorem refCorT_any (r e c s k a b B : Int) (w : World) (h : (Pu.Ln.mk r e c).ok) (he : 1 ≤ e) (he2 : e ≤ 360) (hd : Pu.Dl.ok B ⟨s, k⟩) (hB : 0 ≤ B) (hB2 : B ≤ 1000000) :
    Calls Try.prog 24 #[.agg #[.int .i64 r, .int .i64 e, .int .i64 c], .agg #[.int .i64 s, .int .i64 k], .int .i64 e, .int .i64 a, .int .i64 b] w (Ret w (.bool (Pu.okT ⟨r, e, c⟩ ⟨s, k⟩ (4 * e + 1).toNat))) := by
  have HI := Lib.hid (fun W s k t (hd : Pu.Dl.ok 500000000 ⟨s, k⟩) (ht : 0 ≤ t) => (refImpulse_any r e c s k t 1 W h ht (by omega) hd.1 hd.2.1 hd.2.2.1 hd.2.2.2 : Calls Try.prog 43 #[.agg #[.int .i64 s, .int .i64 k], .agg #[.int .i64 r, .int .i64 e, .int .i64 c], .int .i64 t, .int .i64 1] W (Ret W (.agg #[.int .i64 (Pu.imp ⟨r, e, c⟩ t 1 ⟨s, k⟩).s, .int .i64 (Pu.imp ⟨r, e, c⟩ t 1 ⟨s, k⟩).k]))))
  have HO := Lib.hid (Pu.runP_ok (l := ⟨r, e, c⟩) hd hB)
  obtain ⟨v, hv⟩ : ∃ v, Pu.okT ⟨r, e, c⟩ ⟨s, k⟩ (4 * e + 1).toNat = v := ⟨_, rfl⟩
  rw [hv]
  have HV := Lib.hid hv
  clear h hd hv
  go_enter Try.func24, Try.ntmps24
  go_wp2_with fail
  refine wp_name ?_
  intro W hW
  have ZW : Below w.heap.size w W := by rw [hW]; exact (by repeat first | exact Below.refl _ _ | assumption | (refine Below.alloc ?_ (by first | omega | (simp; done) | (simp; omega)) _) | (refine Below.setCell ?_ (by first | omega | (simp; done) | (simp; omega)) _) | (refine Below.drew ?_) | (refine belowDrewN ?_) | (refine Below.trans ?_ (Below.mono (by assumption) (by first | omega | (simp; done) | (simp; omega)))))
  have BL : Blk W w.heap.size #[.int .i64 r, .int .i64 e, .int .i64 c] 24 := by rw [hW]; exact (by repeat first | exact blk_at (by first | rfl | omega | (simp; done) | (simp; omega)) | assumption | refine Blk.alloc ?_ _ | refine Blk.drew ?_ | refine Blk.drewN ?_ _ | (refine Blk.other ?_ _ (by first | omega | (simp; done) | (simp; omega))) | (refine Blk.below ?_ (by assumption)))
  have BD : Blk W (w.heap.size + 1) #[.int .i64 s, .int .i64 k] 37 := by rw [hW]; exact (by repeat first | exact blk_at (by first | rfl | omega | (simp; done) | (simp; omega)) | assumption | refine Blk.alloc ?_ _ | refine Blk.drew ?_ | refine Blk.drewN ?_ _ | (refine Blk.other ?_ _ (by first | omega | (simp; done) | (simp; omega))) | (refine Blk.below ?_ (by assumption)))
  clear hW
  go_loopw [11] (fun i wr => CorRel r e c ⟨s, k⟩ w i wr) (fun i _ => (5 * e + 1 - intOf i).toNat)
  case atStart => exact ⟨0, by omega, by go_num, rfl, ZW, BD, BL⟩
  case round =>
    obtain ⟨j, hj, rfl, hok, hb, bD, bL⟩ := hrel
    clear ZW BL BD
    have hsz := hb.size
    have ho := HO.out j
    by_cases hin : e + j ≤ 5 * e
    · obtain ⟨R, hR⟩ : ∃ R, Pu.runP ⟨r, e, c⟩ ⟨s, k⟩ j = R := ⟨_, rfl⟩
      rw [hR] at ho bD
      obtain ⟨s1, k1⟩ := R
      obtain ⟨D', hD'⟩ : ∃ D', Pu.imp ⟨r, e, c⟩ (e + j) 1 ⟨s1, k1⟩ = D' := ⟨_, rfl⟩
      have hDm : Pu.runP ⟨r, e, c⟩ ⟨s, k⟩ (j + 1) = D' := by rw [Pu.runP, hR]; exact hD'
      have hOK : Pu.okT ⟨r, e, c⟩ ⟨s, k⟩ (j + 1) = (decide (e + j < 2 * e) || D'.s == (e + j) % 720) := by rw [Pu.okT, hok, hDm]; simp
      have HI2 := Lib.hid (fun W => (hD' ▸ HI.out W s1 k1 (e + j) ⟨ho.1, ho.2.1, ho.2.2.1, by have := ho.2.2.2; dsimp only at this ⊢; omega⟩ (by omega) : Calls Try.prog 43 #[.agg #[.int .i64 s1, .int .i64 k1], .agg #[.int .i64 r, .int .i64 e, .int .i64 c], .int .i64 (e + j), .int .i64 1] W (Ret W (.agg #[.int .i64 (D').s, .int .i64 (D').k]))))
      obtain ⟨s', k'⟩ := D'
      clear ho hR hD'
      have HOK := Lib.hid hOK; have HDM := Lib.hid hDm
      clear hOK hDm hok
      have c0 := bD.cell 0 rfl; have c1 := bD.cell 1 rfl
      have l0 := bL.cell 0 rfl; have l1 := bL.cell 1 rfl; have l2 := bL.cell 2 rfl
      have y1 := bL.lt; have y2 := bD.lt
      have ht0 : (e + j).tmod 720 = (e + j) % 720 := Int.tmod_eq_emod_of_nonneg (by omega)
      go_wp2_with fail
      refine calls_name ?_
      intro W hW
      obtain rfl : W = wr := hW
      refine (HI2.out W).mono ?_
      rintro en w1 ⟨rfl, hb1⟩
      have bD' := bD.below hb1; have bL' := bL.below hb1
      have g0 := bD'.free
      have hbb : Below w.heap.size w w1 := hb.trans (hb1.mono hb.size)
      have hz1 := hb1.size
      have y1' := bL'.lt; have y2' := bD'.lt
      have l0 := bL'.cell 0 rfl; have l1 := bL'.cell 1 rfl; have l2 := bL'.cell 2 rfl
      have c0 := bD'.cell 0 rfl; have c1 := bD'.cell 1 rfl
      clear hb1 hb bD bL
      rcases Int.lt_or_le (e + j) (2 * e) with hge | hge
      case' inl =>
        have hok' : Pu.okT ⟨r, e, c⟩ ⟨s, k⟩ (j + 1) = true := by rw [HOK.out]; simp [hge]
        have hOK' := Lib.hid hok'
        clear hok'
        go_wp2
      case' inr =>
        rcases Decidable.em (s' = (e + j) % 720) with rfl | hc
        case' inr =>
          have hf : Pu.okT ⟨r, e, c⟩ ⟨s, k⟩ (j + 1) = false := by rw [HOK.out]; simp [hc]; omega
          have hv0 : v = false := by rw [← HV.out]; exact Pu.okT_le hf (by omega)
          subst hv0
          clear hf
          go_wp2
          go_ret
          exact ret_bool rfl (by repeat first | exact Below.refl _ _ | assumption | (refine Below.alloc ?_ (by first | omega | (simp; done) | (simp; omega)) _) | (refine Below.setCell ?_ (by first | omega | (simp; done) | (simp; omega)) _) | (refine Below.drew ?_) | (refine belowDrewN ?_) | (refine Below.trans ?_ (Below.mono (by assumption) (by first | omega | (simp; done) | (simp; omega)))))
        case' inl =>
          have hok' : Pu.okT ⟨r, e, c⟩ ⟨s, k⟩ (j + 1) = true := by rw [HOK.out]; simp
          have hOK' := Lib.hid hok'
          clear hok'
          go_wp2
      all_goals (
        refine ⟨⟨j + 1, by omega, by go_num, hOK'.out, (by repeat first | exact Below.refl _ _ | assumption | (refine Below.alloc ?_ (by first | omega | (simp; done) | (simp; omega)) _) | (refine Below.setCell ?_ (by first | omega | (simp; done) | (simp; omega)) _) | (refine Below.drew ?_) | (refine belowDrewN ?_) | (refine Below.trans ?_ (Below.mono (by assumption) (by first | omega | (simp; done) | (simp; omega))))), ?_, ?_⟩, by simp [intOf]; omega⟩
        · rw [HDM.out]; exact (bD'.set 0 _).set 1 _
        · exact (bL'.other _ (by first | omega | (simp; done) | (simp; omega))).other _ (by first | omega | (simp; done) | (simp; omega)))
    · have hj2 : (4 * e + 1).toNat = j := by omega
      have hv0 : v = true := by rw [← HV.out, hj2]; exact hok
      subst hv0
      have l1 := bL.cell 1 rfl
      clear hj2
      go_wp2
      go_ret
      exact ret_bool rfl hb
set_option maxHeartbeats 4000000 in
theorem refCorrects_any (r e c : Int) (h : (Pu.Ln.mk r e c).ok) (he : 1 ≤ e) (he2 : e ≤ 360) : ∀ (n : Nat) (s k a b B M : Int) (w : World), (n : Int) ≤ e → M = e - n → Pu.Dl.ok B ⟨s, k⟩ → 0 ≤ B → B + 2 * n ≤ 1000000 → 0 ≤ a → a ≤ 20 → 0 ≤ b → b ≤ 20 →
    Calls Try.prog 24 #[.agg #[.int .i64 r, .int .i64 e, .int .i64 c], .agg #[.int .i64 s, .int .i64 k], .int .i64 M, .int .i64 a, .int .i64 b] w (Ret w (.bool (Pu.corN ⟨r, e, c⟩ n ⟨s, k⟩ a b))) := by
  intro n
  induction n with
  | zero =>
    intro s k a b B M w hn hM hd hB hB2 ha ha2 hb hb2
    obtain rfl : M = e := by omega
    exact refCorT_any r M c s k a b B w h he he2 hd hB (by omega)
  | succ n ih =>
    intro s k a b B M w hn hM hd hB hB2 ha ha2 hb hb2
    simp only [Int.natCast_add, Int.natCast_one] at hn hM hB2
    obtain ⟨D0, hD0⟩ : ∃ D, Pu.imp ⟨r, e, c⟩ M 0 ⟨s, k⟩ = D := ⟨_, rfl⟩
    obtain ⟨D1, hD1⟩ : ∃ D, Pu.imp ⟨r, e, c⟩ M 1 ⟨s, k⟩ = D := ⟨_, rfl⟩
    obtain ⟨D2, hD2⟩ : ∃ D, Pu.imp ⟨r, e, c⟩ M 2 ⟨s, k⟩ = D := ⟨_, rfl⟩
    have o0 := Pu.imp_ok (l := ⟨r, e, c⟩) (t := M) (m := 0) hd hB
    have o1 := Pu.imp_ok (l := ⟨r, e, c⟩) (t := M) (m := 1) hd hB
    have o2 := Pu.imp_ok (l := ⟨r, e, c⟩) (t := M) (m := 2) hd hB
    have hd' := hd
    obtain ⟨d0, d1, d2, d3⟩ := hd
    dsimp only at d0 d1 d2 d3
    have I0 := Lib.hid (fun W => (hD0 ▸ refImpulse_any r e c s k M 0 W h (by omega) (by omega) d0 d1 d2 (by omega) : Calls Try.prog 43 #[.agg #[.int .i64 s, .int .i64 k], .agg #[.int .i64 r, .int .i64 e, .int .i64 c], .int .i64 M, .int .i64 0] W (Ret W (.agg #[.int .i64 (D0).s, .int .i64 (D0).k]))))
    have I1 := Lib.hid (fun W => (hD1 ▸ refImpulse_any r e c s k M 1 W h (by omega) (by omega) d0 d1 d2 (by omega) : Calls Try.prog 43 #[.agg #[.int .i64 s, .int .i64 k], .agg #[.int .i64 r, .int .i64 e, .int .i64 c], .int .i64 M, .int .i64 1] W (Ret W (.agg #[.int .i64 (D1).s, .int .i64 (D1).k]))))
    have I2 := Lib.hid (fun W => (hD2 ▸ refImpulse_any r e c s k M 2 W h (by omega) (by omega) d0 d1 d2 (by omega) : Calls Try.prog 43 #[.agg #[.int .i64 s, .int .i64 k], .agg #[.int .i64 r, .int .i64 e, .int .i64 c], .int .i64 M, .int .i64 2] W (Ret W (.agg #[.int .i64 (D2).s, .int .i64 (D2).k]))))
    have hv : Pu.corN ⟨r, e, c⟩ (n + 1) ⟨s, k⟩ a b = (Pu.corN ⟨r, e, c⟩ n D1 a b && (a == 0 || Pu.corN ⟨r, e, c⟩ n D0 (a - 1) b) && (b == 0 || Pu.corN ⟨r, e, c⟩ n D2 a (b - 1))) := by
      rw [Pu.corN]; dsimp only; rw [show e - ((n : Int) + 1) = M by omega, hD0, hD1, hD2]
    rw [hD0] at o0; rw [hD1] at o1; rw [hD2] at o2
    obtain ⟨s0, k0⟩ := D0; obtain ⟨s1, k1⟩ := D1; obtain ⟨s2, k2⟩ := D2
    have C1 := Lib.hid (fun W => ih s1 k1 a b (B + 1) (M + 1) W (by omega) (by omega) o1 (by omega) (by omega) ha ha2 hb hb2)
    have C0 := Lib.hid (fun (h0 : a ≠ 0) W => ih s0 k0 (a - 1) b (B + (0 : Nat)) (M + 1) W (by omega) (by omega) o0 (by omega) (by omega) (by omega) (by omega) hb hb2)
    have C2 := Lib.hid (fun (h0 : b ≠ 0) W => ih s2 k2 a (b - 1) (B + (2 : Nat)) (M + 1) W (by omega) (by omega) o2 (by omega) (by omega) ha ha2 (by omega) (by omega))
    generalize Pu.corN ⟨r, e, c⟩ n ⟨s1, k1⟩ a b = v1 at hv C1
    generalize Pu.corN ⟨r, e, c⟩ n ⟨s0, k0⟩ (a - 1) b = v0 at hv C0
    generalize Pu.corN ⟨r, e, c⟩ n ⟨s2, k2⟩ a (b - 1) = v2 at hv C2
    obtain ⟨v, hvv⟩ : ∃ v, Pu.corN ⟨r, e, c⟩ (n + 1) ⟨s, k⟩ a b = v := ⟨_, rfl⟩
    rw [hvv] at hv ⊢
    have HV := Lib.hid hv
    have hM2 : ¬ M = e := by omega
    have hM3 : 0 ≤ M := by omega
    have hM4 : M ≤ 360 := by omega
    clear ih hv hvv o0 o1 o2 hD0 hD1 hD2 hd' d0 d1 d2 d3 hM hn hB hB2
    go_enter Try.func24, Try.ntmps24
    go_wp2_with fail
    refine wp_name ?_
    intro W hW
    have ZW : Below w.heap.size w W := by rw [hW]; exact (by repeat first | exact Below.refl _ _ | assumption | (refine Below.alloc ?_ (by first | omega | (simp; done) | (simp; omega)) _) | (refine Below.setCell ?_ (by first | omega | (simp; done) | (simp; omega)) _) | (refine Below.drew ?_) | (refine belowDrewN ?_) | (refine Below.trans ?_ (Below.mono (by assumption) (by first | omega | (simp; done) | (simp; omega)))))
    have BL : Blk W w.heap.size #[.int .i64 r, .int .i64 e, .int .i64 c] 24 := by rw [hW]; exact (by repeat first | exact blk_at (by first | rfl | omega | (simp; done) | (simp; omega)) | assumption | refine Blk.alloc ?_ _ | refine Blk.drew ?_ | refine Blk.drewN ?_ _ | (refine Blk.other ?_ _ (by first | omega | (simp; done) | (simp; omega))) | (refine Blk.below ?_ (by assumption)))
    have BD : Blk W (w.heap.size + 1) #[.int .i64 s, .int .i64 k] 37 := by rw [hW]; exact (by repeat first | exact blk_at (by first | rfl | omega | (simp; done) | (simp; omega)) | assumption | refine Blk.alloc ?_ _ | refine Blk.drew ?_ | refine Blk.drewN ?_ _ | (refine Blk.other ?_ _ (by first | omega | (simp; done) | (simp; omega))) | (refine Blk.below ?_ (by assumption)))
    clear hW
    have x0 := BL.later 0 rfl; have x1 := BL.later 1 rfl; have x2 := BL.later 2 rfl
    have y0 := BD.later 0 rfl; have y1 := BD.later 1 rfl
    have key : (v1 = false) ∨ (v1 = true ∧ a ≠ 0 ∧ v0 = false) ∨ (v1 = true ∧ (a = 0 ∨ (a ≠ 0 ∧ v0 = true)) ∧ (b = 0 ∨ (b ≠ 0 ∧ v2 = false) ∨ (b ≠ 0 ∧ v2 = true))) := by
      cases v1 <;> cases v0 <;> cases v2 <;> simp <;> omega
    rcases key with rfl | ⟨rfl, ha0, rfl⟩ | ⟨rfl, rfl | ⟨ha0, rfl⟩, rfl | ⟨hb0, rfl⟩ | ⟨hb0, rfl⟩⟩
    all_goals (
      try (have hab : (a == 0) = false := beq_eq_false_iff_ne.2 ha0)
      try (have hbb : (b == 0) = false := beq_eq_false_iff_ne.2 hb0)
      refine wp_region_later (by kernel_rfl) (by kernel_rfl) ?_
      (repeat (first | go_big_quiet_step ((first | (go_at_call 43; first | (with_reducible exact later_call (I1.out _)) | (with_reducible exact later_call (I0.out _)) | (with_reducible exact later_call (I2.out _))) | (go_at_call 24; first | (with_reducible exact later_call (C1.out _)) | (with_reducible exact later_call (C0.out ha0 _)) | (with_reducible exact later_call (C2.out hb0 _)))))))
      try simp only [hab]
      (repeat (first | go_big_quiet_step ((first | (go_at_call 43; first | (with_reducible exact later_call (I1.out _)) | (with_reducible exact later_call (I0.out _)) | (with_reducible exact later_call (I2.out _))) | (go_at_call 24; first | (with_reducible exact later_call (C1.out _)) | (with_reducible exact later_call (C0.out ha0 _)) | (with_reducible exact later_call (C2.out hb0 _)))))))
      try simp only [hbb]
      (repeat (first | go_big_quiet_step ((first | (go_at_call 43; first | (with_reducible exact later_call (I1.out _)) | (with_reducible exact later_call (I0.out _)) | (with_reducible exact later_call (I2.out _))) | (go_at_call 24; first | (with_reducible exact later_call (C1.out _)) | (with_reducible exact later_call (C0.out ha0 _)) | (with_reducible exact later_call (C2.out hb0 _)))))))
      refine wpQuiet_nil ?_
      intro wq hw'
      obtain ⟨⟨_, hbq⟩, hw''⟩ := hw'
      subst hw''
      have Z := ZW.trans (hbq.mono ZW.size)
      go_wp2
      go_ret
      exact ret_bool (by rw [HV.out]; simp [*]) Z)
end Go.Proofs.Ytpjlihkpnhamlaa
