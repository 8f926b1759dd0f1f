/- The walk of the reference's Back: minute by minute. -/
import Derived.Test.YtpjlihkpnhamlaaPulseRefRun
import Derived.Test.YtpjlihkpnhamlaaPulseBack0
import Derived.Test.YtpjlihkpnhamlaaPulseFolRun
import Derived.Deep.RegionHeld3
import Derived.Deep.DeepMust
set_option linter.unusedSimpArgs false
set_option linter.unusedVariables false
namespace Go.Proofs.Ytpjlihkpnhamlaa
open Go.RowKit Go.Shelf

namespace Pu
/-- from when on a dial is right, by the reference, behind k impulses -/
def backR (l : Ln) (f : Int) (fs : List (Int × Int)) (d : Dl) (last : Int) : Nat → Int
  | 0 => last
  | k + 1 => if last ≤ f + k + 1 ∧ (runN l f fs d (k + 1)).s ≠ (f + k + 1) % 720 then f + k + 1 + 1 else backR l f fs d last k
theorem back_eq {l : Ln} {U f : Int} {fs : List (Int × Int)} {d : Dl} {last : Int} (h : chkFs l U f fs = true) : ∀ k : Nat, backAt l f fs d last k = backR l f fs d last k
  | 0 => rfl
  | k + 1 => by rw [backAt, backR, fol_run h, back_eq h k]
theorem backR_btw {l : Ln} {f : Int} {fs : List (Int × Int)} {d : Dl} {last : Int} (h : f ≤ last) : ∀ k : Nat, last ≤ backR l f fs d last k ∧ (backR l f fs d last k ≤ last ∨ backR l f fs d last k ≤ f + k + 1)
  | 0 => by simp [backR]
  | k + 1 => by
    have := backR_btw (l := l) (fs := fs) (d := d) h k
    rw [backR]
    split <;> omega
theorem start_s {l : Ln} {s t : Int} : (start l s t).s = s := by unfold start; split <;> rfl
end Pu

theorem last_key {f last : Int} {a : Option Addr} {fs : List (Int × Int)} {w : World} (hf : IsPairs w a fs) (hl : Pu.lastF f fs = last) :
    (0 < fs.length ∧ ∃ b o, a = some ⟨b, o, none⟩ ∧ b < w.heap.size ∧ w.cell? ⟨b, o + (fs.length - 1) * 2, none⟩ = some (.int .i64 last) ∧ ((fs.length : Int) - 1).toNat = fs.length - 1) ∨ (fs.length = 0 ∧ last = f) := by
  by_cases hn : 0 < fs.length
  · obtain ⟨b, o, q1, q2, q3, _⟩ := hf.2 (fs.length - 1) (by omega)
    rw [← Pu.lastF_get (f := f) hn, hl] at q3
    exact .inl ⟨hn, b, o, q1, q2, q3, by omega⟩
  · have : fs = [] := by cases fs <;> simp_all
    refine .inr ⟨by omega, ?_⟩
    rw [← hl, this]; rfl

/-- between two rounds -/
def RefBackRel (r e c f last : Int) (fs : List (Int × Int)) (d : Pu.Dl) (U : Int) (LB DB : Nat) (w : World) (x i : Value) (wr : World) : Prop :=
  ∃ (n : Nat), (n : Int) ≤ U + 1 - f ∧ i = .int .i64 (f + n) ∧ x = .int .i64 (Pu.backR ⟨r, e, c⟩ f fs d last (n - 1)) ∧ Below w.heap.size w wr ∧ DB < wr.heap.size ∧ LB < wr.heap.size ∧ Blk wr DB #[.int .i64 (Pu.runN ⟨r, e, c⟩ f fs d (n - 1)).s, .int .i64 (Pu.runN ⟨r, e, c⟩ f fs d (n - 1)).k] 37 ∧
    Blk wr LB #[.int .i64 r, .int .i64 e, .int .i64 c] 24

set_option maxHeartbeats 4000000 in
theorem refBack_any (r e c f : Int) (a : Option Addr) (cp : Nat) (fs : List (Int × Int)) (w : World) (h : (Pu.Ln.mk r e c).ok) (hf : IsPairs w a fs) (f0 : 0 ≤ f) (f1 : f ≤ 100000) (hk : Pu.chkFs ⟨r, e, c⟩ (f + 5000) f fs = true) (hl20 : fs.length ≤ 20) (last : Int) (hlast : Pu.lastF f fs = last) (d : Pu.Dl) (hd : Pu.start ⟨r, e, c⟩ (f % 720) f = d) (A : Int) (hA : Pu.backR ⟨r, e, c⟩ f fs d last (last + 3 * e - f).toNat = A) :
    Calls Try.prog 22 #[.agg #[.int .i64 r, .int .i64 e, .int .i64 c], .int .i64 f, .slice a fs.length cp] w
      (Ret w (.tuple #[.int .i64 A, .bool (decide (A ≤ last + 3 * e))])) := by
  have hl := Pu.lastF_btw hk (by omega)
  rw [hlast] at hl
  have hE := Pu.ok_e h
  dsimp only at hE
  have key := last_key hf hlast
  have HF := Lib.hid hf; clear hf
  have hm720 : 0 ≤ f % 720 ∧ f % 720 < 720 := by omega
  have HN := Lib.hid (fun W => refNew_any r e c (f % 720) f W h f0)
  have hso := Pu.start_ok (s := f % 720) (t := f) h hm720.1 hm720.2 f0
  have hs0 : (Pu.start ⟨r, e, c⟩ (f % 720) f).s = f % 720 := Pu.start_s
  rw [hd] at HN hso hs0
  rw [show f % 720 = f.tmod 720 from (Int.tmod_eq_emod_of_nonneg f0).symm] at HN
  obtain ⟨s0, k0⟩ := d
  dsimp only at HN hs0
  have HI := Lib.hid (fun W s k t (m : Nat) (hd : Pu.Dl.ok 500000000 ⟨s, k⟩) (ht : 0 ≤ t) (hm : m ≤ 2) => refImpulse_any r e c s k t m W h ht hm hd.1 hd.2.1 hd.2.2.1 hd.2.2.2)
  have HM := Lib.hid (fun W t (hW : Below w.heap.size w W) => refMoves_any a cp fs t W (HF.out.below hW))
  have HO := Lib.hid (Pu.runN_ok (l := ⟨r, e, c⟩) (f := f) (fs := fs) (d := ⟨s0, k0⟩) (B := 360) hso (by omega))
  have HA := Lib.hid hA; have HS := Lib.hid hs0
  have hwr : IntKind.i64.wrap (last + IntKind.i64.wrap (3 * e)) = last + 3 * e := by rw [IntKind.wrap_i64, IntKind.wrap_i64]; omega
  clear h hk hlast hd hso hA hs0
  rcases key with ⟨hn, b, o, rfl, q2, q3, hli⟩ | ⟨hn, hlf⟩
  case' inl =>
    have g3 : ∀ w1 : World, Below w.heap.size w w1 → w1.cell? ⟨b, o + (fs.length - 1) * 2, none⟩ = some (.int .i64 last) := fun w1 hb => (hb.cell (p := ⟨b, _, none⟩) q2).trans q3
    go_enter Try.func22, Try.ntmps22
    go_wp2_with fail
    refine wp_name ?_
    intro W hW
    have BL : Blk W w.heap.size #[.int .i64 r, .int .i64 e, .int .i64 c] 24 := by rw [hW]; exact (by repeat first | exact blk_at (by first | rfl | omega | (simp; done) | (simp; omega)) | assumption | refine Blk.alloc ?_ _ | refine Blk.drew ?_ | refine Blk.drewN ?_ _ | (refine Blk.other ?_ _ (by first | omega | (simp; done) | (simp; omega))) | (refine Blk.below ?_ (by assumption)))
    have ZW : Below w.heap.size w W := by rw [hW]; exact (by repeat first | exact Below.refl _ _ | assumption | (refine Below.alloc ?_ (by first | omega | (simp; done) | (simp; omega)) _) | (refine Below.setCell ?_ (by first | omega | (simp; done) | (simp; omega)) _) | (refine Below.drew ?_) | (refine belowDrewN ?_) | (refine Below.trans ?_ (Below.mono (by assumption) (by first | omega | (simp; done) | (simp; omega)))))
    clear hW
  case' inr =>
    subst hlf
    have hn' : ¬ 0 < fs.length := by omega
    clear hn
    go_enter Try.func22, Try.ntmps22
    go_wp2_with fail
    refine wp_name ?_
    intro W hW
    have BL : Blk W w.heap.size #[.int .i64 r, .int .i64 e, .int .i64 c] 24 := by rw [hW]; exact (by repeat first | exact blk_at (by first | rfl | omega | (simp; done) | (simp; omega)) | assumption | refine Blk.alloc ?_ _ | refine Blk.drew ?_ | refine Blk.drewN ?_ _ | (refine Blk.other ?_ _ (by first | omega | (simp; done) | (simp; omega))) | (refine Blk.below ?_ (by assumption)))
    have ZW : Below w.heap.size w W := by rw [hW]; exact (by repeat first | exact Below.refl _ _ | assumption | (refine Below.alloc ?_ (by first | omega | (simp; done) | (simp; omega)) _) | (refine Below.setCell ?_ (by first | omega | (simp; done) | (simp; omega)) _) | (refine Below.drew ?_) | (refine belowDrewN ?_) | (refine Below.trans ?_ (Below.mono (by assumption) (by first | omega | (simp; done) | (simp; omega)))))
    clear hW
  case inr =>
    have HALL := Lib.hid (And.intro hl (And.intro hE (And.intro hm720 (And.intro hwr ZW))))
    clear hl20 hl hE hm720 ZW
    have x0 := BL.cell 0 rfl; have x1 := BL.cell 1 rfl; have x2 := BL.cell 2 rfl
    have lL := BL.lt
    have z0 : W.drew.cell? ⟨w.heap.size, 0, none⟩ = some (.int .i64 r) := x0
    have z1 : W.drew.cell? ⟨w.heap.size, 1, none⟩ = some (.int .i64 e) := x1
    have z2 : W.drew.cell? ⟨w.heap.size, 2, none⟩ = some (.int .i64 c) := x2
    go_region_held3 (fun w' => w'.cell? ⟨w.heap.size, 0, none⟩ = some (.int .i64 r) ∧ w'.cell? ⟨w.heap.size, 1, none⟩ = some (.int .i64 e) ∧ w'.cell? ⟨w.heap.size, 2, none⟩ = some (.int .i64 c)) (first | (with_reducible exact ⟨x0, x1, x2⟩) | (with_reducible exact ⟨z0, z1, z2⟩) | (with_reducible exact ⟨y0, y1, y2⟩) | (go_keep; done) | (refine ⟨Blk.cell (vs := #[.int .i64 r, .int .i64 e, .int .i64 c]) (t := 24) ?_ 0 rfl, Blk.cell (vs := #[.int .i64 r, .int .i64 e, .int .i64 c]) (t := 24) ?_ 1 rfl, Blk.cell (vs := #[.int .i64 r, .int .i64 e, .int .i64 c]) (t := 24) ?_ 2 rfl⟩ <;> exact (by repeat first | exact blk_at (by first | rfl | omega | (simp; done) | (simp; omega)) | assumption | refine Blk.alloc ?_ _ | refine Blk.drew ?_ | refine Blk.drewN ?_ _ | (refine Blk.other ?_ _ (by first | omega | (simp; done) | (simp; omega))) | (refine Blk.below ?_ (by assumption)))))
      (first | (go_at_call 19; go_must (refine (HN.out _).mono ?_); rintro en w1 ⟨rfl, hb1⟩; go_must (first | ((with_reducible have hA : Below W.drew.heap.size W.drew w1 := hb1); have BY := BL.drew.below hA; have hN : Below W.heap.size W w1 := (Below.refl _ W).drew.trans hA) | ((with_reducible have hA : Below (W.alloc (.cells #[.int .i64 0, .int .i64 0] 37)).drew.heap.size (W.alloc (.cells #[.int .i64 0, .int .i64 0] 37)).drew w1 := hb1); have BY := (BL.alloc _).drew.below hA; have nb := (Blk.new W #[.int .i64 0, .int .i64 0] 37).drew.below hA; have nf := nb.free; have nc0 := nb.cell 0 rfl; have nc1 := nb.cell 1 rfl; have hN : Below W.heap.size W w1 := ((Below.refl _ W).alloc (Nat.le_refl _) _).drew.trans (hA.mono (by simp)))); have y0 := BY.cell 0 rfl; have y1 := BY.cell 1 rfl; have y2 := BY.cell 2 rfl; have yl := BY.lt))
    all_goals (
      obtain ⟨hl, hE, hm720, hwr, ZW⟩ := HALL.out
      have Z1 : Below w.heap.size w w1 := ZW.trans (hN.mono ZW.size)
      have hzN := hN.size
      have hzW := ZW.size
      go_wp2_with fail
      refine wp_name ?_
      intro W2 hW2
      try rw [hwr]
      first
        | (have DQ : Blk W2 W.heap.size #[.int .i64 s0, .int .i64 k0] 37 := (by rw [hW2]; exact (nb.set 0 _).set 1 _)
           have LQ : Blk W2 w.heap.size #[.int .i64 r, .int .i64 e, .int .i64 c] 24 := (by rw [hW2]; exact (BY.other _ (by dsimp only; omega)).other _ (by dsimp only; omega))
           have Z2 : Below w.heap.size w W2 := (by rw [hW2]; exact (Z1.setCell (by dsimp only; omega) _).setCell (by dsimp only; omega) _)
           have hlt := lL
           clear hW2 nb nf nc0 nc1 y0 y1 y2 z0 z1 z2 x0 x1 x2 hN hA hb1 BY BL ZW Z1 hzN hzW lL yl
           obtain ⟨DB, hDB⟩ : ∃ DB, W.heap.size = DB := ⟨_, rfl⟩
           rw [hDB] at DQ hlt ⊢)
        | (have DQ : Blk W2 w1.heap.size #[.int .i64 s0, .int .i64 k0] 37 := (by rw [hW2]; exact Blk.new _ _ _)
           have LQ : Blk W2 w.heap.size #[.int .i64 r, .int .i64 e, .int .i64 c] 24 := (by rw [hW2]; exact BY.alloc _)
           have Z2 : Below w.heap.size w W2 := (by rw [hW2]; exact Z1.alloc (by omega) _)
           have hlt := yl
           clear hW2 y0 y1 y2 z0 z1 z2 x0 x1 x2 hN hA hb1 BY BL ZW Z1 hzN hzW lL yl
           obtain ⟨DB, hDB⟩ : ∃ DB, w1.heap.size = DB := ⟨_, rfl⟩
           rw [hDB] at DQ hlt ⊢)
      clear hDB hwr
      go_loopw [10, 12] (fun x i wr => RefBackRel r e c last last fs ⟨s0, k0⟩ (last + 3 * e) w.heap.size DB w x i wr) (fun _ i _ => (last + 3 * e + 1 - intOf i).toNat)
      case atStart => exact ⟨0, by omega, by go_num, rfl, Z2, DQ.lt, LQ.lt, DQ, LQ⟩)
    all_goals (
      have f0' : 0 ≤ last := f0
      obtain ⟨n, hnn, hi, hx, hb, hzD, hzL, bD, bL⟩ := hrel
      clear DQ LQ Z2
      by_cases hin : last + n ≤ last + 3 * e
      · rcases Nat.eq_zero_or_pos n with h0 | hp
        · subst h0
          have e1 : u12 = .int .i64 last := by rw [hi]; go_num
          have e2 : u10 = .int .i64 last := hx
          have hs0 := HS.out
          subst e1 e2 hs0
          clear hi hx
          have c0 : wr.cell? ⟨DB, 0, none⟩ = some (.int .i64 (last % 720)) := bD.cell 0 rfl
          have ht0 : (last).tmod 720 = last % 720 := Int.tmod_eq_emod_of_nonneg f0'
          have hnlt : ¬ last < last := by omega
          by_cases hge : last ≤ last
          all_goals go_wp2
          all_goals first | (exfalso; omega) | exact ⟨⟨1, by omega, by go_num, rfl, (by repeat first | exact Below.refl _ _ | assumption | (refine Below.alloc ?_ (by first | omega | (simp; done) | (simp; omega)) _) | (refine Below.setCell ?_ (by first | omega | (simp; done) | (simp; omega)) _) | (refine Below.drew ?_) | (refine belowDrewN ?_) | (refine Below.trans ?_ (Below.mono (by assumption) (by first | omega | (simp; done) | (simp; omega))))), hzD, hzL, bD, bL⟩, by simp [intOf]; omega⟩
        · obtain ⟨m, rfl⟩ : ∃ m, n = m + 1 := ⟨n - 1, by omega⟩
          have e1 : u12 = .int .i64 (last + m + 1) := by rw [hi]; go_num
          have ho := HO.out m
          simp only [Nat.add_sub_cancel] at hx bD
          obtain ⟨A0, hA0⟩ : ∃ A0, Pu.backR ⟨r, e, c⟩ last fs ⟨s0, k0⟩ last m = A0 := ⟨_, rfl⟩
          obtain ⟨R, hR⟩ : ∃ R, Pu.runN ⟨r, e, c⟩ last fs ⟨s0, k0⟩ m = R := ⟨_, rfl⟩
          have hbt := Pu.backR_btw (l := ⟨r, e, c⟩) (fs := fs) (d := ⟨s0, k0⟩) hl.1 m
          rw [hA0] at hx hbt
          rw [hR] at ho bD
          obtain ⟨s1, k1⟩ := R
          obtain ⟨D', hD'⟩ : ∃ D', Pu.imp ⟨r, e, c⟩ (last + m + 1) (Pu.movesAt fs (last + m + 1)) ⟨s1, k1⟩ = D' := ⟨_, rfl⟩
          have hDm : Pu.runN ⟨r, e, c⟩ last fs ⟨s0, k0⟩ (m + 1) = D' := by rw [Pu.runN, hR]; exact hD'
          have hBK : Pu.backR ⟨r, e, c⟩ last fs ⟨s0, k0⟩ last (m + 1) = if last ≤ last + m + 1 ∧ D'.s ≠ (last + m + 1) % 720 then last + m + 1 + 1 else A0 := by rw [Pu.backR, hDm, hA0]
          have hmm : (m : Int) ≤ 6100 := by omega
          have HI2 := Lib.hid (fun W => (hD' ▸ HI.out W s1 k1 (last + m + 1) (Pu.movesAt fs (last + m + 1)) ⟨ho.1, ho.2.1, ho.2.2.1, by have := ho.2.2.2; dsimp only at this ⊢; omega⟩ (by omega) (Pu.movesAt_le _ _) : Calls Try.prog 43 #[.agg #[.int .i64 s1, .int .i64 k1], .agg #[.int .i64 r, .int .i64 e, .int .i64 c], .int .i64 (last + m + 1), .int .i64 (Pu.movesAt fs (last + m + 1))] W (Ret W (.agg #[.int .i64 (D').s, .int .i64 (D').k]))))
          obtain ⟨s', k'⟩ := D'
          subst e1 hx
          clear hi ho hR hD' hA0 hp
          have HBK := Lib.hid hBK; have HDM := Lib.hid hDm
          clear hBK hDm
          have x00 := bD.later 0 rfl; have x01 := bD.later 1 rfl
          have x10 := bL.later 0 rfl; have x11 := bL.later 1 rfl; have x12 := bL.later 2 rfl
          have ht0 : (last + m + 1).tmod 720 = (last + m + 1) % 720 := Int.tmod_eq_emod_of_nonneg (by omega)
          have hgt : last < last + m + 1 := by omega
          go_wp2_with fail
          (refine wp_region_tail 7 (by kernel_rfl) (by kernel_rfl) ?_; simp only [List.take_succ_cons, List.take_zero, List.drop_succ_cons, List.drop_zero]; (repeat (any_goals (first | go_big_quiet_step ((first | (go_at_call 44; exact later_call (HM.out _ _ (later_trans hb _))) | (go_at_call 43; exact later_call (HI2.out _)))) | quiet_step ((first | (go_at_call 44; exact later_call (HM.out _ _ (later_trans hb _))) | (go_at_call 43; exact later_call (HI2.out _)))) | (refine wpQuiet_step (fun K hK => ?_); go_simp; split <;> (refine hK _ ?_; clear hK K))))); (all_goals (refine wpQuiet_nil ?_; intro wq hw'; obtain ⟨⟨_, hbq⟩, hw''⟩ := hw'; subst hw'')))
          have bD' := bD.below hbq; have bL' := bL.below hbq
          have hzq := hbq.size
          have g0 := bD'.free
          have c00 := bD'.cell 0 rfl; have c01 := bD'.cell 1 rfl
          have hbb : Below w.heap.size w wq := hb.trans (hbq.mono hb.size)
          clear x00 x01 x10 x11 x12
          by_cases hge : last ≤ last + m + 1
          all_goals rcases Decidable.em (s' = (last + m + 1) % 720) with rfl | hc
          all_goals go_wp2
          all_goals first | (exfalso; omega) | skip
          all_goals (
            refine ⟨⟨m + 2, by omega, by go_num, ?_, (by repeat first | exact Below.refl _ _ | assumption | (refine Below.alloc ?_ (by first | omega | (simp; done) | (simp; omega)) _) | (refine Below.setCell ?_ (by first | omega | (simp; done) | (simp; omega)) _) | (refine Below.drew ?_) | (refine belowDrewN ?_) | (refine Below.trans ?_ (Below.mono (by assumption) (by first | omega | (simp; done) | (simp; omega))))), by simp; omega, by simp; omega, ?_, ?_⟩, by simp [intOf]; omega⟩
            · show _ = Value.int .i64 (Pu.backR ⟨r, e, c⟩ last fs ⟨s0, k0⟩ last (m + 1))
              rw [HBK.out]; simp [*]
            · show Blk _ DB #[.int .i64 (Pu.runN ⟨r, e, c⟩ last fs ⟨s0, k0⟩ (m + 1)).s, .int .i64 (Pu.runN ⟨r, e, c⟩ last fs ⟨s0, k0⟩ (m + 1)).k] _
              rw [HDM.out]; exact (bD'.set 0 _).set 1 _
            · exact (bL'.other _ (by first | omega | (simp; done) | (simp; omega))).other _ (by first | omega | (simp; done) | (simp; omega)))
      · have hn' : (last + 3 * e - last).toNat = n - 1 := by omega
        have hA2 := HA.out
        rw [hn'] at hA2
        rw [hA2] at hx
        have e1 : u12 = .int .i64 (last + n) := hi
        subst e1 hx
        have hbt := Pu.backR_btw (l := ⟨r, e, c⟩) (fs := fs) (d := ⟨s0, k0⟩) hl.1 (n - 1)
        clear hn' hA2 hi
        go_wp2_with fail
        (refine bodyPost_ret (v := (.tuple #[.int .i64 A, .bool (decide (A ≤ last + 3 * e))])) ?_ rfl (ret_any rfl (by repeat first | exact Below.refl _ _ | assumption | (refine Below.alloc ?_ (by first | omega | (simp; done) | (simp; omega)) _) | (refine Below.setCell ?_ (by first | omega | (simp; done) | (simp; omega)) _) | (refine Below.drew ?_) | (refine belowDrewN ?_) | (refine Below.trans ?_ (Below.mono (by assumption) (by first | omega | (simp; done) | (simp; omega)))))); (simp (maxDischargeDepth := 9) [results, Try.results22, go_sem, *]); (try simp only [beq_iff_eq, beq_eq_false_iff_ne, bne_iff_ne, bne_eq_false_iff_eq, ne_eq, Bool.not_eq_true, Bool.not_eq_true', Bool.not_eq_false', btw_iff, btw_not', Int.not_lt, Int.not_le] at *); skip))
  case inl =>
    have HALL := Lib.hid (And.intro hl (And.intro hE (And.intro hm720 (And.intro hwr ZW))))
    clear hl20 hl hE hm720 ZW
    have x0 := BL.cell 0 rfl; have x1 := BL.cell 1 rfl; have x2 := BL.cell 2 rfl
    have lL := BL.lt
    have z0 : W.drew.cell? ⟨w.heap.size, 0, none⟩ = some (.int .i64 r) := x0
    have z1 : W.drew.cell? ⟨w.heap.size, 1, none⟩ = some (.int .i64 e) := x1
    have z2 : W.drew.cell? ⟨w.heap.size, 2, none⟩ = some (.int .i64 c) := x2
    go_region_held3 (fun w' => w'.cell? ⟨w.heap.size, 0, none⟩ = some (.int .i64 r) ∧ w'.cell? ⟨w.heap.size, 1, none⟩ = some (.int .i64 e) ∧ w'.cell? ⟨w.heap.size, 2, none⟩ = some (.int .i64 c)) (first | (with_reducible exact ⟨x0, x1, x2⟩) | (with_reducible exact ⟨z0, z1, z2⟩) | (with_reducible exact ⟨y0, y1, y2⟩) | (go_keep; done) | (refine ⟨Blk.cell (vs := #[.int .i64 r, .int .i64 e, .int .i64 c]) (t := 24) ?_ 0 rfl, Blk.cell (vs := #[.int .i64 r, .int .i64 e, .int .i64 c]) (t := 24) ?_ 1 rfl, Blk.cell (vs := #[.int .i64 r, .int .i64 e, .int .i64 c]) (t := 24) ?_ 2 rfl⟩ <;> exact (by repeat first | exact blk_at (by first | rfl | omega | (simp; done) | (simp; omega)) | assumption | refine Blk.alloc ?_ _ | refine Blk.drew ?_ | refine Blk.drewN ?_ _ | (refine Blk.other ?_ _ (by first | omega | (simp; done) | (simp; omega))) | (refine Blk.below ?_ (by assumption)))))
      (first | (go_at_call 19; go_must (refine (HN.out _).mono ?_); rintro en w1 ⟨rfl, hb1⟩; go_must (first | ((with_reducible have hA : Below W.drew.heap.size W.drew w1 := hb1); have BY := BL.drew.below hA; have hN : Below W.heap.size W w1 := (Below.refl _ W).drew.trans hA) | ((with_reducible have hA : Below (W.alloc (.cells #[.int .i64 0, .int .i64 0] 37)).drew.heap.size (W.alloc (.cells #[.int .i64 0, .int .i64 0] 37)).drew w1 := hb1); have BY := (BL.alloc _).drew.below hA; have nb := (Blk.new W #[.int .i64 0, .int .i64 0] 37).drew.below hA; have nf := nb.free; have nc0 := nb.cell 0 rfl; have nc1 := nb.cell 1 rfl; have hN : Below W.heap.size W w1 := ((Below.refl _ W).alloc (Nat.le_refl _) _).drew.trans (hA.mono (by simp)))); have y0 := BY.cell 0 rfl; have y1 := BY.cell 1 rfl; have y2 := BY.cell 2 rfl; have yl := BY.lt))
    all_goals (
      obtain ⟨hl, hE, hm720, hwr, ZW⟩ := HALL.out
      have Z1 : Below w.heap.size w w1 := ZW.trans (hN.mono ZW.size)
      have hzN := hN.size
      have hzW := ZW.size
      go_wp2_with fail
      refine wp_name ?_
      intro W2 hW2
      try rw [hwr]
      first
        | (have DQ : Blk W2 W.heap.size #[.int .i64 s0, .int .i64 k0] 37 := (by rw [hW2]; exact (nb.set 0 _).set 1 _)
           have LQ : Blk W2 w.heap.size #[.int .i64 r, .int .i64 e, .int .i64 c] 24 := (by rw [hW2]; exact (BY.other _ (by dsimp only; omega)).other _ (by dsimp only; omega))
           have Z2 : Below w.heap.size w W2 := (by rw [hW2]; exact (Z1.setCell (by dsimp only; omega) _).setCell (by dsimp only; omega) _)
           have hlt := lL
           clear hW2 nb nf nc0 nc1 y0 y1 y2 z0 z1 z2 x0 x1 x2 hN hA hb1 BY BL ZW Z1 hzN hzW lL yl
           obtain ⟨DB, hDB⟩ : ∃ DB, W.heap.size = DB := ⟨_, rfl⟩
           rw [hDB] at DQ hlt ⊢)
        | (have DQ : Blk W2 w1.heap.size #[.int .i64 s0, .int .i64 k0] 37 := (by rw [hW2]; exact Blk.new _ _ _)
           have LQ : Blk W2 w.heap.size #[.int .i64 r, .int .i64 e, .int .i64 c] 24 := (by rw [hW2]; exact BY.alloc _)
           have Z2 : Below w.heap.size w W2 := (by rw [hW2]; exact Z1.alloc (by omega) _)
           have hlt := yl
           clear hW2 y0 y1 y2 z0 z1 z2 x0 x1 x2 hN hA hb1 BY BL ZW Z1 hzN hzW lL yl
           obtain ⟨DB, hDB⟩ : ∃ DB, w1.heap.size = DB := ⟨_, rfl⟩
           rw [hDB] at DQ hlt ⊢)
      clear hDB hwr
      go_loopw [10, 12] (fun x i wr => RefBackRel r e c f last fs ⟨s0, k0⟩ (last + 3 * e) w.heap.size DB w x i wr) (fun _ i _ => (last + 3 * e + 1 - intOf i).toNat)
      case atStart => exact ⟨0, by omega, by go_num, rfl, Z2, DQ.lt, LQ.lt, DQ, LQ⟩)
    all_goals (
      have f0' : 0 ≤ f := f0
      obtain ⟨n, hnn, hi, hx, hb, hzD, hzL, bD, bL⟩ := hrel
      clear DQ LQ Z2
      by_cases hin : f + n ≤ last + 3 * e
      · rcases Nat.eq_zero_or_pos n with h0 | hp
        · subst h0
          have e1 : u12 = .int .i64 f := by rw [hi]; go_num
          have e2 : u10 = .int .i64 last := hx
          have hs0 := HS.out
          subst e1 e2 hs0
          clear hi hx
          have c0 : wr.cell? ⟨DB, 0, none⟩ = some (.int .i64 (f % 720)) := bD.cell 0 rfl
          have ht0 : (f).tmod 720 = f % 720 := Int.tmod_eq_emod_of_nonneg f0'
          have hnlt : ¬ f < f := by omega
          by_cases hge : last ≤ f
          all_goals go_wp2
          all_goals first | (exfalso; omega) | exact ⟨⟨1, by omega, by go_num, rfl, (by repeat first | exact Below.refl _ _ | assumption | (refine Below.alloc ?_ (by first | omega | (simp; done) | (simp; omega)) _) | (refine Below.setCell ?_ (by first | omega | (simp; done) | (simp; omega)) _) | (refine Below.drew ?_) | (refine belowDrewN ?_) | (refine Below.trans ?_ (Below.mono (by assumption) (by first | omega | (simp; done) | (simp; omega))))), hzD, hzL, bD, bL⟩, by simp [intOf]; omega⟩
        · obtain ⟨m, rfl⟩ : ∃ m, n = m + 1 := ⟨n - 1, by omega⟩
          have e1 : u12 = .int .i64 (f + m + 1) := by rw [hi]; go_num
          have ho := HO.out m
          simp only [Nat.add_sub_cancel] at hx bD
          obtain ⟨A0, hA0⟩ : ∃ A0, Pu.backR ⟨r, e, c⟩ f fs ⟨s0, k0⟩ last m = A0 := ⟨_, rfl⟩
          obtain ⟨R, hR⟩ : ∃ R, Pu.runN ⟨r, e, c⟩ f fs ⟨s0, k0⟩ m = R := ⟨_, rfl⟩
          have hbt := Pu.backR_btw (l := ⟨r, e, c⟩) (fs := fs) (d := ⟨s0, k0⟩) hl.1 m
          rw [hA0] at hx hbt
          rw [hR] at ho bD
          obtain ⟨s1, k1⟩ := R
          obtain ⟨D', hD'⟩ : ∃ D', Pu.imp ⟨r, e, c⟩ (f + m + 1) (Pu.movesAt fs (f + m + 1)) ⟨s1, k1⟩ = D' := ⟨_, rfl⟩
          have hDm : Pu.runN ⟨r, e, c⟩ f fs ⟨s0, k0⟩ (m + 1) = D' := by rw [Pu.runN, hR]; exact hD'
          have hBK : Pu.backR ⟨r, e, c⟩ f fs ⟨s0, k0⟩ last (m + 1) = if last ≤ f + m + 1 ∧ D'.s ≠ (f + m + 1) % 720 then f + m + 1 + 1 else A0 := by rw [Pu.backR, hDm, hA0]
          have hmm : (m : Int) ≤ 6100 := by omega
          have HI2 := Lib.hid (fun W => (hD' ▸ HI.out W s1 k1 (f + m + 1) (Pu.movesAt fs (f + m + 1)) ⟨ho.1, ho.2.1, ho.2.2.1, by have := ho.2.2.2; dsimp only at this ⊢; omega⟩ (by omega) (Pu.movesAt_le _ _) : Calls Try.prog 43 #[.agg #[.int .i64 s1, .int .i64 k1], .agg #[.int .i64 r, .int .i64 e, .int .i64 c], .int .i64 (f + m + 1), .int .i64 (Pu.movesAt fs (f + m + 1))] W (Ret W (.agg #[.int .i64 (D').s, .int .i64 (D').k]))))
          obtain ⟨s', k'⟩ := D'
          subst e1 hx
          clear hi ho hR hD' hA0 hp
          have HBK := Lib.hid hBK; have HDM := Lib.hid hDm
          clear hBK hDm
          have x00 := bD.later 0 rfl; have x01 := bD.later 1 rfl
          have x10 := bL.later 0 rfl; have x11 := bL.later 1 rfl; have x12 := bL.later 2 rfl
          have ht0 : (f + m + 1).tmod 720 = (f + m + 1) % 720 := Int.tmod_eq_emod_of_nonneg (by omega)
          have hgt : f < f + m + 1 := by omega
          go_wp2_with fail
          (refine wp_region_tail 7 (by kernel_rfl) (by kernel_rfl) ?_; simp only [List.take_succ_cons, List.take_zero, List.drop_succ_cons, List.drop_zero]; (repeat (any_goals (first | go_big_quiet_step ((first | (go_at_call 44; exact later_call (HM.out _ _ (later_trans hb _))) | (go_at_call 43; exact later_call (HI2.out _)))) | quiet_step ((first | (go_at_call 44; exact later_call (HM.out _ _ (later_trans hb _))) | (go_at_call 43; exact later_call (HI2.out _)))) | (refine wpQuiet_step (fun K hK => ?_); go_simp; split <;> (refine hK _ ?_; clear hK K))))); (all_goals (refine wpQuiet_nil ?_; intro wq hw'; obtain ⟨⟨_, hbq⟩, hw''⟩ := hw'; subst hw'')))
          have bD' := bD.below hbq; have bL' := bL.below hbq
          have hzq := hbq.size
          have g0 := bD'.free
          have c00 := bD'.cell 0 rfl; have c01 := bD'.cell 1 rfl
          have hbb : Below w.heap.size w wq := hb.trans (hbq.mono hb.size)
          clear x00 x01 x10 x11 x12
          by_cases hge : last ≤ f + m + 1
          all_goals rcases Decidable.em (s' = (f + m + 1) % 720) with rfl | hc
          all_goals go_wp2
          all_goals first | (exfalso; omega) | skip
          all_goals (
            refine ⟨⟨m + 2, by omega, by go_num, ?_, (by repeat first | exact Below.refl _ _ | assumption | (refine Below.alloc ?_ (by first | omega | (simp; done) | (simp; omega)) _) | (refine Below.setCell ?_ (by first | omega | (simp; done) | (simp; omega)) _) | (refine Below.drew ?_) | (refine belowDrewN ?_) | (refine Below.trans ?_ (Below.mono (by assumption) (by first | omega | (simp; done) | (simp; omega))))), by simp; omega, by simp; omega, ?_, ?_⟩, by simp [intOf]; omega⟩
            · show _ = Value.int .i64 (Pu.backR ⟨r, e, c⟩ f fs ⟨s0, k0⟩ last (m + 1))
              rw [HBK.out]; simp [*]
            · show Blk _ DB #[.int .i64 (Pu.runN ⟨r, e, c⟩ f fs ⟨s0, k0⟩ (m + 1)).s, .int .i64 (Pu.runN ⟨r, e, c⟩ f fs ⟨s0, k0⟩ (m + 1)).k] _
              rw [HDM.out]; exact (bD'.set 0 _).set 1 _
            · exact (bL'.other _ (by first | omega | (simp; done) | (simp; omega))).other _ (by first | omega | (simp; done) | (simp; omega)))
      · have hn' : (last + 3 * e - f).toNat = n - 1 := by omega
        have hA2 := HA.out
        rw [hn'] at hA2
        rw [hA2] at hx
        have e1 : u12 = .int .i64 (f + n) := hi
        subst e1 hx
        have hbt := Pu.backR_btw (l := ⟨r, e, c⟩) (fs := fs) (d := ⟨s0, k0⟩) hl.1 (n - 1)
        clear hn' hA2 hi
        go_wp2_with fail
        (refine bodyPost_ret (v := (.tuple #[.int .i64 A, .bool (decide (A ≤ last + 3 * e))])) ?_ rfl (ret_any rfl (by repeat first | exact Below.refl _ _ | assumption | (refine Below.alloc ?_ (by first | omega | (simp; done) | (simp; omega)) _) | (refine Below.setCell ?_ (by first | omega | (simp; done) | (simp; omega)) _) | (refine Below.drew ?_) | (refine belowDrewN ?_) | (refine Below.trans ?_ (Below.mono (by assumption) (by first | omega | (simp; done) | (simp; omega)))))); (simp (maxDischargeDepth := 9) [results, Try.results22, go_sem, *]); (try simp only [beq_iff_eq, beq_eq_false_iff_ne, bne_iff_ne, bne_eq_false_iff_eq, ne_eq, Bool.not_eq_true, Bool.not_eq_true', Bool.not_eq_false', btw_iff, btw_not', Int.not_lt, Int.not_le] at *); skip))
end Go.Proofs.Ytpjlihkpnhamlaa
