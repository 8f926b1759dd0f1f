/- The walks of the checks of faults: pulse's and the reference's. -/
import Derived.Test.YtpjlihkpnhamlaaPulseRef
import Derived.Test.YtpjlihkpnhamlaaPulseChk
set_option linter.unusedSimpArgs false
set_option linter.unusedVariables false
namespace Go.Proofs.Ytpjlihkpnhamlaa
open Go.RowKit Go.Shelf

namespace Pu
/-- faults, one after another -/
def chkFs (l : Ln) (U : Int) : Int → List (Int × Int) → Bool
  | _, [] => true
  | f, x :: rest => (decide (f + 1 ≤ x.1 ∧ x.1 ≤ U) && (decide (x.2 = 1) || decide (x.2 = 2)) && !(isLong l x.1)) && chkFs l U x.1 rest
def faultsErr (l : Ln) (f U : Int) (fs : List (Int × Int)) : Int := if 20 < fs.length then 5 else if chkFs l U f fs = true then 0 else 2
theorem chk_false {l : Ln} {U v : Int} {x : Int × Int} {rest : List (Int × Int)} (h : ¬(v + 1 ≤ x.1 ∧ x.1 ≤ U) ∨ (¬ x.2 = 1 ∧ ¬ x.2 = 2) ∨ isLong l x.1 = true) : chkFs l U v (x :: rest) = false := by
  rw [chkFs]
  rcases h with h | h | h
  · rw [decide_eq_false h]; simp
  · simp [h.1, h.2]
  · simp [h]
theorem chk_true {l : Ln} {U v : Int} {x : Int × Int} {rest : List (Int × Int)} (h1 : v + 1 ≤ x.1 ∧ x.1 ≤ U) (h2 : x.2 = 1 ∨ x.2 = 2) (h3 : isLong l x.1 = false) : chkFs l U v (x :: rest) = chkFs l U x.1 rest := by
  rw [chkFs]
  rw [decide_eq_true h1, h3]
  rcases h2 with h | h <;> simp [h]
theorem faults_two {l : Ln} {f U : Int} {fs : List (Int × Int)} (hl : ¬ 20 < fs.length) (h : chkFs l U f fs = false) : (2 : Int) = faultsErr l f U fs := by simp [faultsErr, hl, h]
end Pu

set_option maxHeartbeats 1000000 in
theorem lineCheck_any (r e c f U : Int) (a : Option Addr) (cp : Nat) (fs : List (Int × Int)) (w : World) (h : (Pu.Ln.mk r e c).ok) (hf : IsPairs w a fs) (f0 : 0 ≤ f) (f1 : f ≤ 1000000) (u1 : U ≤ 1000000) :
    Calls Try.prog 39 #[.agg #[.int .i64 r, .int .i64 e, .int .i64 c], .slice a fs.length cp, .int .i64 f, .int .i64 U] w (Ret w (.int .i64 (Pu.faultsErr ⟨r, e, c⟩ f U fs))) := by
  have hlen := hf.1
  have HZ := Lib.hid hf; clear hf
  have HL := Lib.hid (fun W t (ht : 0 ≤ t) => isLong_any r e c t W h ht)
  clear h
  by_cases hl : 20 < fs.length
  · go_enter Try.func39, Try.ntmps39
    go_wp2
    go_ret
    exact ret_int (by simp [Pu.faultsErr, hl]) (by repeat first | exact Below.refl _ _ | assumption | (refine Below.alloc ?_ (by first | omega | (simp; done) | (simp; omega)) _) | (refine Below.setCell ?_ (by first | omega | (simp; done) | (simp; omega)) _) | (refine Below.drew ?_) | (refine belowDrewN ?_) | (refine Below.trans ?_ (Below.mono (by assumption) (by first | omega | (simp; done) | (simp; omega)))))
  · go_enter Try.func39, Try.ntmps39
    go_wp2_with fail
    have hb0 : Below w.heap.size w (w.alloc (.cells #[.int .i64 r, .int .i64 e, .int .i64 c] 81)) := (by repeat first | exact Below.refl _ _ | assumption | (refine Below.alloc ?_ (by first | omega | (simp; done) | (simp; omega)) _) | (refine Below.setCell ?_ (by first | omega | (simp; done) | (simp; omega)) _) | (refine Below.drew ?_) | (refine belowDrewN ?_) | (refine Below.trans ?_ (Below.mono (by assumption) (by first | omega | (simp; done) | (simp; omega)))))
    have B0 : Blk (w.alloc (.cells #[.int .i64 r, .int .i64 e, .int .i64 c] 81)) w.heap.size #[.int .i64 r, .int .i64 e, .int .i64 c] 81 := (by repeat first | exact blk_at (by first | rfl | omega | (simp; done) | (simp; omega)) | assumption | refine Blk.alloc ?_ _ | refine Blk.drew ?_ | refine Blk.drewN ?_ _ | (refine Blk.other ?_ _ (by first | omega | (simp; done) | (simp; omega))) | (refine Blk.below ?_ (by assumption)))
    go_loopw [16, 2] (fun i g wr => ∃ (k : Nat) (v : Int), k ≤ fs.length ∧ i = .int .i64 k ∧ g = .int .i64 v ∧ 0 ≤ v ∧ v ≤ 1000000 ∧ Pu.chkFs ⟨r, e, c⟩ U f fs = Pu.chkFs ⟨r, e, c⟩ U v (fs.drop k) ∧ Below w.heap.size w wr ∧ w.heap.size + 1 ≤ wr.heap.size ∧ Blk wr w.heap.size #[.int .i64 r, .int .i64 e, .int .i64 c] 81) (fun i _ _ => fs.length - (intOf i).toNat)
    case atStart => exact ⟨0, f, Nat.zero_le _, rfl, rfl, f0, f1, rfl, hb0, by simp, B0⟩
    case round =>
      obtain ⟨k, v, hk, rfl, rfl, v0, v1, hch, hb, hz, b0⟩ := hrel
      clear hb0 B0
      by_cases hlt : k < fs.length
      · obtain ⟨b, o, rfl, hbl, hc, hd⟩ := (HZ.out.below hb).2 k hlt
        rw [List.drop_eq_getElem_cons hlt] at hch
        have HCH := Lib.hid hch; clear hch
        have g0 := b0.free
        have c00 := b0.cell 0 rfl; have c01 := b0.cell 1 rfl; have c02 := b0.cell 2 rfl
        have h0 := b0.lt
        have h0a := Nat.lt_succ_of_lt h0; have h0b := Nat.lt_succ_of_lt h0a; have h0c := Nat.lt_succ_of_lt h0b; have h0d := Nat.lt_succ_of_lt h0c; simp only [Nat.succ_eq_add_one] at h0a h0b h0c h0d
        have hbla := Nat.lt_succ_of_lt hbl; have hblb := Nat.lt_succ_of_lt hbla; have hblc := Nat.lt_succ_of_lt hblb; have hbld := Nat.lt_succ_of_lt hblc; simp only [Nat.succ_eq_add_one] at hbla hblb hblc hbld
        have zz1 : wr.heap.size < wr.heap.size + 1 := (by omega); have zz2 : wr.heap.size < wr.heap.size + 1 + 1 := (by omega); have zz3 : wr.heap.size < wr.heap.size + 1 + 1 + 1 := (by omega); have zz4 : wr.heap.size < wr.heap.size + 1 + 1 + 1 + 1 := (by omega)
        by_cases q : v + 1 ≤ fs[k].1 ∧ fs[k].1 ≤ U
        · have qb : btw (v + 1) U fs[k].1 = true := btw_iff.2 q
          obtain ⟨q1, q2⟩ := q
          go_wp2_with (first | ((go_at_call 38; refine (within_new (by first | omega | (simp; done) | (simp; omega))).mono ?_; rintro e w1 ⟨rfl, hb1⟩; obtain ⟨hc1, hf1, hs1⟩ := bcell hb1; have hz1 := hb1.size; (try simp at hz1)); have t1 : wr.heap.size < w1.heap.size := (by omega); have t2 : w.heap.size < w1.heap.size := (by omega)) | (go_at_call 55; refine (HL.out _ _ (by omega)).mono ?_; rintro e w1 ⟨rfl, hb1⟩; obtain ⟨hc1, hf1, hs1⟩ := bcell hb1; have hz1 := hb1.size; (try simp at hz1)))
          all_goals (first | (go_ret; refine ret_int ?_ (by repeat first | exact Below.refl _ _ | assumption | (refine Below.alloc ?_ (by first | omega | (simp; done) | (simp; omega)) _) | (refine Below.setCell ?_ (by first | omega | (simp; done) | (simp; omega)) _) | (refine Below.drew ?_) | (refine belowDrewN ?_) | (refine Below.trans ?_ (Below.mono (by assumption) (by first | omega | (simp; done) | (simp; omega))))); have hc' := HCH.out; (try simp only [Bool.not_eq_true', Bool.not_eq_false', btw_iff, btw_not', beq_iff_eq, beq_eq_false_iff_ne, bne_iff_ne, bne_eq_false_iff_eq, ne_eq, Bool.not_eq_true, decide_eq_true_eq, decide_eq_false_iff_not, Int.not_lt, Int.not_le] at *); simp_all [Pu.chkFs, Pu.faultsErr]; done) | skip)
          all_goals (refine ⟨⟨k + 1, fs[k].1, by omega, by go_num, rfl, by omega, by omega, (by rw [HCH.out, Pu.chkFs]; simp [*]), (by repeat first | exact Below.refl _ _ | assumption | (refine Below.alloc ?_ (by first | omega | (simp; done) | (simp; omega)) _) | (refine Below.setCell ?_ (by first | omega | (simp; done) | (simp; omega)) _) | (refine Below.drew ?_) | (refine belowDrewN ?_) | (refine Below.trans ?_ (Below.mono (by assumption) (by first | omega | (simp; done) | (simp; omega))))), by omega, ?_⟩, by simp [intOf]; omega⟩)
          all_goals (refine Blk.below ?_ (by assumption); refine Blk.below ?_ (by assumption); exact (b0.alloc _).alloc _)
        · have qb : btw (v + 1) U fs[k].1 = false := btw_not'.2 q
          have HQ := Lib.hid q; clear q
          go_wp2_with (go_at_call 38; refine (within_new (by first | omega | (simp; done) | (simp; omega))).mono ?_; rintro e w1 ⟨rfl, hb1⟩; obtain ⟨hc1, hf1, hs1⟩ := bcell hb1; have hz1 := hb1.size; (try simp at hz1))
          go_ret
          refine ret_int ?_ (by repeat first | exact Below.refl _ _ | assumption | (refine Below.alloc ?_ (by first | omega | (simp; done) | (simp; omega)) _) | (refine Below.setCell ?_ (by first | omega | (simp; done) | (simp; omega)) _) | (refine Below.drew ?_) | (refine belowDrewN ?_) | (refine Below.trans ?_ (Below.mono (by assumption) (by first | omega | (simp; done) | (simp; omega)))))
          have hc' := HCH.out
          have q := HQ.out
          simp [Pu.chkFs, q] at hc'
          simp [Pu.faultsErr, hl, hc']
      · have hk' : k = fs.length := by omega
        have HCH := Lib.hid hch; clear hch
        go_wp2_with fail
        go_ret
        refine ret_int ?_ (by repeat first | exact Below.refl _ _ | assumption | (refine Below.alloc ?_ (by first | omega | (simp; done) | (simp; omega)) _) | (refine Below.setCell ?_ (by first | omega | (simp; done) | (simp; omega)) _) | (refine Below.drew ?_) | (refine belowDrewN ?_) | (refine Below.trans ?_ (Below.mono (by assumption) (by first | omega | (simp; done) | (simp; omega)))))
        have := HCH.out
        subst hk'
        simp [Pu.chkFs] at this
        simp [Pu.faultsErr, hl, this]

def RefFaultsRel (r e c f U : Int) (fs : List (Int × Int)) (w : World) (i : Value) (wr : World) : Prop :=
  ∃ (k : Nat) (v : Int), k ≤ fs.length ∧ i = .int .i64 k ∧ (k = 0 → v = f) ∧ (∀ (_ : 0 < k) (_ : k - 1 < fs.length), v = fs[k - 1].1) ∧ f ≤ v ∧ v ≤ 1000000 ∧ Pu.chkFs ⟨r, e, c⟩ U f fs = Pu.chkFs ⟨r, e, c⟩ U v (fs.drop k) ∧ Below w.heap.size w wr ∧ w.heap.size + 1 ≤ wr.heap.size ∧ Blk wr w.heap.size #[.int .i64 r, .int .i64 e, .int .i64 c] 24
set_option maxHeartbeats 2000000 in
theorem refFaults_any (r e c f U : Int) (a : Option Addr) (cp : Nat) (fs : List (Int × Int)) (w : World) (h : (Pu.Ln.mk r e c).ok) (hf : IsPairs w a fs) (f0 : 0 ≤ f) (f1 : f ≤ 1000000) (u1 : U ≤ 1000000) :
    Calls Try.prog 18 #[.agg #[.int .i64 r, .int .i64 e, .int .i64 c], .int .i64 f, .int .i64 U, .slice a fs.length cp] w (Ret w (.int .i64 (Pu.faultsErr ⟨r, e, c⟩ f U fs))) := by
  have hlen := hf.1
  have HZ := Lib.hid hf; clear hf
  have HL := Lib.hid (fun W t (ht : 0 ≤ t) => refLong_any r e c t W h ht)
  clear h
  by_cases hl : 20 < fs.length
  · go_enter Try.func18, Try.ntmps18
    go_wp2
    go_ret
    exact ret_int (by simp [Pu.faultsErr, hl]) (by repeat first | exact Below.refl _ _ | assumption | (refine Below.alloc ?_ (by first | omega | (simp; done) | (simp; omega)) _) | (refine Below.setCell ?_ (by first | omega | (simp; done) | (simp; omega)) _) | (refine Below.drew ?_) | (refine belowDrewN ?_) | (refine Below.trans ?_ (Below.mono (by assumption) (by first | omega | (simp; done) | (simp; omega)))))
  · go_enter Try.func18, Try.ntmps18
    go_wp2_with fail
    have hb0 : Below w.heap.size w (w.alloc (.cells #[.int .i64 r, .int .i64 e, .int .i64 c] 24)) := (by repeat first | exact Below.refl _ _ | assumption | (refine Below.alloc ?_ (by first | omega | (simp; done) | (simp; omega)) _) | (refine Below.setCell ?_ (by first | omega | (simp; done) | (simp; omega)) _) | (refine Below.drew ?_) | (refine belowDrewN ?_) | (refine Below.trans ?_ (Below.mono (by assumption) (by first | omega | (simp; done) | (simp; omega)))))
    have B0 : Blk (w.alloc (.cells #[.int .i64 r, .int .i64 e, .int .i64 c] 24)) w.heap.size #[.int .i64 r, .int .i64 e, .int .i64 c] 24 := (by repeat first | exact blk_at (by first | rfl | omega | (simp; done) | (simp; omega)) | assumption | refine Blk.alloc ?_ _ | refine Blk.drew ?_ | refine Blk.drewN ?_ _ | (refine Blk.other ?_ _ (by first | omega | (simp; done) | (simp; omega))) | (refine Blk.below ?_ (by assumption)))
    go_loopw [9] (fun i wr => RefFaultsRel r e c f U fs w i wr) (fun i _ => fs.length - (intOf i).toNat)
    case atStart => exact ⟨0, f, Nat.zero_le _, rfl, fun _ => rfl, fun h => by omega, Int.le_refl _, f1, rfl, hb0, by simp, B0⟩
    case round =>
      obtain ⟨k, v, hk, rfl, ve0, ve1, v0, v1, hch, hb, hz, b0⟩ := hrel
      clear hb0 B0
      have HE0 := Lib.hid ve0; have HE1 := Lib.hid ve1; clear ve0 ve1
      by_cases hlt : k < fs.length
      · obtain ⟨b, o, rfl, hbl, hc, hd⟩ := (HZ.out.below hb).2 k hlt
        rw [List.drop_eq_getElem_cons hlt] at hch
        have HCH := Lib.hid hch; clear hch
        have h0 := b0.lt
        go_wp2_with fail
        refine wp_name ?_
        intro W hW
        have hbW : Below wr.heap.size wr W := by rw [hW]; exact (by repeat first | exact Below.refl _ _ | assumption | (refine Below.alloc ?_ (by first | omega | (simp; done) | (simp; omega)) _) | (refine Below.setCell ?_ (by first | omega | (simp; done) | (simp; omega)) _) | (refine Below.drew ?_) | (refine belowDrewN ?_) | (refine Below.trans ?_ (Below.mono (by assumption) (by first | omega | (simp; done) | (simp; omega)))))
        have BW : Blk W wr.heap.size #[.int .i64 fs[k].1, .int .i64 fs[k].2] 67 := by rw [hW]; exact (by repeat first | exact blk_at (by first | rfl | omega | (simp; done) | (simp; omega)) | assumption | refine Blk.alloc ?_ _ | refine Blk.drew ?_ | refine Blk.drewN ?_ _ | (refine Blk.other ?_ _ (by first | omega | (simp; done) | (simp; omega))) | (refine Blk.below ?_ (by assumption)))
        have hzW : wr.heap.size + 1 ≤ W.heap.size := by rw [hW]; simp
        clear hW
        have b0W := b0.below hbW
        have x00 := b0W.later 0 rfl; have x01 := b0W.later 1 rfl; have x02 := b0W.later 2 rfl
        have x10 := BW.later 0 rfl; have x11 := BW.later 1 rfl
        by_cases hk0 : k = 0
        · subst hk0
          obtain rfl : v = f := HE0.out rfl
          (refine wp_region_later (by kernel_rfl) (by kernel_rfl) ?_; (repeat (any_goals (first | go_big_quiet_step (((go_at_call 42; exact later_call (HL.out _ _ (by omega))))) | quiet_step (((go_at_call 42; exact later_call (HL.out _ _ (by omega))))) | (refine wpQuiet_step (fun K hK => ?_); go_simp; split <;> (refine hK _ ?_; clear hK K))))); (all_goals (refine wpQuiet_nil ?_; intro wq hw'; obtain ⟨⟨_, hbq⟩, hw''⟩ := hw'; subst hw'')))
          all_goals (have hzq := hbq.size; have bq := b0W.below hbq; have hbb : Below w.heap.size w wq := hb.trans ((hbW.mono hb.size).trans (hbq.mono (by omega))); go_wp2)
          all_goals (first | (go_ret; refine ret_int (Pu.faults_two hl (HCH.out.trans (Pu.chk_false ?_))) hbb; rename_i hx; (first | (right; right; exact hx) | (left; omega) | (right; left; exact ⟨by assumption, hx⟩) | (rcases hx with hx | hx <;> first | (left; omega) | (right; right; exact hx)))) | skip)
          all_goals (rename_i hx; exact ⟨⟨0 + 1, fs[0].1, by omega, by go_num, (fun h => by omega), (fun _ _ => rfl), by omega, by omega, HCH.out.trans (Pu.chk_true ⟨by omega, by omega⟩ (by first | (left; assumption) | (right; assumption)) (by first | exact hx | exact hx.2)), hbb, by omega, bq⟩, by simp [intOf]; omega⟩)
        · have hkm : k - 1 < fs.length := by omega
          have hkp : 0 < k := by omega
          obtain ⟨b2, o2, e2, hbl2, hcp, _⟩ := (HZ.out.below hb).2 (k - 1) hkm
          obtain ⟨rfl, rfl⟩ : b = b2 ∧ o = o2 := by simpa using e2
          have hv := HE1.out hkp hkm
          subst hv
          have hkk : (k : Int) - 1 = ((k - 1 : Nat) : Int) := by omega
          have y0 : ∀ x : Later W, x.1.cell? ⟨b, o + (k - 1) * 2, none⟩ = some (.int .i64 fs[k - 1].1) := fun x => later_cell x (Nat.lt_of_lt_of_le hbl2 hbW.size) (by rw [hbW.cell (p := ⟨b, o + (k - 1) * 2, none⟩) hbl2]; exact hcp)
          clear e2 hcp
          have hki : (0 : Int) < k := by omega
          (refine wp_region_later (by kernel_rfl) (by kernel_rfl) ?_; (repeat (any_goals (first | go_big_quiet_step (((go_at_call 42; exact later_call (HL.out _ _ (by omega))))) | quiet_step (((go_at_call 42; exact later_call (HL.out _ _ (by omega))))) | (refine wpQuiet_step (fun K hK => ?_); go_simp; split <;> (refine hK _ ?_; clear hK K))))); (all_goals (refine wpQuiet_nil ?_; intro wq hw'; obtain ⟨⟨_, hbq⟩, hw''⟩ := hw'; subst hw'')))
          all_goals (have hzq := hbq.size; have bq := b0W.below hbq; have hbb : Below w.heap.size w wq := hb.trans ((hbW.mono hb.size).trans (hbq.mono (by omega))); go_wp2)
          all_goals (first | (go_ret; refine ret_int (Pu.faults_two hl (HCH.out.trans (Pu.chk_false ?_))) hbb; rename_i hx; (first | (right; right; exact hx) | (left; omega) | (right; left; exact ⟨by assumption, hx⟩) | (rcases hx with hx | hx <;> first | (left; omega) | (right; right; exact hx)))) | skip)
          all_goals (rename_i hx; exact ⟨⟨k + 1, fs[k].1, by omega, by go_num, (fun h => by omega), (fun _ _ => rfl), by omega, by omega, HCH.out.trans (Pu.chk_true ⟨by omega, by omega⟩ (by first | (left; assumption) | (right; assumption)) (by first | exact hx | exact hx.2)), hbb, by omega, bq⟩, by simp [intOf]; omega⟩)
      · have hk' : k = fs.length := by omega
        have HCH := Lib.hid hch; clear hch
        go_wp2_with fail
        go_ret
        refine ret_int ?_ (by repeat first | exact Below.refl _ _ | assumption | (refine Below.alloc ?_ (by first | omega | (simp; done) | (simp; omega)) _) | (refine Below.setCell ?_ (by first | omega | (simp; done) | (simp; omega)) _) | (refine Below.drew ?_) | (refine belowDrewN ?_) | (refine Below.trans ?_ (Below.mono (by assumption) (by first | omega | (simp; done) | (simp; omega)))))
        have := HCH.out
        subst hk'
        simp [Pu.chkFs] at this
        simp [Pu.faultsErr, hl, this]
end Go.Proofs.Ytpjlihkpnhamlaa
