/- The walks of the checks of faults: pulse's and the reference's. -/
import Derived.Test.YtjmkjlhnipnkcaaPfPulseRef
import Derived.Test.YtjmkjlhnipnkcaaPfPulseChk
set_option linter.unusedSimpArgs false
set_option linter.unusedVariables false
namespace Go.Proofs.Ytjmkjlhnipnkcaa
open Go.RowKit Go.Shelf
namespace Pu
def chkFs (l : Ln) (U : Int) : Int → List (Int × Int) → Bool
  | _, [] => true
  | f, x :: rest => (decide (f + 1 ≤ x.1 ∧ x.1 ≤ U) && (decide (x.2 = 1) || decide (x.2 = 2)) && !(isLong l x.1)) && chkFs l U x.1 rest
def faultsErr (l : Ln) (f U : Int) (fs : List (Int × Int)) : Int := if 20 < fs.length then 5 else if chkFs l U f fs = true then 0 else 2
end Pu
set_option maxHeartbeats 1000000 in
theorem lineCheck_any (r e c f U : Int) (a : Option Addr) (cp : Nat) (fs : List (Int × Int)) (w : World) (h : (Pu.Ln.mk r e c).ok) (hf : IsPairs w a fs) (f0 : 0 ≤ f) (f1 : f ≤ 1000000) (u1 : U ≤ 1000000) :
    Calls Try.prog 32 #[.agg #[.int .i64 r, .int .i64 e, .int .i64 c], .slice a fs.length cp, .int .i64 f, .int .i64 U] w (Ret w (.int .i64 (Pu.faultsErr ⟨r, e, c⟩ f U fs))) := by
  have hlen := hf.1;have HZ := Lib.hid hf; clear hf;have HL := Lib.hid (fun W t (ht : 0 ≤ t) => isLong_any r e c t W h ht)
  clear h
  by_cases hl : 20 < fs.length
  · go_enter Try.func32, Try.ntmps32
    go_wp2
    go_ret
    exact ret_int (by simp [Pu.faultsErr, hl]) (by repeat first | exact Below.refl _ _ | assumption | (refine Below.alloc ?_ (by first | omega | (simp; done) | (simp; omega)) _) | (refine Below.setCell ?_ (by first | omega | (simp; done) | (simp; omega)) _) | (refine Below.drew ?_) | (refine belowDrewN ?_) | (refine Below.trans ?_ (Below.mono (by assumption) (by first | omega | (simp; done) | (simp; omega)))))
  · go_enter Try.func32, Try.ntmps32
    go_wp2_with fail
    have hb0 : Below w.heap.size w (w.alloc (.cells #[.int .i64 r, .int .i64 e, .int .i64 c] 64)) := (by repeat first | exact Below.refl _ _ | assumption | (refine Below.alloc ?_ (by first | omega | (simp; done) | (simp; omega)) _) | (refine Below.setCell ?_ (by first | omega | (simp; done) | (simp; omega)) _) | (refine Below.drew ?_) | (refine belowDrewN ?_) | (refine Below.trans ?_ (Below.mono (by assumption) (by first | omega | (simp; done) | (simp; omega)))));have B0 : Blk (w.alloc (.cells #[.int .i64 r, .int .i64 e, .int .i64 c] 64)) w.heap.size #[.int .i64 r, .int .i64 e, .int .i64 c] 64 := (by repeat first | exact blk_at (by first | rfl | omega | (simp; done) | (simp; omega)) | assumption | refine Blk.alloc ?_ _ | refine Blk.drew ?_ | refine Blk.drewN ?_ _ | (refine Blk.other ?_ _ (by first | omega | (simp; done) | (simp; omega))) | (refine Blk.below ?_ (by assumption)))
    go_loopw [16, 2] (fun i g wr => ∃ (k : Nat) (v : Int), k ≤ fs.length ∧ i = .int .i64 k ∧ g = .int .i64 v ∧ 0 ≤ v ∧ v ≤ 1000000 ∧ Pu.chkFs ⟨r, e, c⟩ U f fs = Pu.chkFs ⟨r, e, c⟩ U v (fs.drop k) ∧ Below w.heap.size w wr ∧ w.heap.size + 1 ≤ wr.heap.size ∧ Blk wr w.heap.size #[.int .i64 r, .int .i64 e, .int .i64 c] 64) (fun i _ _ => fs.length - (intOf i).toNat)
    case atStart => exact ⟨0, f, Nat.zero_le _, rfl, rfl, f0, f1, rfl, hb0, by simp, B0⟩
    case round =>
      obtain ⟨k, v, hk, rfl, rfl, v0, v1, hch, hb, hz, b0⟩ := hrel
      clear hb0 B0
      by_cases hlt : k < fs.length
      · obtain ⟨b, o, rfl, hbl, hc, hd⟩ := (HZ.out.below hb).2 k hlt;rw [List.drop_eq_getElem_cons hlt] at hch;have HCH := Lib.hid hch; clear hch;have g0 := b0.free;have c00 := b0.cell 0 rfl; have c01 := b0.cell 1 rfl; have c02 := b0.cell 2 rfl;have h0 := b0.lt;have h0a := Nat.lt_succ_of_lt h0; have h0b := Nat.lt_succ_of_lt h0a; have h0c := Nat.lt_succ_of_lt h0b; have h0d := Nat.lt_succ_of_lt h0c; simp only [Nat.succ_eq_add_one] at h0a h0b h0c h0d;have hbla := Nat.lt_succ_of_lt hbl; have hblb := Nat.lt_succ_of_lt hbla; have hblc := Nat.lt_succ_of_lt hblb; have hbld := Nat.lt_succ_of_lt hblc; simp only [Nat.succ_eq_add_one] at hbla hblb hblc hbld;have zz1 : wr.heap.size < wr.heap.size + 1 := (by omega); have zz2 : wr.heap.size < wr.heap.size + 1 + 1 := (by omega); have zz3 : wr.heap.size < wr.heap.size + 1 + 1 + 1 := (by omega); have zz4 : wr.heap.size < wr.heap.size + 1 + 1 + 1 + 1 := (by omega)
        by_cases q : v + 1 ≤ fs[k].1 ∧ fs[k].1 ≤ U
        · have qb : btw (v + 1) U fs[k].1 = true := btw_iff.2 q;obtain ⟨q1, q2⟩ := q
          go_wp2_with (first | ((go_at_call 31; refine (within_new (by first | omega | (simp; done) | (simp; omega))).mono ?_; rintro e w1 ⟨rfl, hb1⟩; obtain ⟨hc1, hf1, hs1⟩ := bcell hb1; have hz1 := hb1.size; (try simp at hz1)); have t1 : wr.heap.size < w1.heap.size := (by omega); have t2 : w.heap.size < w1.heap.size := (by omega)) | (go_at_call 48; refine (HL.out _ _ (by omega)).mono ?_; rintro e w1 ⟨rfl, hb1⟩; obtain ⟨hc1, hf1, hs1⟩ := bcell hb1; have hz1 := hb1.size; (try simp at hz1)))
          all_goals (first | (go_ret; refine ret_int ?_ (by repeat first | exact Below.refl _ _ | assumption | (refine Below.alloc ?_ (by first | omega | (simp; done) | (simp; omega)) _) | (refine Below.setCell ?_ (by first | omega | (simp; done) | (simp; omega)) _) | (refine Below.drew ?_) | (refine belowDrewN ?_) | (refine Below.trans ?_ (Below.mono (by assumption) (by first | omega | (simp; done) | (simp; omega))))); have hc' := HCH.out; (try simp only [Bool.not_eq_true', Bool.not_eq_false', btw_iff, btw_not', beq_iff_eq, beq_eq_false_iff_ne, bne_iff_ne, bne_eq_false_iff_eq, ne_eq, Bool.not_eq_true, decide_eq_true_eq, decide_eq_false_iff_not, Int.not_lt, Int.not_le] at *); simp_all [Pu.chkFs, Pu.faultsErr]; done) | skip)
          all_goals (refine ⟨⟨k + 1, fs[k].1, by omega, by go_num, rfl, by omega, by omega, (by rw [HCH.out, Pu.chkFs]; simp [*]), (by repeat first | exact Below.refl _ _ | assumption | (refine Below.alloc ?_ (by first | omega | (simp; done) | (simp; omega)) _) | (refine Below.setCell ?_ (by first | omega | (simp; done) | (simp; omega)) _) | (refine Below.drew ?_) | (refine belowDrewN ?_) | (refine Below.trans ?_ (Below.mono (by assumption) (by first | omega | (simp; done) | (simp; omega))))), by omega, ?_⟩, by simp [intOf]; omega⟩)
          all_goals (refine Blk.below ?_ (by assumption); refine Blk.below ?_ (by assumption); exact (b0.alloc _).alloc _)
        · have qb : btw (v + 1) U fs[k].1 = false := btw_not'.2 q;have HQ := Lib.hid q; clear q
          go_wp2_with (go_at_call 31; refine (within_new (by first | omega | (simp; done) | (simp; omega))).mono ?_; rintro e w1 ⟨rfl, hb1⟩; obtain ⟨hc1, hf1, hs1⟩ := bcell hb1; have hz1 := hb1.size; (try simp at hz1))
          go_ret
          refine ret_int ?_ (by repeat first | exact Below.refl _ _ | assumption | (refine Below.alloc ?_ (by first | omega | (simp; done) | (simp; omega)) _) | (refine Below.setCell ?_ (by first | omega | (simp; done) | (simp; omega)) _) | (refine Below.drew ?_) | (refine belowDrewN ?_) | (refine Below.trans ?_ (Below.mono (by assumption) (by first | omega | (simp; done) | (simp; omega)))));have hc' := HCH.out;have q := HQ.out;simp [Pu.chkFs, q] at hc';simp [Pu.faultsErr, hl, hc']
      · have hk' : k = fs.length := by omega
        have HCH := Lib.hid hch; clear hch
        go_wp2_with fail
        go_ret
        refine ret_int ?_ (by repeat first | exact Below.refl _ _ | assumption | (refine Below.alloc ?_ (by first | omega | (simp; done) | (simp; omega)) _) | (refine Below.setCell ?_ (by first | omega | (simp; done) | (simp; omega)) _) | (refine Below.drew ?_) | (refine belowDrewN ?_) | (refine Below.trans ?_ (Below.mono (by assumption) (by first | omega | (simp; done) | (simp; omega)))));have := HCH.out;subst hk';simp [Pu.chkFs] at this;simp [Pu.faultsErr, hl, this]
end Go.Proofs.Ytjmkjlhnipnkcaa
