/- The walks of the checks of what was seen: pulse's and the reference's. -/
import Derived.Test.YtjmkjlhnipnkcaaPfPulseFaults
set_option linter.unusedSimpArgs false
set_option linter.unusedVariables false
namespace Go.Proofs.Ytjmkjlhnipnkcaa
open Go.RowKit Go.Shelf
namespace Pu
def chkSn (f : Int) : Int → List (Int × Int) → Bool
  | _, [] => true
  | l, x :: rest => (decide (l + 1 ≤ x.1 ∧ x.1 ≤ f + 5000) && decide (0 ≤ x.2 ∧ x.2 ≤ 719)) && chkSn f x.1 rest
def seenErr (f : Int) (fs : List (Int × Int)) : Int := if 40 < fs.length then 5 else if chkSn f f fs = true then 0 else 2
theorem chkSn_false {f v : Int} {x : Int × Int} {rest : List (Int × Int)} (h : ¬(v + 1 ≤ x.1 ∧ x.1 ≤ f + 5000) ∨ ¬(0 ≤ x.2 ∧ x.2 ≤ 719)) : chkSn f v (x :: rest) = false := by
  rw [chkSn];rcases h with h | h
  · rw [decide_eq_false h]; simp
  · rw [decide_eq_false h]; simp
theorem chkSn_true {f v : Int} {x : Int × Int} {rest : List (Int × Int)} (h1 : v + 1 ≤ x.1 ∧ x.1 ≤ f + 5000) (h2 : 0 ≤ x.2 ∧ x.2 ≤ 719) : chkSn f v (x :: rest) = chkSn f x.1 rest := by
  rw [chkSn, decide_eq_true h1, decide_eq_true h2]; simp
theorem seen_two {f : Int} {fs : List (Int × Int)} (hl : ¬ 40 < fs.length) (h : chkSn f f fs = false) : (2 : Int) = seenErr f fs := by simp [seenErr, hl, h]
theorem seen_zero {f : Int} {fs : List (Int × Int)} (hl : ¬ 40 < fs.length) (h : chkSn f f fs = true) : (0 : Int) = seenErr f fs := by simp [seenErr, hl, h]
end Pu
set_option maxHeartbeats 1000000 in
theorem checkSeen_any (f : Int) (a : Option Addr) (cp : Nat) (fs : List (Int × Int)) (w : World) (hf : IsPairs w a fs) (f0 : 0 ≤ f) (f1 : f ≤ 1000000) :
    Calls Try.prog 39 #[.slice a fs.length cp, .int .i64 f] w (Ret w (.int .i64 (Pu.seenErr f fs))) := by
  have hlen := hf.1;have HZ := Lib.hid hf; clear hf;obtain ⟨v, hv⟩ : ∃ v, v = Pu.seenErr f fs := ⟨_, rfl⟩;rw [← hv];have HV := Lib.hid hv; clear hv
  by_cases hl : 40 < fs.length
  · go_enter Try.func39, Try.ntmps39
    go_wp2
    go_ret
    exact ret_int (by rw [HV.out]; simp [Pu.seenErr, hl]) (by repeat first | exact Below.refl _ _ | assumption | (refine Below.alloc ?_ (by first | omega | (simp; done) | (simp; omega)) _) | (refine Below.setCell ?_ (by first | omega | (simp; done) | (simp; omega)) _) | (refine Below.drew ?_) | (refine belowDrewN ?_) | (refine Below.trans ?_ (Below.mono (by assumption) (by first | omega | (simp; done) | (simp; omega)))))
  · go_enter Try.func39, Try.ntmps39
    go_wp2_with fail
    go_loopw [14, 5] (fun i g wr => ∃ (k : Nat) (v : Int), k ≤ fs.length ∧ i = .int .i64 k ∧ g = .int .i64 v ∧ 0 ≤ v ∧ v ≤ 2000000 ∧ Pu.chkSn f f fs = Pu.chkSn f v (fs.drop k) ∧ Below w.heap.size w wr) (fun i _ _ => fs.length - (intOf i).toNat)
    case atStart => exact ⟨0, f, Nat.zero_le _, rfl, rfl, f0, by omega, rfl, Below.refl _ _⟩
    case round =>
      obtain ⟨k, v, hk, rfl, rfl, v0, v1, hch, hb⟩ := hrel;have hzw := hb.size
      by_cases hlt : k < fs.length
      · obtain ⟨b, o, rfl, hbl, hc, hd⟩ := (HZ.out.below hb).2 k hlt;rw [List.drop_eq_getElem_cons hlt] at hch;have HCH := Lib.hid hch; clear hch;have hbla := Nat.lt_succ_of_lt hbl; have hblb := Nat.lt_succ_of_lt hbla; have hblc := Nat.lt_succ_of_lt hblb; have hbld := Nat.lt_succ_of_lt hblc; simp only [Nat.succ_eq_add_one] at hbla hblb hblc hbld;have zz1 : wr.heap.size < wr.heap.size + 1 := (by omega); have zz2 : wr.heap.size < wr.heap.size + 1 + 1 := (by omega); have zz3 : wr.heap.size < wr.heap.size + 1 + 1 + 1 := (by omega); have zz4 : wr.heap.size < wr.heap.size + 1 + 1 + 1 + 1 := (by omega)
        generalize fs[k] = x at *
        obtain ⟨xa, xs⟩ := x;dsimp only at hc hd HCH
        by_cases q : v + 1 ≤ xa ∧ xa ≤ f + 5000
        · have qb : btw (v + 1) (f + 5000) xa = true := btw_iff.2 q;obtain ⟨q1, q2⟩ := q;cases q3 : btw 0 719 xs
          all_goals
            go_wp2_with (first | ((go_at_call 31; refine (within_new (by first | omega | (simp; done) | (simp; omega))).mono ?_; rintro e w1 ⟨rfl, hb1⟩; obtain ⟨hc1, hf1, hs1⟩ := bcell hb1; have hz1 := hb1.size; (try simp at hz1)); have t1 : wr.heap.size < w1.heap.size := (by omega)) | (go_at_call 30; refine (isShown_any _ _).mono ?_; rintro e w1 ⟨rfl, hb1⟩; obtain ⟨hc1, hf1, hs1⟩ := bcell hb1; have hz1 := hb1.size; (try simp at hz1)))
          · go_ret
            exact ret_int (by rw [HV.out]; exact Pu.seen_two hl (HCH.out.trans (Pu.chkSn_false (.inr (btw_not'.1 q3))))) (by repeat first | exact Below.refl _ _ | assumption | (refine Below.alloc ?_ (by first | omega | (simp; done) | (simp; omega)) _) | (refine Below.setCell ?_ (by first | omega | (simp; done) | (simp; omega)) _) | (refine Below.drew ?_) | (refine belowDrewN ?_) | (refine Below.trans ?_ (Below.mono (by assumption) (by first | omega | (simp; done) | (simp; omega)))))
          · exact ⟨⟨k + 1, xa, by omega, by go_num, rfl, by omega, by omega, HCH.out.trans (Pu.chkSn_true ⟨q1, q2⟩ (btw_iff.1 q3)), (by repeat first | exact Below.refl _ _ | assumption | (refine Below.alloc ?_ (by first | omega | (simp; done) | (simp; omega)) _) | (refine Below.setCell ?_ (by first | omega | (simp; done) | (simp; omega)) _) | (refine Below.drew ?_) | (refine belowDrewN ?_) | (refine Below.trans ?_ (Below.mono (by assumption) (by first | omega | (simp; done) | (simp; omega)))))⟩, by simp [intOf]; omega⟩
        · have qb : btw (v + 1) (f + 5000) xa = false := btw_not'.2 q;have HQ := Lib.hid q; clear q
          go_wp2_with (go_at_call 31; refine (within_new (by first | omega | (simp; done) | (simp; omega))).mono ?_; rintro e w1 ⟨rfl, hb1⟩; obtain ⟨hc1, hf1, hs1⟩ := bcell hb1; have hz1 := hb1.size; (try simp at hz1))
          go_ret
          exact ret_int (by rw [HV.out]; exact Pu.seen_two hl (HCH.out.trans (Pu.chkSn_false (.inl HQ.out)))) (by repeat first | exact Below.refl _ _ | assumption | (refine Below.alloc ?_ (by first | omega | (simp; done) | (simp; omega)) _) | (refine Below.setCell ?_ (by first | omega | (simp; done) | (simp; omega)) _) | (refine Below.drew ?_) | (refine belowDrewN ?_) | (refine Below.trans ?_ (Below.mono (by assumption) (by first | omega | (simp; done) | (simp; omega)))))
      · have hk' : k = fs.length := by omega
        have HCH := Lib.hid hch; clear hch
        go_wp2_with fail
        go_ret
        refine ret_int ?_ (by repeat first | exact Below.refl _ _ | assumption | (refine Below.alloc ?_ (by first | omega | (simp; done) | (simp; omega)) _) | (refine Below.setCell ?_ (by first | omega | (simp; done) | (simp; omega)) _) | (refine Below.drew ?_) | (refine belowDrewN ?_) | (refine Below.trans ?_ (Below.mono (by assumption) (by first | omega | (simp; done) | (simp; omega)))));have := HCH.out;subst hk';simp [Pu.chkSn] at this;rw [HV.out];exact Pu.seen_zero hl this
end Go.Proofs.Ytjmkjlhnipnkcaa
