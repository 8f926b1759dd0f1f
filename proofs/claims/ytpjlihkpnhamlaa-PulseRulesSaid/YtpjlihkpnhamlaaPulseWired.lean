/- The walk of the laws' small line. -/
import Derived.Test.YtpjlihkpnhamlaaPulsePlain
import Derived.Test.YtpjlihkpnhamlaaBase
import Derived.BigRegion
import Derived.RegionTactic
import Derived.ChangeAlike
set_option linter.unusedSimpArgs false
set_option linter.unusedVariables false
namespace Go.Proofs.Ytpjlihkpnhamlaa
open Go.RowKit Go.Shelf

namespace Pu
def wE (e : Int) : Int := if e % 8 = 0 then 5 else if e % 8 = 1 then 6 else if e % 8 = 2 then 10 else if e % 8 = 3 then 12 else if e % 8 = 4 then 30 else if e % 8 = 5 then 60 else if e % 8 = 6 then 120 else 2
def wL (r e c : Int) : Ln := ⟨1 + r % 3, wE e, c % ((wE e - 1) / 2 + 1)⟩
theorem wE_btw (e : Int) : 2 ≤ wE e ∧ wE e ≤ 120 ∧ 720 % wE e = 0 := by
  unfold wE
  repeat' split
  all_goals decide
theorem wL_ok {r e c : Int} (hc : 0 ≤ c) : (wL r e c).ok := by
  have := wE_btw e
  refine .inr ⟨?_, ?_, this.1, by simp only [wL]; omega, this.2.2, ?_, ?_⟩ <;> simp only [wL]
  · omega
  · omega
  · exact Int.emod_nonneg _ (by omega)
  · have := Int.emod_lt_of_pos c (show 0 < (wE e - 1) / 2 + 1 by omega); omega
end Pu

theorem pickE (W : World) (j x : Int) (h : (j = 0 ∧ x = 5) ∨ (j = 1 ∧ x = 6) ∨ (j = 2 ∧ x = 10) ∨ (j = 3 ∧ x = 12) ∨ (j = 4 ∧ x = 30) ∨ (j = 5 ∧ x = 60) ∨ (j = 6 ∧ x = 120) ∨ (j = 7 ∧ x = 2)) :
   (Instr.index 107 (.agg #[.int .i64 5, .int .i64 6, .int .i64 10, .int .i64 12, .int .i64 30, .int .i64 60, .int .i64 120, .int .i64 2]) (.int .u8 j)).run Try.prog W = .ok (.int .i64 x) W := by
  rcases h with ⟨rfl, rfl⟩ | ⟨rfl, rfl⟩ | ⟨rfl, rfl⟩ | ⟨rfl, rfl⟩ | ⟨rfl, rfl⟩ | ⟨rfl, rfl⟩ | ⟨rfl, rfl⟩ | ⟨rfl, rfl⟩ <;> kernel_rfl
theorem pickE' (W : World) (e : Int) (h0 : 0 ≤ e) : (Instr.index 107 (.agg #[.int .i64 5, .int .i64 6, .int .i64 10, .int .i64 12, .int .i64 30, .int .i64 60, .int .i64 120, .int .i64 2]) (.int .u8 (e % 8))).run Try.prog W = .ok (.int .i64 (Pu.wE e)) W := by
  refine pickE W _ _ ?_
  unfold Pu.wE
  have : 0 ≤ e % 8 ∧ e % 8 < 8 := by omega
  repeat' split
  all_goals omega

set_option maxHeartbeats 1000000 in
theorem wired_any (r e c : Int) (w : World) (h0 : 0 ≤ r) (h1 : r ≤ 255) (h2 : 0 ≤ e) (h3 : e ≤ 255) (h4 : 0 ≤ c) (h5 : c ≤ 255) :
    Calls Try.prog 29 #[.agg #[.int .u8 r, .int .u8 e, .int .u8 c]] w (Ret w (.agg #[.int .i64 (Pu.wL r e c).r, .int .i64 (Pu.wL r e c).e, .int .i64 (Pu.wL r e c).c])) := by
  have hp := fun W => pickE' W e h2
  have hb := Pu.wE_btw e
  have hb1 := hb.1; have hb2 := hb.2.1
  clear hb
  obtain ⟨v, hv⟩ : ∃ v, v = Pu.wL r e c := ⟨_, rfl⟩
  rw [← hv]
  have HV : Hid (v = ⟨1 + r % 3, Pu.wE e, c % ((Pu.wE e - 1) / 2 + 1)⟩) := Lib.hid hv
  clear hv
  go_enter Try.func29, Try.ntmps29
  go_wp2_with fail
  go_region
  go_wp2_with fail
  exact bodyPost_ret (v := .agg #[.int .i64 v.r, .int .i64 v.e, .int .i64 v.c]) (by simp [results, Try.results29, go_sem]; rw [HV.out]; exact ⟨rfl, rfl, rfl⟩) rfl (ret_any rfl (by repeat first | exact Below.refl _ _ | assumption | (refine Below.alloc ?_ (by first | omega | (simp; done) | (simp; omega)) _) | (refine Below.setCell ?_ (by first | omega | (simp; done) | (simp; omega)) _) | (refine Below.drew ?_) | (refine belowDrewN ?_) | (refine Below.trans ?_ (Below.mono (by assumption) (by first | omega | (simp; done) | (simp; omega))))))
end Go.Proofs.Ytpjlihkpnhamlaa
