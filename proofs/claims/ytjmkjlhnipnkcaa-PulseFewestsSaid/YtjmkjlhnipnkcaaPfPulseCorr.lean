/- The walk of pulse.Corrects. -/
import Derived.Test.YtjmkjlhnipnkcaaPfPulseOpen
set_option linter.unusedSimpArgs false
set_option linter.unusedVariables false
namespace Go.Proofs.Ytjmkjlhnipnkcaa
open Go.RowKit Go.Shelf
namespace Pu
def corrVal (l : Ln) (a b : Int) : Bool × Int :=
  if lineErr l.r l.e l.c ≠ 0 then (false, lineErr l.r l.e l.c) else if (btw 0 20 a && btw 0 20 b) = false then (false, 3)
  else if l.r = 0 then (a == 0 && b == 0, 0) else if l.r = 2 then (decide (a ≤ l.c), 0) else (decide (max a b ≤ l.c), 0)
end Pu
set_option maxHeartbeats 1000000 in
theorem corrects_any (r e c a b : Int) (w : World) (hr : (Lit.int .i64 r).wf = true) (he : (Lit.int .i64 e).wf = true) (hc : (Lit.int .i64 c).wf = true) :
    Calls Try.prog 19 #[.agg #[.int .i64 r, .int .i64 e, .int .i64 c], .int .i64 a, .int .i64 b] w
      (Ret w (.tuple #[.bool (Pu.corrVal ⟨r, e, c⟩ a b).1, .int .i64 (Pu.corrVal ⟨r, e, c⟩ a b).2])) := by
  have HO := Lib.hid (fun W => open_any r e c W hr he hc)
  by_cases h1 : Pu.lineErr r e c = 0
  case neg =>
    have h2 := Pu.err_two h1;have hv : Pu.corrVal ⟨r, e, c⟩ a b = (false, 2) := by simp [Pu.corrVal, h2]
    rw [hv];rw [h2] at HO
    clear h1 h2 hv
    go_enter Try.func19, Try.ntmps19
    go_wp2_with (go_at_call 28; refine (HO.out _).mono ?_; rintro e w1 ⟨rfl, hb1⟩; obtain ⟨hc1, hf1, hs1⟩ := bcell hb1; have hz1 := hb1.size; (try simp at hz1))
    go_ret2
    exact ret_any rfl (by repeat first | exact Below.refl _ _ | assumption | (refine Below.alloc ?_ (by first | omega | (simp; done) | (simp; omega)) _) | (refine Below.setCell ?_ (by first | omega | (simp; done) | (simp; omega)) _) | (refine Below.drew ?_) | (refine belowDrewN ?_) | (refine Below.trans ?_ (Below.mono (by assumption) (by first | omega | (simp; done) | (simp; omega)))))
  case pos =>
    have hok := Pu.ok_of_err h1;rw [h1] at HO;have HK := Lib.hid hok
    by_cases hb : (btw 0 20 a && btw 0 20 b) = true
    case neg =>
      have hb' : (btw 0 20 a && btw 0 20 b) = false := by simpa using hb
      have hv : Pu.corrVal ⟨r, e, c⟩ a b = (false, 3) := by simp only [Pu.corrVal, h1, hb']; simp
      rw [hv]
      clear h1 hv hb hok
      go_enter Try.func19, Try.ntmps19
      go_wp2_with (first | (go_at_call 28; refine (HO.out _).mono ?_; rintro e w1 ⟨rfl, hb1⟩; obtain ⟨hc1, hf1, hs1⟩ := bcell hb1; have hz1 := hb1.size; (try simp at hz1)) | (go_at_call 31; refine (within_new2 (by first | omega | (simp; done) | (simp; omega))).mono ?_; rintro e w1 ⟨rfl, hb1⟩; obtain ⟨hc1, hf1, hs1⟩ := bcell hb1; have hz1 := hb1.size; (try simp at hz1)))
      all_goals (go_ret2; exact ret_any rfl (by repeat first | exact Below.refl _ _ | assumption | (refine Below.alloc ?_ (by first | omega | (simp; done) | (simp; omega)) _) | (refine Below.setCell ?_ (by first | omega | (simp; done) | (simp; omega)) _) | (refine Below.drew ?_) | (refine belowDrewN ?_) | (refine Below.trans ?_ (Below.mono (by assumption) (by first | omega | (simp; done) | (simp; omega))))))
    case pos =>
      have hv : Pu.corrVal ⟨r, e, c⟩ a b = if r = 0 then (a == 0 && b == 0, 0) else if r = 2 then (decide (a ≤ c), 0) else (decide (max a b ≤ c), 0) := by simp only [Pu.corrVal, h1, hb]; simp
      rw [hv]
      clear hv
      obtain ⟨v, hv⟩ : ∃ v : Bool × Int, v = if r = 0 then (a == 0 && b == 0, 0) else if r = 2 then (decide (a ≤ c), 0) else (decide (max a b ≤ c), 0) := ⟨_, rfl⟩;rw [← hv];have HV := Lib.hid hv
      clear h1 hv hok
      go_enter Try.func19, Try.ntmps19
      go_wp2_with (first | (go_at_call 28; refine (HO.out _).mono ?_; rintro e w1 ⟨rfl, hb1⟩; obtain ⟨hc1, hf1, hs1⟩ := bcell hb1; have hz1 := hb1.size; (try simp at hz1)) | (go_at_call 31; refine (within_new2 (by first | omega | (simp; done) | (simp; omega))).mono ?_; rintro e w1 ⟨rfl, hb1⟩; obtain ⟨hc1, hf1, hs1⟩ := bcell hb1; have hz1 := hb1.size; (try simp at hz1)))
      all_goals (go_ret2; refine ret_any ?_ (by repeat first | exact Below.refl _ _ | assumption | (refine Below.alloc ?_ (by first | omega | (simp; done) | (simp; omega)) _) | (refine Below.setCell ?_ (by first | omega | (simp; done) | (simp; omega)) _) | (refine Below.drew ?_) | (refine belowDrewN ?_) | (refine Below.trans ?_ (Below.mono (by assumption) (by first | omega | (simp; done) | (simp; omega))))); rw [HV.out])
      all_goals (first | (simp_all; done) | (simp_all; omega))
end Go.Proofs.Ytjmkjlhnipnkcaa
