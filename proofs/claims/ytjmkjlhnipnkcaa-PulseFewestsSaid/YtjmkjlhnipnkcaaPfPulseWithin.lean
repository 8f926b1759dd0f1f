/- pulse.within: whether integers lie between two others. -/
import Derived.Test.YtjmkjlhnipnkcaaPfWithin
set_option linter.unusedSimpArgs false
set_option linter.unusedVariables false
namespace Go.Proofs.Ytjmkjlhnipnkcaa
open Go.RowKit Go.Shelf
set_option maxHeartbeats 400000 in
theorem within1_any (n lo hi : Int) (p q : Addr) (w : World) (h1 : w.cell? p = some (.int .i64 lo)) (h2 : w.cell? q = some (.int .i64 hi)) :
    Calls Try.prog 47 #[.int .i64 n, .pointer (some p), .pointer (some q)] w (Ret w (.bool (decide (n < lo) || decide (hi < n)))) := by
  go_enter Try.func47, Try.ntmps47
  go_wp2
  all_goals (go_ret; exact ret_bool (by first | (simp [*]; done) | (simp [*]; omega) | (simp_all; done) | (simp_all; omega)) (Below.refl _ _))
set_option maxHeartbeats 400000 in
theorem within_any (lo hi : Int) (a : Option Addr) (c : Nat) (zs : List Int) (w : World) (hz : IsInts w a zs) :
    Calls Try.prog 31 #[.int .i64 lo, .int .i64 hi, .slice a zs.length c] w (Ret w (.bool (inRange lo hi zs))) := by
  have HC := fun W (hz : IsInts W a zs) (hd : Decides Try.prog W 47 #[.pointer (some ⟨w.heap.size, 0, none⟩), .pointer (some ⟨w.heap.size + 1, 0, none⟩)] (fun n => decide (n < lo) || decide (hi < n)) zs) =>
    containsFunc_any a c 47 #[.pointer (some ⟨w.heap.size, 0, none⟩), .pointer (some ⟨w.heap.size + 1, 0, none⟩)] (fun n => decide (n < lo) || decide (hi < n)) zs W hz hd (enters_of Try.func47 (by kernel_rfl) rfl)
  have HH := Lib.hid HC; clear HC;have HZ := Lib.hid hz; clear hz
  go_enter Try.func31, Try.ntmps31
  have hb0 : Below w.heap.size w ((w.alloc (.cells #[.int .i64 lo] 3)).alloc (.cells #[.int .i64 hi] 3)) := (by repeat first | exact Below.refl _ _ | assumption | (refine Below.alloc ?_ (by first | omega | (simp; done) | (simp; omega)) _) | (refine Below.setCell ?_ (by first | omega | (simp; done) | (simp; omega)) _) | (refine Below.drew ?_) | (refine belowDrewN ?_) | (refine Below.trans ?_ (Below.mono (by assumption) (by first | omega | (simp; done) | (simp; omega)))))
  go_wp2_with ((refine (HH.out _ (HZ.out.below hb0) ?_).mono ?_); (intro W n hW _; refine within1_any n lo hi _ _ W ?_ ?_; (rw [(bcell hW).1 _ _ (by first | omega | (simp; done) | (simp; omega))]; go_simp); (rw [(bcell hW).1 _ _ (by first | omega | (simp; done) | (simp; omega))]; go_simp)); (rintro e w1 ⟨rfl, hb1⟩))
  go_ret
  exact ret_bool rfl (hb0.trans (hb1.mono (by first | omega | (simp; done) | (simp; omega))))
theorem within_one (lo hi n : Int) (a : Option Addr) (c : Nat) (w : World) (hz : IsInts w a [n]) :
    Calls Try.prog 31 #[.int .i64 lo, .int .i64 hi, .slice a 1 c] w (Ret w (.bool (btw lo hi n))) := by
  rw [← inRange_one]; exact within_any lo hi a c [n] w hz
theorem within_two (lo hi n m : Int) (a : Option Addr) (c : Nat) (w : World) (hz : IsInts w a [n, m]) :
    Calls Try.prog 31 #[.int .i64 lo, .int .i64 hi, .slice a 2 c] w (Ret w (.bool (btw lo hi n && btw lo hi m))) := by
  rw [← inRange_two]; exact within_any lo hi a c [n, m] w hz
theorem isInts_one {w : World} {b o : Nat} {n : Int} (hb : b < w.heap.size) (hc : w.cell? ⟨b, o, none⟩ = some (.int .i64 n)) : IsInts w (some ⟨b, o, none⟩) [n] :=
  ⟨by simp, fun i hi => ⟨b, o, rfl, hb, by
    have : i = 0 := by simpa using hi
    subst this
    simpa using hc⟩⟩
theorem isInts_two {w : World} {b o : Nat} {n m : Int} (hb : b < w.heap.size) (hc : w.cell? ⟨b, o, none⟩ = some (.int .i64 n)) (hd : w.cell? ⟨b, o + 1, none⟩ = some (.int .i64 m)) : IsInts w (some ⟨b, o, none⟩) [n, m] :=
  ⟨by simp, fun i hi => ⟨b, o, rfl, hb, by
    have : i = 0 ∨ i = 1 := by simp at hi; omega
    rcases this with rfl | rfl <;> simpa⟩⟩
theorem within_new {lo hi n : Int} {b : Nat} {t : TypeId} {W : World} (hb : b = W.heap.size) :
    Calls Try.prog 31 #[.int .i64 lo, .int .i64 hi, .slice (some ⟨b, 0, none⟩) 1 1] (W.alloc (.cells #[.int .i64 n] t)) (Ret (W.alloc (.cells #[.int .i64 n] t)) (.bool (btw lo hi n))) := by
  subst hb;exact within_one lo hi n _ 1 _ (isInts_one (by simp) (by go_simp))
theorem within_new2 {lo hi n m : Int} {b : Nat} {t : TypeId} {W : World} (hb : b = W.heap.size) :
    Calls Try.prog 31 #[.int .i64 lo, .int .i64 hi, .slice (some ⟨b, 0, none⟩) 2 2] (W.alloc (.cells #[.int .i64 n, .int .i64 m] t)) (Ret (W.alloc (.cells #[.int .i64 n, .int .i64 m] t)) (.bool (btw lo hi n && btw lo hi m))) := by
  subst hb;exact within_two lo hi n m _ 2 _ (isInts_two (by simp) (by go_simp) (by go_simp))
end Go.Proofs.Ytjmkjlhnipnkcaa
