/- pulse.Back: what it computes, as plain functions; what holds between two rounds of its loop. -/
import Derived.Test.YtjmkjlhnipnkcaaPfPulseRun
import Derived.BigFrameIn
set_option linter.unusedSimpArgs false
set_option linter.unusedVariables false
namespace Go.Proofs.Ytjmkjlhnipnkcaa
open Go.RowKit Go.Shelf
namespace Pu
def lastF : Int → List (Int × Int) → Int
  | f, [] => f
  | _, x :: tl => lastF x.1 tl
theorem lastF_get {f : Int} : ∀ {fs : List (Int × Int)} (h : 0 < fs.length), lastF f fs = (fs[fs.length - 1]'(by omega)).1
  | [x], _ => rfl
  | x :: y :: tl, _ => by
    have := lastF_get (f := x.1) (fs := y :: tl) (by simp);rw [lastF, this];simp
theorem lastF_btw {l : Ln} {U : Int} : ∀ {fs : List (Int × Int)} {f : Int}, chkFs l U f fs = true → f ≤ U → f ≤ lastF f fs ∧ lastF f fs ≤ U
  | [], f, _, h => by simp [lastF, h]
  | x :: tl, f, h, hU => by
    rw [chkFs] at h;simp only [Bool.and_eq_true, Bool.or_eq_true, decide_eq_true_eq] at h;have := lastF_btw h.2 (by omega);rw [lastF]
    omega
def backAt (l : Ln) (f : Int) (fs : List (Int × Int)) (d : Dl) (last : Int) : Nat → Int
  | 0 => last
  | k + 1 => if last ≤ f + k + 1 ∧ (folN l f fs d (k + 1)).1.s ≠ (f + k + 1) % 720 then f + k + 1 + 1 else backAt l f fs d last k
def backVal (l : Ln) (f : Int) (fs : List (Int × Int)) : Int × Int :=
  if lineErr l.r l.e l.c ≠ 0 then (0, lineErr l.r l.e l.c) else if btw 0 100000 f = false then (0, 3)
  else if faultsErr l f (f + 5000) fs ≠ 0 then (0, faultsErr l f (f + 5000) fs)
  else if lastF f fs + 3 * l.e < backAt l f fs (start l (f % 720) f) (lastF f fs) (lastF f fs + 3 * l.e - f).toNat then (0, 7)
  else (backAt l f fs (start l (f % 720) f) (lastF f fs) (lastF f fs + 3 * l.e - f).toNat, 0)
theorem ok_e {l : Ln} (h : l.ok) : 0 ≤ l.e ∧ l.e ≤ 360 := by unfold Ln.ok at h; omega
end Pu
structure BackI (w : World) (M AB TB : Nat) (last : Int) (at' : Nat → Int) (k : Nat) (O : Nat → Prop) (W : World) : Prop where
  low : Below w.heap.size w W
  up : ∀ b, O b → M ≤ b
  big : M ≤ W.heap.size
  box : Blk W AB #[.int .i64 (at' k)] 3
  lst : Blk W TB #[.int .i64 last] 3
theorem backI_abide {w : World} {M AB TB : Nat} {last : Int} {at' : Nat → Int} (h1 : w.heap.size ≤ M) (h2 : AB < M) (h3 : TB < M) : Abide (BackI w M AB TB last at') := by
  rintro k O O' W W' ⟨q1, q2, q3, q4, q5⟩ hk hO hO'
  have hlo : ∀ b, O' b → M ≤ b := fun b hb => by
    rcases hO' b hb with h | h
    · exact q2 b h
    · omega
  exact ⟨q1.trans (hk.to_below (by omega) (fun b hb => by have := hlo b hb; omega)), hlo, Nat.le_trans q3 hk.size, hk.blk q4 (fun hb => by have := hlo _ hb; omega), hk.blk q5 (fun hb => by have := hlo _ hb; omega)⟩
theorem BackI.same {w : World} {M AB TB : Nat} {last : Int} {at' : Nat → Int} {k : Nat} {O R : Nat → Prop} {W W' : World} (h : BackI w M AB TB last at' k O W) (hb : Below W.heap.size W W') (ha : at' (k + 1) = at' k) (hM : w.heap.size ≤ M) :
    BackI w M AB TB last at' (k + 1) O W' ∧ Keeps R W W' :=
  ⟨⟨h.low.trans (hb.mono h.low.size), h.up, Nat.le_trans h.big hb.size, by rw [ha]; exact h.box.below hb, h.lst.below hb⟩, Keeps.below hb⟩
theorem BackI.set {w : World} {M AB TB : Nat} {last : Int} {at' : Nat → Int} {k : Nat} {O R : Nat → Prop} {W W' : World} {v : Int} (h : BackI w M AB TB last at' k O W) (hb : Below W.heap.size W W') (ha : at' (k + 1) = v) (hA : w.heap.size ≤ AB) (hT : TB ≠ AB) (hR : R AB) :
    BackI w M AB TB last at' (k + 1) O (W'.setCell ⟨AB, 0, none⟩ (.int .i64 v)) ∧ Keeps R W (W'.setCell ⟨AB, 0, none⟩ (.int .i64 v)) :=
  ⟨⟨(h.low.trans (hb.mono h.low.size)).setCell hA _, h.up, by simp; exact Nat.le_trans h.big hb.size, by rw [ha]; exact (h.box.below hb).set 0 _, (h.lst.below hb).other _ hT⟩, (Keeps.below hb).trans (Keeps.setCell _ _ _ hR)⟩
end Go.Proofs.Ytjmkjlhnipnkcaa
