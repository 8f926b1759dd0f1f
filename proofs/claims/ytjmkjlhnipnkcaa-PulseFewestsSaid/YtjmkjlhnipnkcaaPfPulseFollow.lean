/- The walks of pulse.line.follow and of the iterator that it returns. -/
import Derived.Test.YtjmkjlhnipnkcaaPfPulseMoves
import Derived.Test.YtjmkjlhnipnkcaaPfPulseImp
import Derived.Deep.RegionHeld3
import Derived.WalkKit
import Derived.OwnWalkIn
import Derived.TacticsInMore
import Derived.RegionIn
import Derived.LoopNIn
import Derived.LoopIn
set_option linter.unusedSimpArgs false
set_option linter.unusedVariables false
namespace Go.Proofs.Ytjmkjlhnipnkcaa
open Go.RowKit Go.Shelf
namespace Pu
def folN (l : Ln) (f : Int) (fs : List (Int × Int)) (d : Dl) : Nat → Dl × List (Int × Int)
  | 0 => (d, fs)
  | n + 1 => (imp l (f + n + 1) (headMoves (folN l f fs d n).2 (f + n + 1)) (folN l f fs d n).1, rest (folN l f fs d n).2 (f + n + 1))
theorem headMoves_le (fs : List (Int × Int)) (t : Int) : headMoves fs t ≤ 2 := by
  unfold headMoves
  repeat' split
  all_goals omega
theorem folN_ok {l : Ln} {f : Int} {fs : List (Int × Int)} {d : Dl} {B : Int} (h : d.ok B) (hB : 0 ≤ B) : ∀ n : Nat, (folN l f fs d n).1.ok (B + 2 * n)
  | 0 => by simpa [folN] using h
  | n + 1 => by
    have := imp_ok (l := l) (t := f + n + 1) (m := headMoves (folN l f fs d n).2 (f + n + 1)) (folN_ok (l := l) (f := f) (fs := fs) h hB n) (by omega);have hm := headMoves_le (folN l f fs d n).2 (f + n + 1);simp only [folN];unfold Dl.ok at *
    omega
theorem rest_mem {fs : List (Int × Int)} {t : Int} {x : Int × Int} (h : x ∈ rest fs t) : x ∈ fs := by
  unfold rest at h
  split at h
  · exact h
  · split at h
    · exact List.mem_cons_of_mem _ h
    · exact h
theorem folN_mem {l : Ln} {f : Int} {fs : List (Int × Int)} {d : Dl} {x : Int × Int} : ∀ n : Nat, x ∈ (folN l f fs d n).2 → x ∈ fs
  | 0, h => by simpa [folN] using h
  | n + 1, h => folN_mem n (rest_mem h)
def fol (l : Ln) (f U : Int) (fs : List (Int × Int)) (d : Dl) : List (Int × Dl) := (List.range (U - f).toNat).map fun (n : Nat) => (f + (n : Int) + 1, (folN l f fs d (n + 1)).1)
end Pu
def folCap (b : Nat) : Array Value := #[.pointer (some ⟨b + 3, 0, none⟩), .pointer (some ⟨b + 2, 0, none⟩), .pointer (some ⟨b + 4, 0, none⟩), .pointer (some ⟨b, 0, none⟩), .pointer (some ⟨b + 1, 0, none⟩)]
def folEnc (x : Int × Pu.Dl) : Array Value := #[.int .i64 x.1, .agg #[.int .i64 (x.2).s, .int .i64 (x.2).k]]
structure FolAt (R : Nat → Prop) (w : World) (b : Nat) (r e c f U s k : Int) (fs : List (Int × Int)) : Prop where
  l : Blk w b #[.int .i64 r, .int .i64 e, .int .i64 c] 64
  d : Blk w (b + 1) #[.int .i64 s, .int .i64 k] 72
  f : Blk w (b + 2) #[.int .i64 f] 3
  fs : FBox R w (b + 3) fs
  u : Blk w (b + 4) #[.int .i64 U] 3
set_option maxHeartbeats 400000 in
theorem follow_any (R : Nat → Prop) (r e c f U s k : Int) (a : Option Addr) (cp : Nat) (fs : List (Int × Int)) (w : World) (hf : IsPairs w a fs) (hcp : fs.length ≤ cp) (hR : fs ≠ [] → ∀ x, a = some x → R x.block) :
    Calls Try.prog 33 #[.agg #[.int .i64 r, .int .i64 e, .int .i64 c], .agg #[.int .i64 s, .int .i64 k], .int .i64 f, .slice a fs.length cp, .int .i64 U] w
      (fun en w' => en = .returned (.func (.func 49) #[] (folCap w.heap.size)) ∧ Below w.heap.size w w' ∧ FolAt R w' w.heap.size r e c f U s k fs) := by
  have HZ := Lib.hid hf; clear hf
  go_enter Try.func33, Try.ntmps33
  go_wp2
  go_ret
  have hb : Below w.heap.size w (((((w.alloc (.cells #[.int .i64 r, .int .i64 e, .int .i64 c] 64)).alloc (.cells #[.int .i64 s, .int .i64 k] 72)).alloc (.cells #[.int .i64 f] 3)).alloc (.cells #[.slice a fs.length cp] 91)).alloc (.cells #[.int .i64 U] 3)) := (by repeat first | exact Below.refl _ _ | assumption | (refine Below.alloc ?_ (by first | omega | (simp; done) | (simp; omega)) _) | (refine Below.setCell ?_ (by first | omega | (simp; done) | (simp; omega)) _) | (refine Below.drew ?_) | (refine belowDrewN ?_) | (refine Below.trans ?_ (Below.mono (by assumption) (by first | omega | (simp; done) | (simp; omega)))));exact ⟨rfl, hb, (by repeat first | exact blk_at (by first | rfl | omega | (simp; done) | (simp; omega)) | assumption | refine Blk.alloc ?_ _ | refine Blk.drew ?_ | refine Blk.drewN ?_ _ | (refine Blk.other ?_ _ (by first | omega | (simp; done) | (simp; omega))) | (refine Blk.below ?_ (by assumption))), (by repeat first | exact blk_at (by first | rfl | omega | (simp; done) | (simp; omega)) | assumption | refine Blk.alloc ?_ _ | refine Blk.drew ?_ | refine Blk.drewN ?_ _ | (refine Blk.other ?_ _ (by first | omega | (simp; done) | (simp; omega))) | (refine Blk.below ?_ (by assumption))), (by repeat first | exact blk_at (by first | rfl | omega | (simp; done) | (simp; omega)) | assumption | refine Blk.alloc ?_ _ | refine Blk.drew ?_ | refine Blk.drewN ?_ _ | (refine Blk.other ?_ _ (by first | omega | (simp; done) | (simp; omega))) | (refine Blk.below ?_ (by assumption))), ⟨a, cp, hcp, hR, (by repeat first | exact blk_at (by first | rfl | omega | (simp; done) | (simp; omega)) | assumption | refine Blk.alloc ?_ _ | refine Blk.drew ?_ | refine Blk.drewN ?_ _ | (refine Blk.other ?_ _ (by first | omega | (simp; done) | (simp; omega))) | (refine Blk.below ?_ (by assumption))), HZ.out.below hb⟩, (by repeat first | exact blk_at (by first | rfl | omega | (simp; done) | (simp; omega)) | assumption | refine Blk.alloc ?_ _ | refine Blk.drew ?_ | refine Blk.drewN ?_ _ | (refine Blk.other ?_ _ (by first | omega | (simp; done) | (simp; omega))) | (refine Blk.below ?_ (by assumption)))⟩
end Go.Proofs.Ytjmkjlhnipnkcaa
