/- Small words for all walks of this seat: what a call returns and what it leaves alone; slices that read as lists of integers. -/
import Derived.Test.YtgkoldcmbcbbpaaProg
import Derived.WalkKit
import Derived.BigGuardPart
import Derived.Lib.Hide
import Derived.Deep.QuietTactic
import Derived.BigQuiet
import Derived.RangeFuncNested
import Derived.Shelf.Abstract
set_option linter.unusedSimpArgs false
set_option linter.unusedVariables false
namespace Go.Proofs.Ytgkoldcmbcbbpaa
open Go.RowKit Go.Shelf
def Blk (w : World) (b : Nat) (vs : Array Value) (t : TypeId) : Prop := w.heap[b]? = some (.cells vs t (0, 0))
theorem Blk.lt {w : World} {b : Nat} {vs : Array Value} {t : TypeId} (h : Blk w b vs t) : b < w.heap.size := (Array.getElem?_eq_some_iff.1 h).1
theorem Blk.cell {w : World} {b : Nat} {vs : Array Value} {t : TypeId} (h : Blk w b vs t) (i : Nat) {v : Value} (hi : vs[i]? = some v) : w.cell? ⟨b, i, none⟩ = some v := by
  simp [World.cell?, show w.heap[b]? = _ from h, hi]
theorem Blk.below {w w' : World} {b : Nat} {vs : Array Value} {t : TypeId} (h : Blk w b vs t) (hb : Below w.heap.size w w') : Blk w' b vs t :=
  (hb.block b h.lt).trans h
theorem Blk.new (w : World) (vs : Array Value) (t : TypeId) : Blk (w.alloc (.cells vs t)) w.heap.size vs t := World.alloc_heap_new w _
theorem Blk.alloc {w : World} {b : Nat} {vs : Array Value} {t : TypeId} (h : Blk w b vs t) (o : Obj) : Blk (w.alloc o) b vs t := (Below.heap_alloc w o b h.lt).trans h
theorem Blk.drewN {w : World} {b : Nat} {vs : Array Value} {t : TypeId} (h : Blk w b vs t) (n : Nat) : Blk (w.drewN n) b vs t := h
theorem Blk.set {w : World} {b : Nat} {vs : Array Value} {t : TypeId} (h : Blk w b vs t) (i : Nat) (v : Value) : Blk (w.setCell ⟨b, i, none⟩ v) b (vs.setIfInBounds i v) t := by
  obtain ⟨hlt, hk⟩ := Array.getElem?_eq_some_iff.1 h;show (w.heap.modify b _)[b]? = _;rw [Array.getElem?_eq_getElem (by rw [Array.size_modify]; exact hlt), Array.getElem_modify_self, hk]
  rfl
def Later (w : World) := { w' : World // Below w.heap.size w w' }
instance (w : World) : Nonempty (Later w) := ⟨⟨w, Below.refl _ w⟩⟩
def IsInts (w : World) (a : Option Addr) (zs : List Int) : Prop :=
  zs.length ≤ 140737488355327 ∧ (∀ i (_ : i < zs.length), ∃ b o, a = some ⟨b, o, none⟩ ∧ b < w.heap.size ∧ w.cell? ⟨b, o + i, none⟩ = some (.int .i64 zs[i]))
theorem IsInts.below {w w' : World} {a : Option Addr} {zs : List Int} (h : IsInts w a zs) (hb : Below w.heap.size w w') : IsInts w' a zs :=
  ⟨h.1, fun i hi => by
    obtain ⟨b, o, e, hlt, hc⟩ := h.2 i hi;exact ⟨b, o, e, Nat.lt_of_lt_of_le hlt hb.size, by rw [hb.cell (p := ⟨b, o + i, none⟩) hlt]; exact hc⟩⟩
def idx {α : Type} (p : α → Bool) (zs : List α) : Int := match zs.findIdx? p with | some i => i | none => -1
end Go.Proofs.Ytgkoldcmbcbbpaa
