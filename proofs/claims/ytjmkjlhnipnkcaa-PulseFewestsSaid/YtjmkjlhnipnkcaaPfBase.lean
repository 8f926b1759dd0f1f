/- Small words for all walks of this seat: what a call returns and what it leaves alone; slices that read as lists of integers. -/
import Derived.Test.YtjmkjlhnipnkcaaProg
import Derived.WalkKit
import Derived.BigGuardPart
import Derived.Lib.Hide
import Derived.Deep.QuietTactic
import Derived.BigQuiet
import Derived.RangeFuncNested
import Derived.Shelf.Abstract
set_option linter.unusedSimpArgs false
set_option linter.unusedVariables false
namespace Go.Proofs.Ytjmkjlhnipnkcaa
open Go.RowKit Go.Shelf
def Ret (w : World) (v : Value) (e : Ending) (w' : World) : Prop := e = .returned v ∧ Below w.heap.size w w'
theorem ret_int {w w' : World} {k : IntKind} {a b : Int} (h : b = a) (hb : Below w.heap.size w w') : Ret w (.int k a) (.returned (.int k b)) w' := ⟨by rw [h], hb⟩
theorem ret_bool {w w' : World} {a b : Bool} (h : b = a) (hb : Below w.heap.size w w') : Ret w (.bool a) (.returned (.bool b)) w' := ⟨by rw [h], hb⟩
theorem ret_any {w w' : World} {a b : Value} (h : b = a) (hb : Below w.heap.size w w') : Ret w a (.returned b) w' := ⟨by rw [h], hb⟩
theorem bcell {W w1 : World} (hb : Below W.heap.size W w1) : (∀ b o, b < W.heap.size → w1.cell? ⟨b, o, none⟩ = W.cell? ⟨b, o, none⟩) ∧ (∀ b o, b < W.heap.size → w1.frozen? ⟨b, o, none⟩ = W.frozen? ⟨b, o, none⟩) ∧ (∀ k, k < W.heap.size → k < w1.heap.size) :=
  ⟨fun b o h => hb.cell (p := ⟨b, o, none⟩) h, fun b o h => hb.frozen (p := ⟨b, o, none⟩) h, fun k h => Nat.lt_of_lt_of_le h hb.size⟩
theorem belowDrewN {B n : Nat} {a w : World} (h : Below B a w) : Below B a (w.drewN n) := ⟨h.os, h.tape, h.output, h.size, h.block⟩
def Blk (w : World) (b : Nat) (vs : Array Value) (t : TypeId) : Prop := w.heap[b]? = some (.cells vs t (0, 0))
theorem Blk.lt {w : World} {b : Nat} {vs : Array Value} {t : TypeId} (h : Blk w b vs t) : b < w.heap.size := (Array.getElem?_eq_some_iff.1 h).1
theorem Blk.cell {w : World} {b : Nat} {vs : Array Value} {t : TypeId} (h : Blk w b vs t) (i : Nat) {v : Value} (hi : vs[i]? = some v) : w.cell? ⟨b, i, none⟩ = some v := by
  simp [World.cell?, show w.heap[b]? = _ from h, hi]
theorem Blk.free {w : World} {b : Nat} {vs : Array Value} {t : TypeId} (h : Blk w b vs t) (i : Nat) : w.frozen? ⟨b, i, none⟩ = false := by
  simp [World.frozen?, show w.heap[b]? = _ from h]
theorem Blk.below {w w' : World} {b : Nat} {vs : Array Value} {t : TypeId} (h : Blk w b vs t) (hb : Below w.heap.size w w') : Blk w' b vs t :=
  (hb.block b h.lt).trans h
theorem Blk.new (w : World) (vs : Array Value) (t : TypeId) : Blk (w.alloc (.cells vs t)) w.heap.size vs t := World.alloc_heap_new w _
theorem Blk.alloc {w : World} {b : Nat} {vs : Array Value} {t : TypeId} (h : Blk w b vs t) (o : Obj) : Blk (w.alloc o) b vs t := (Below.heap_alloc w o b h.lt).trans h
theorem Blk.drew {w : World} {b : Nat} {vs : Array Value} {t : TypeId} (h : Blk w b vs t) : Blk w.drew b vs t := h
theorem Blk.drewN {w : World} {b : Nat} {vs : Array Value} {t : TypeId} (h : Blk w b vs t) (n : Nat) : Blk (w.drewN n) b vs t := h
theorem Blk.other {w : World} {b : Nat} {vs : Array Value} {t : TypeId} (h : Blk w b vs t) {a : Addr} (v : Value) (ne : b ≠ a.block) : Blk (w.setCell a v) b vs t := (Below.heap_setCell w a v b ne).trans h
theorem Blk.set {w : World} {b : Nat} {vs : Array Value} {t : TypeId} (h : Blk w b vs t) (i : Nat) (v : Value) : Blk (w.setCell ⟨b, i, none⟩ v) b (vs.setIfInBounds i v) t := by
  obtain ⟨hlt, hk⟩ := Array.getElem?_eq_some_iff.1 h;show (w.heap.modify b _)[b]? = _;rw [Array.getElem?_eq_getElem (by rw [Array.size_modify]; exact hlt), Array.getElem_modify_self, hk]
  rfl
theorem blk_at {w : World} {b : Nat} {vs : Array Value} {t : TypeId} (h : b = w.heap.size) : Blk (w.alloc (.cells vs t)) b vs t := by subst h; exact Blk.new w vs t
def Later (w : World) := { w' : World // Below w.heap.size w w' }
instance (w : World) : Nonempty (Later w) := ⟨⟨w, Below.refl _ w⟩⟩
theorem later_cell {w : World} (x : Later w) {b o : Nat} {v : Value} (hb : b < w.heap.size) (h : w.cell? ⟨b, o, none⟩ = some v) : x.1.cell? ⟨b, o, none⟩ = some v :=
  (x.2.cell (p := ⟨b, o, none⟩) hb).trans h
theorem Blk.later {w : World} {b : Nat} {vs : Array Value} {t : TypeId} (h : Blk w b vs t) (i : Nat) {v : Value} (hi : vs[i]? = some v) (x : Later w) : x.1.cell? ⟨b, i, none⟩ = some v := later_cell x h.lt (h.cell i hi)
theorem later_call {P : Program} {f : Nat} {args : Array Value} {v : Value} {w : World} {x : Later w} (h : Calls P f args x.1 (Ret x.1 v)) :
    Calls P f args x.1 (fun e w'' => e = .returned v ∧ ∃ y : Later w, w'' = y.1) :=
  h.mono fun e w' ⟨he, hb⟩ => ⟨he, ⟨w', x.2.trans (hb.mono x.2.size)⟩, rfl⟩
theorem wp_name {P : Program} {c : Code} {Q : Exit → Act → World → Prop} {a : Act} {w : World} (h : ∀ W, W = w → c.wp P Q a W) : c.wp P Q a w := h w rfl
theorem calls_name {P : Program} {f : Nat} {args : Array Value} {R : Ending → World → Prop} {w : World} (h : ∀ W, W = w → Calls P f args W R) : Calls P f args w R := h w rfl
def IsInts (w : World) (a : Option Addr) (zs : List Int) : Prop :=
  zs.length ≤ 140737488355327 ∧ (∀ i (_ : i < zs.length), ∃ b o, a = some ⟨b, o, none⟩ ∧ b < w.heap.size ∧ w.cell? ⟨b, o + i, none⟩ = some (.int .i64 zs[i]))
theorem IsInts.below {w w' : World} {a : Option Addr} {zs : List Int} (h : IsInts w a zs) (hb : Below w.heap.size w w') : IsInts w' a zs :=
  ⟨h.1, fun i hi => by
    obtain ⟨b, o, e, hlt, hc⟩ := h.2 i hi;exact ⟨b, o, e, Nat.lt_of_lt_of_le hlt hb.size, by rw [hb.cell (p := ⟨b, o + i, none⟩) hlt]; exact hc⟩⟩
def Decides (P : Program) (w : World) (f : Nat) (cap : Array Value) (p : Int → Bool) (zs : List Int) : Prop :=
  ∀ w' n, Below w.heap.size w w' → n ∈ zs → Calls P f (#[.int .i64 n] ++ cap) w' (Ret w' (.bool (p n)))
def idx {α : Type} (p : α → Bool) (zs : List α) : Int := match zs.findIdx? p with | some i => i | none => -1
theorem idx_none {α : Type} (p : α → Bool) (zs : List α) (k : Nat) (h : ∀ j (_ : j < zs.length), j < k → p zs[j] = false) (hk : zs.length ≤ k) : idx p zs = -1 := by
  have : zs.findIdx? p = none := by
    rw [List.findIdx?_eq_none_iff];intro x hx;obtain ⟨i, hi, rfl⟩ := List.getElem_of_mem hx;exact h i hi (by omega)
  simp [idx, this]
theorem idx_some {α : Type} (p : α → Bool) (zs : List α) (k : Nat) (h : ∀ j (_ : j < zs.length), j < k → p zs[j] = false) (hk : k < zs.length) (hp : p zs[k] = true) : idx p zs = k := by
  have : zs.findIdx? p = some k := by
    rw [List.findIdx?_eq_some_iff_getElem];refine ⟨hk, hp, fun j hj => ?_⟩;simp [h j (by omega) hj]
  simp [idx, this]
theorem idx_any {α : Type} (p : α → Bool) (zs : List α) : decide (0 ≤ idx p zs) = zs.any p := by
  unfold idx
  cases h : zs.findIdx? p with
  | none => rw [List.findIdx?_eq_none_iff] at h; simp; exact h
  | some i =>
    rw [List.findIdx?_eq_some_iff_getElem] at h;obtain ⟨h1, h2, _⟩ := h;have : zs.any p = true := List.any_eq_true.2 ⟨zs[i], by simp, h2⟩;simp [this]
def inRange (lo hi : Int) (zs : List Int) : Bool := !(zs.any fun n => decide (n < lo) || decide (hi < n))
def btw (lo hi n : Int) : Bool := decide (lo ≤ n ∧ n ≤ hi)
theorem btw_iff {lo hi n : Int} : btw lo hi n = true ↔ lo ≤ n ∧ n ≤ hi := by simp [btw]
theorem btw_not' {lo hi n : Int} : btw lo hi n = false ↔ ¬(lo ≤ n ∧ n ≤ hi) := by simp [btw]
theorem inRange_one (lo hi n : Int) : inRange lo hi [n] = btw lo hi n := by
  rw [Bool.eq_iff_iff]; simp [inRange, btw]
theorem inRange_two (lo hi n m : Int) : inRange lo hi [n, m] = (btw lo hi n && btw lo hi m) := by
  rw [Bool.eq_iff_iff]; simp [inRange, btw]
end Go.Proofs.Ytjmkjlhnipnkcaa
