/- Slices of the call's own, which grow by append. -/
import Derived.Test.YtjmkjlhnipnkcaaPfRange
import Derived.OwnWalkIn
import Derived.Maps.AppendAt
set_option linter.unusedSimpArgs false
set_option linter.unusedVariables false
namespace Go.Proofs.Ytjmkjlhnipnkcaa
open Go.RowKit Go.Shelf
theorem owns_heap {w w' : World} {base : Nat} {e : TypeId} {size n : Nat} {v : Value} {xs : List Value} (h : w.ownsRow base e size v n xs) (hh : ∀ g, v.ownBlock = some g → w'.heap[g]? = w.heap[g]?) : w'.ownsRow base e size v n xs := by
  refine ⟨h.1, ?_⟩;rcases h.2 with h1 | ⟨g, cap, cur, rfl, h2, h3, h4⟩
  · exact .inl h1
  · exact .inr ⟨g, cap, cur, rfl, h2, (hh g rfl).trans h3, h4⟩
theorem owns_keeps {w w' : World} {O : Nat → Prop} {base : Nat} {e : TypeId} {size n : Nat} {v : Value} {xs : List Value} (h : w.ownsRow base e size v n xs) (hk : Keeps O w w') (hO : ∀ g, v.ownBlock = some g → ¬ O g) : w'.ownsRow base e size v n xs :=
  owns_heap h (fun g hg => hk.same g (h.lt g hg).2 (hO g hg))
theorem owns_len {w : World} {base : Nat} {e : TypeId} {size n : Nat} {v : Value} {xs : List Value} (h : w.ownsRow base e size v n xs) : ∃ a cp, v = .slice a n cp ∧ n ≤ cp := by
  rcases h.2 with ⟨rfl, rfl⟩ | ⟨g, cap, cur, rfl, h2, h3, h4, h5, h6, h7⟩
  · exact ⟨_, _, rfl, Nat.le_refl _⟩
  · exact ⟨_, _, rfl, h4⟩
theorem owns_ints {w : World} {base : Nat} {e : TypeId} {v : Value} {zs : List Int} (h : w.ownsRow base e 1 v zs.length (zs.map (Value.int .i64))) (hl : zs.length ≤ 140737488355327) : ∃ a cp, v = .slice a zs.length cp ∧ zs.length ≤ cp ∧ IsInts w a zs := by
  have hcells := @World.ownsRow.cells;have h' := h;rcases h.2 with ⟨rfl, h0⟩ | ⟨g, cap, cur, rfl, h2, h3, h4, h5, h6, h7⟩
  · refine ⟨none, 0, by rw [h0], by omega, hl, fun i hi => by omega⟩
  · refine ⟨_, cap, rfl, h4, hl, fun i hi => ⟨g, 0, rfl, (Array.getElem?_eq_some_iff.1 h3).1, ?_⟩⟩;have := h'.cells (g := g) rfl i (.int .i64 zs[i]) (by simp [hi]);rcases i with _ | i <;> simpa [Addr.add] using this
def CellsAt (w : World) (a : Option Addr) (xs : List Value) : Prop := xs ≠ [] → ∃ b o, a = some ⟨b, o, none⟩ ∧ b < w.heap.size ∧ ∀ j u, xs[j]? = some u → w.cell? ⟨b, o + j, none⟩ = some u
theorem CellsAt.below {w w' : World} {a : Option Addr} {xs : List Value} (h : CellsAt w a xs) (hb : Below w.heap.size w w') : CellsAt w' a xs := fun hn => by
  obtain ⟨b, o, e, hlt, hc⟩ := h hn;exact ⟨b, o, e, Nat.lt_of_lt_of_le hlt hb.size, fun j u hu => by rw [hb.cell (p := ⟨b, o + j, none⟩) hlt]; exact hc j u hu⟩
section
variable {P : Program} (w : World)
end
end Go.Proofs.Ytjmkjlhnipnkcaa
