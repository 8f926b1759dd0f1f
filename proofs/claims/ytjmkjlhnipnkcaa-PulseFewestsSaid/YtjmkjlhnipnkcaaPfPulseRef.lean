/- The walks of the reference's small functions on dials. -/
import Derived.Test.YtjmkjlhnipnkcaaPfPulsePlain
import Derived.Test.YtjmkjlhnipnkcaaPfBase
set_option linter.unusedSimpArgs false
set_option linter.unusedVariables false
namespace Go.Proofs.Ytjmkjlhnipnkcaa
open Go.RowKit Go.Shelf
namespace Pu
def movesAt (fs : List (Int × Int)) (t : Int) : Nat := match fs.find? (fun f => f.1 == t) with | some f => if f.2 = 1 then 0 else 2 | none => 1
end Pu
def IsPairs (w : World) (a : Option Addr) (fs : List (Int × Int)) : Prop :=
  fs.length ≤ 140737488355327 ∧ (∀ i (_ : i < fs.length), ∃ b o, a = some ⟨b, o, none⟩ ∧ b < w.heap.size ∧ w.cell? ⟨b, o + i * 2, none⟩ = some (.int .i64 fs[i].1) ∧ w.cell? ⟨b, o + i * 2 + 1, none⟩ = some (.int .i64 fs[i].2))
theorem IsPairs.below {w w' : World} {a : Option Addr} {zs : List (Int × Int)} (h : IsPairs w a zs) (hb : Below w.heap.size w w') : IsPairs w' a zs :=
  ⟨h.1, fun i hi => by
    obtain ⟨b, o, e, hlt, hc, hd⟩ := h.2 i hi;exact ⟨b, o, e, Nat.lt_of_lt_of_le hlt hb.size, by rw [hb.cell (p := ⟨b, o + i * 2, none⟩) hlt]; exact hc, by rw [hb.cell (p := ⟨b, o + i * 2 + 1, none⟩) hlt]; exact hd⟩⟩
end Go.Proofs.Ytjmkjlhnipnkcaa
