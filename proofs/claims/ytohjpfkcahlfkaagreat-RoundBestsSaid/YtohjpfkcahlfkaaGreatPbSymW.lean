/- The small logic of symbolic states: entries of maps that are changed in two steps. -/
import Derived.Test.YtohjpfkcahlfkaaGreatPbSymV
set_option linter.unusedSimpArgs false
set_option linter.unusedVariables false
namespace Go.Proofs.YtohjpfkcahlfkaaGreat.Sy
open Go.RowKit
section
variable {κ ν : Type} [BEq κ]
end
def Inv.at (I : Inv) (val : Value) : Inv := ⟨fun W O R v => v = val ∧ I.ok W O R v, fun W W' O R R' hO hR v h => ⟨h.1, I.keep W W' O R R' hO hR v h.2⟩⟩
section
variable {P : Program} {c : Ctx} {sz : Fm} {Q : Exit → Act → World → Prop} {t : List Item} {s : List (Nat × AV)} {V : List NEnt} {o : Oper} {ops : Array Oper} {rest : List Oper}
end
end Go.Proofs.YtohjpfkcahlfkaaGreat.Sy
