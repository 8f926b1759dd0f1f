/-
  No cell of these rows narrows 'for every input' (looked for: loops, veiled, ifaces, maps, wideKeys, modest, calm, conditions, laid).
  DERIVED. THE GIVEN ROWS OF THIS SEAT. 9 by the template 'for every input the law returns true; each argument reads behind the call as it read before'; 0 by the template 'total and deterministic' (their statements: YtabjhlfgcmmbfaaTotals.lean).
  GIVEN WITH THE SEED: the statements are not yours to turn. If you find one false, say at which input.
  Laid BY PROGRAM, IN A SANDBOX (cutbox-rows.mjs): the forced cells as the released guide's own fill.sh prints them over the translation bd84dd5856edf699… (all of the seat's roots in one cut). By AI agents, Wed Nov 11 2026. No macro, syntax, notation, axiom, sorry.
-/
import Derived.Test.YtabjhlfgcmmbfaaChecked
import GoSem.Claim
import GoSem.ClaimJoined
import GoSem.ClaimMapViews
import Derived.JoinedTies
import Derived.KernelRfl
namespace Go.Proofs.Ytabjhlfgcmmbfaa
/- THE CELL 'sum', in the pinned program and in every row, IS THE sha256 OF THE DUMP (.gsa) THAT YtabjhlfgcmmbfaaProg.lean LOADS. Nothing in Lean hashes anything: it is a label: what it is worth is what the hold of that sum in a sandbox is worth. -/
noncomputable def Try.pinned : Pinned := { name := "ytabjhlfgcmmbfaa", sum := "bd84dd5856edf69946e2236e0eb7466e816cbca97401bdd4f50bbbfbe70e8252", checked := Try.checked }
namespace Rows
def none {H : Type} : Left H := { results := [], args := [] }

/-- 'turretlaw01.TrainTurns': WHATEVER THE INPUT: true; the input reads as it did. -/
def trainTurnsSpec : ChangeSpec := { name := "trainTurns", fn := fun _ => fun
  | [d] => { results := [.lit (.bool true)], args := [d] }
  | _ => none }
def trainTurnsRow : OpenClaim := { program := "ytabjhlfgcmmbfaa", sum := "bd84dd5856edf69946e2236e0eb7466e816cbca97401bdd4f50bbbfbe70e8252", func := "turret/turretlaw01.TrainTurns", spec := "trainTurns", unfollowed := true, recurses := true, apart := false }
def TrainTurnsSaid : Prop := trainTurnsRow.holds Try.pinned (OpenSpec.ofChange trainTurnsSpec)

/-- ITS FALSE NEIGHBOUR: 'it returns false'. Refute it at one input. -/
def trainTurnsWrong : ChangeSpec := { name := "trainTurns", fn := fun _ => fun
  | [d] => { results := [.lit (.bool false)], args := [d] }
  | _ => none }
def TrainTurnsWrongFalsely : Prop := trainTurnsRow.holds Try.pinned (OpenSpec.ofChange trainTurnsWrong)

/-- 'turretlaw01.TrainMisses': WHATEVER THE INPUT: true; the input reads as it did. -/
def trainMissesSpec : ChangeSpec := { name := "trainMisses", fn := fun _ => fun
  | [d1, d2] => { results := [.lit (.bool true)], args := [d1, d2] }
  | _ => none }
def trainMissesRow : OpenClaim := { program := "ytabjhlfgcmmbfaa", sum := "bd84dd5856edf69946e2236e0eb7466e816cbca97401bdd4f50bbbfbe70e8252", func := "turret/turretlaw01.TrainMisses", spec := "trainMisses", unfollowed := true, recurses := true, apart := false }
def TrainMissesSaid : Prop := trainMissesRow.holds Try.pinned (OpenSpec.ofChange trainMissesSpec)

/-- ITS FALSE NEIGHBOUR: 'it returns false'. Refute it at one input. -/
def trainMissesWrong : ChangeSpec := { name := "trainMisses", fn := fun _ => fun
  | [d1, d2] => { results := [.lit (.bool false)], args := [d1, d2] }
  | _ => none }
def TrainMissesWrongFalsely : Prop := trainMissesRow.holds Try.pinned (OpenSpec.ofChange trainMissesWrong)

/-- 'turretlaw01.TrainFinds': WHATEVER THE INPUT: true; the input reads as it did. -/
def trainFindsSpec : ChangeSpec := { name := "trainFinds", fn := fun _ => fun
  | [d1, d2] => { results := [.lit (.bool true)], args := [d1, d2] }
  | _ => none }
def trainFindsRow : OpenClaim := { program := "ytabjhlfgcmmbfaa", sum := "bd84dd5856edf69946e2236e0eb7466e816cbca97401bdd4f50bbbfbe70e8252", func := "turret/turretlaw01.TrainFinds", spec := "trainFinds", unfollowed := true, recurses := true, apart := false }
def TrainFindsSaid : Prop := trainFindsRow.holds Try.pinned (OpenSpec.ofChange trainFindsSpec)

/-- ITS FALSE NEIGHBOUR: 'it returns false'. Refute it at one input. -/
def trainFindsWrong : ChangeSpec := { name := "trainFinds", fn := fun _ => fun
  | [d1, d2] => { results := [.lit (.bool false)], args := [d1, d2] }
  | _ => none }
def TrainFindsWrongFalsely : Prop := trainFindsRow.holds Try.pinned (OpenSpec.ofChange trainFindsWrong)

/-- 'turretlaw01.TrainNears': WHATEVER THE INPUT: true; the input reads as it did. -/
def trainNearsSpec : ChangeSpec := { name := "trainNears", fn := fun _ => fun
  | [d1, d2, d3] => { results := [.lit (.bool true)], args := [d1, d2, d3] }
  | _ => none }
def trainNearsRow : OpenClaim := { program := "ytabjhlfgcmmbfaa", sum := "bd84dd5856edf69946e2236e0eb7466e816cbca97401bdd4f50bbbfbe70e8252", func := "turret/turretlaw01.TrainNears", spec := "trainNears", unfollowed := true, recurses := true, apart := false }
def TrainNearsSaid : Prop := trainNearsRow.holds Try.pinned (OpenSpec.ofChange trainNearsSpec)

/-- ITS FALSE NEIGHBOUR: 'it returns false'. Refute it at one input. -/
def trainNearsWrong : ChangeSpec := { name := "trainNears", fn := fun _ => fun
  | [d1, d2, d3] => { results := [.lit (.bool false)], args := [d1, d2, d3] }
  | _ => none }
def TrainNearsWrongFalsely : Prop := trainNearsRow.holds Try.pinned (OpenSpec.ofChange trainNearsWrong)

/-- 'turretlaw01.TrainExact': WHATEVER THE INPUT: true; the input reads as it did. -/
def trainExactSpec : ChangeSpec := { name := "trainExact", fn := fun _ => fun
  | [d1, d2] => { results := [.lit (.bool true)], args := [d1, d2] }
  | _ => none }
def trainExactRow : OpenClaim := { program := "ytabjhlfgcmmbfaa", sum := "bd84dd5856edf69946e2236e0eb7466e816cbca97401bdd4f50bbbfbe70e8252", func := "turret/turretlaw01.TrainExact", spec := "trainExact", unfollowed := true, recurses := true, apart := false }
def TrainExactSaid : Prop := trainExactRow.holds Try.pinned (OpenSpec.ofChange trainExactSpec)

/-- ITS FALSE NEIGHBOUR: 'it returns false'. Refute it at one input. -/
def trainExactWrong : ChangeSpec := { name := "trainExact", fn := fun _ => fun
  | [d1, d2] => { results := [.lit (.bool false)], args := [d1, d2] }
  | _ => none }
def TrainExactWrongFalsely : Prop := trainExactRow.holds Try.pinned (OpenSpec.ofChange trainExactWrong)

/-- 'turretlaw01.TrainPrimes': WHATEVER THE INPUT: true; the input reads as it did. -/
def trainPrimesSpec : ChangeSpec := { name := "trainPrimes", fn := fun _ => fun
  | [d1, d2, d3] => { results := [.lit (.bool true)], args := [d1, d2, d3] }
  | _ => none }
def trainPrimesRow : OpenClaim := { program := "ytabjhlfgcmmbfaa", sum := "bd84dd5856edf69946e2236e0eb7466e816cbca97401bdd4f50bbbfbe70e8252", func := "turret/turretlaw01.TrainPrimes", spec := "trainPrimes", unfollowed := true, recurses := true, apart := false }
def TrainPrimesSaid : Prop := trainPrimesRow.holds Try.pinned (OpenSpec.ofChange trainPrimesSpec)

/-- ITS FALSE NEIGHBOUR: 'it returns false'. Refute it at one input. -/
def trainPrimesWrong : ChangeSpec := { name := "trainPrimes", fn := fun _ => fun
  | [d1, d2, d3] => { results := [.lit (.bool false)], args := [d1, d2, d3] }
  | _ => none }
def TrainPrimesWrongFalsely : Prop := trainPrimesRow.holds Try.pinned (OpenSpec.ofChange trainPrimesWrong)

/-- 'turretlaw01.TrainCycles': WHATEVER THE INPUT: true; the input reads as it did. -/
def trainCyclesSpec : ChangeSpec := { name := "trainCycles", fn := fun _ => fun
  | [d1, d2] => { results := [.lit (.bool true)], args := [d1, d2] }
  | _ => none }
def trainCyclesRow : OpenClaim := { program := "ytabjhlfgcmmbfaa", sum := "bd84dd5856edf69946e2236e0eb7466e816cbca97401bdd4f50bbbfbe70e8252", func := "turret/turretlaw01.TrainCycles", spec := "trainCycles", unfollowed := true, recurses := true, apart := false }
def TrainCyclesSaid : Prop := trainCyclesRow.holds Try.pinned (OpenSpec.ofChange trainCyclesSpec)

/-- ITS FALSE NEIGHBOUR: 'it returns false'. Refute it at one input. -/
def trainCyclesWrong : ChangeSpec := { name := "trainCycles", fn := fun _ => fun
  | [d1, d2] => { results := [.lit (.bool false)], args := [d1, d2] }
  | _ => none }
def TrainCyclesWrongFalsely : Prop := trainCyclesRow.holds Try.pinned (OpenSpec.ofChange trainCyclesWrong)

/-- 'turretlaw01.TrainInverse': WHATEVER THE INPUT: true; the input reads as it did. -/
def trainInverseSpec : ChangeSpec := { name := "trainInverse", fn := fun _ => fun
  | [d1, d2, d3] => { results := [.lit (.bool true)], args := [d1, d2, d3] }
  | _ => none }
def trainInverseRow : OpenClaim := { program := "ytabjhlfgcmmbfaa", sum := "bd84dd5856edf69946e2236e0eb7466e816cbca97401bdd4f50bbbfbe70e8252", func := "turret/turretlaw01.TrainInverse", spec := "trainInverse", unfollowed := true, recurses := true, apart := false }
def TrainInverseSaid : Prop := trainInverseRow.holds Try.pinned (OpenSpec.ofChange trainInverseSpec)

/-- ITS FALSE NEIGHBOUR: 'it returns false'. Refute it at one input. -/
def trainInverseWrong : ChangeSpec := { name := "trainInverse", fn := fun _ => fun
  | [d1, d2, d3] => { results := [.lit (.bool false)], args := [d1, d2, d3] }
  | _ => none }
def TrainInverseWrongFalsely : Prop := trainInverseRow.holds Try.pinned (OpenSpec.ofChange trainInverseWrong)

/-- 'turretlaw01.TrainNearest': WHATEVER THE INPUT: true; the input reads as it did. -/
def trainNearestSpec : ChangeSpec := { name := "trainNearest", fn := fun _ => fun
  | [d1, d2, d3] => { results := [.lit (.bool true)], args := [d1, d2, d3] }
  | _ => none }
def trainNearestRow : OpenClaim := { program := "ytabjhlfgcmmbfaa", sum := "bd84dd5856edf69946e2236e0eb7466e816cbca97401bdd4f50bbbfbe70e8252", func := "turret/turretlaw01.TrainNearest", spec := "trainNearest", unfollowed := true, recurses := true, apart := false }
def TrainNearestSaid : Prop := trainNearestRow.holds Try.pinned (OpenSpec.ofChange trainNearestSpec)

/-- ITS FALSE NEIGHBOUR: 'it returns false'. Refute it at one input. -/
def trainNearestWrong : ChangeSpec := { name := "trainNearest", fn := fun _ => fun
  | [d1, d2, d3] => { results := [.lit (.bool false)], args := [d1, d2, d3] }
  | _ => none }
def TrainNearestWrongFalsely : Prop := trainNearestRow.holds Try.pinned (OpenSpec.ofChange trainNearestWrong)

/- THE SECOND FORM. 'bulk': how many values and letters a reading holds, each counted each time it is reached (what is shared counts as often as it is met; a slice's spare places count too). A statement '..UptoSaid' is the law's where the arguments, and the package variables that the reading takes, are together of bulk at most 1048576: NARROWER than '..Said'. Prove '..Said' where nothing that the law and all that it calls make is longer than what came in: it says more and counts as full. Else prove '..UptoSaid'. A law counts once. -/
mutual
def uptoBulk {H : Type} : DataW H → Nat
  | .lit (.string bytes) => bytes.length + 1
  | .lit _ => 1
  | .nil => 1
  | .ptr d => uptoBulk d + 1
  | .slice elems spare => uptoBulkAll elems + uptoBulkAll spare + 1
  | .agg parts => uptoBulkAll parts + 1
  | .iface _ d => uptoBulk d + 1
  | .map entries => uptoBulkEntries entries + 1
  | .held _ => 1
def uptoBulkAll {H : Type} : List (DataW H) → Nat
  | [] => 0
  | d :: r => uptoBulk d + uptoBulkAll r
def uptoBulkEntries {H : Type} : List (Lit × DataW H) → Nat
  | [] => 0
  | x :: r => uptoBulkEntry x + uptoBulkEntries r
def uptoBulkEntry {H : Type} : Lit × DataW H → Nat
  | (.string bytes, d) => bytes.length + uptoBulk d + 1
  | (_, d) => uptoBulk d + 1
 end
def uptoSmall : (H : Type) → List (DataW H) → Bool := fun _ ds => decide (uptoBulkAll ds ≤ 1048576)
def OpenSpec.upto (s : _root_.Go.ChangeSpec) : _root_.Go.OpenSpec := { _root_.Go.OpenSpec.ofChange s with cond := some uptoSmall }

/-- 'turretlaw01.TrainTurns', WHERE WHAT IT READS IS OF BULK AT MOST 1048576: true; the input reads as it did. -/
def trainTurnsUptoRow : OpenClaim := { program := "ytabjhlfgcmmbfaa", sum := "bd84dd5856edf69946e2236e0eb7466e816cbca97401bdd4f50bbbfbe70e8252", func := "turret/turretlaw01.TrainTurns", spec := "trainTurns", unfollowed := true, recurses := true, apart := false, narrowed := true }
def TrainTurnsUptoSaid : Prop := trainTurnsUptoRow.holds Try.pinned (OpenSpec.upto trainTurnsSpec)

/-- 'turretlaw01.TrainMisses', WHERE WHAT IT READS IS OF BULK AT MOST 1048576: true; the input reads as it did. -/
def trainMissesUptoRow : OpenClaim := { program := "ytabjhlfgcmmbfaa", sum := "bd84dd5856edf69946e2236e0eb7466e816cbca97401bdd4f50bbbfbe70e8252", func := "turret/turretlaw01.TrainMisses", spec := "trainMisses", unfollowed := true, recurses := true, apart := false, narrowed := true }
def TrainMissesUptoSaid : Prop := trainMissesUptoRow.holds Try.pinned (OpenSpec.upto trainMissesSpec)

/-- 'turretlaw01.TrainFinds', WHERE WHAT IT READS IS OF BULK AT MOST 1048576: true; the input reads as it did. -/
def trainFindsUptoRow : OpenClaim := { program := "ytabjhlfgcmmbfaa", sum := "bd84dd5856edf69946e2236e0eb7466e816cbca97401bdd4f50bbbfbe70e8252", func := "turret/turretlaw01.TrainFinds", spec := "trainFinds", unfollowed := true, recurses := true, apart := false, narrowed := true }
def TrainFindsUptoSaid : Prop := trainFindsUptoRow.holds Try.pinned (OpenSpec.upto trainFindsSpec)

/-- 'turretlaw01.TrainNears', WHERE WHAT IT READS IS OF BULK AT MOST 1048576: true; the input reads as it did. -/
def trainNearsUptoRow : OpenClaim := { program := "ytabjhlfgcmmbfaa", sum := "bd84dd5856edf69946e2236e0eb7466e816cbca97401bdd4f50bbbfbe70e8252", func := "turret/turretlaw01.TrainNears", spec := "trainNears", unfollowed := true, recurses := true, apart := false, narrowed := true }
def TrainNearsUptoSaid : Prop := trainNearsUptoRow.holds Try.pinned (OpenSpec.upto trainNearsSpec)

/-- 'turretlaw01.TrainExact', WHERE WHAT IT READS IS OF BULK AT MOST 1048576: true; the input reads as it did. -/
def trainExactUptoRow : OpenClaim := { program := "ytabjhlfgcmmbfaa", sum := "bd84dd5856edf69946e2236e0eb7466e816cbca97401bdd4f50bbbfbe70e8252", func := "turret/turretlaw01.TrainExact", spec := "trainExact", unfollowed := true, recurses := true, apart := false, narrowed := true }
def TrainExactUptoSaid : Prop := trainExactUptoRow.holds Try.pinned (OpenSpec.upto trainExactSpec)

/-- 'turretlaw01.TrainPrimes', WHERE WHAT IT READS IS OF BULK AT MOST 1048576: true; the input reads as it did. -/
def trainPrimesUptoRow : OpenClaim := { program := "ytabjhlfgcmmbfaa", sum := "bd84dd5856edf69946e2236e0eb7466e816cbca97401bdd4f50bbbfbe70e8252", func := "turret/turretlaw01.TrainPrimes", spec := "trainPrimes", unfollowed := true, recurses := true, apart := false, narrowed := true }
def TrainPrimesUptoSaid : Prop := trainPrimesUptoRow.holds Try.pinned (OpenSpec.upto trainPrimesSpec)

/-- 'turretlaw01.TrainCycles', WHERE WHAT IT READS IS OF BULK AT MOST 1048576: true; the input reads as it did. -/
def trainCyclesUptoRow : OpenClaim := { program := "ytabjhlfgcmmbfaa", sum := "bd84dd5856edf69946e2236e0eb7466e816cbca97401bdd4f50bbbfbe70e8252", func := "turret/turretlaw01.TrainCycles", spec := "trainCycles", unfollowed := true, recurses := true, apart := false, narrowed := true }
def TrainCyclesUptoSaid : Prop := trainCyclesUptoRow.holds Try.pinned (OpenSpec.upto trainCyclesSpec)

/-- 'turretlaw01.TrainInverse', WHERE WHAT IT READS IS OF BULK AT MOST 1048576: true; the input reads as it did. -/
def trainInverseUptoRow : OpenClaim := { program := "ytabjhlfgcmmbfaa", sum := "bd84dd5856edf69946e2236e0eb7466e816cbca97401bdd4f50bbbfbe70e8252", func := "turret/turretlaw01.TrainInverse", spec := "trainInverse", unfollowed := true, recurses := true, apart := false, narrowed := true }
def TrainInverseUptoSaid : Prop := trainInverseUptoRow.holds Try.pinned (OpenSpec.upto trainInverseSpec)

/-- 'turretlaw01.TrainNearest', WHERE WHAT IT READS IS OF BULK AT MOST 1048576: true; the input reads as it did. -/
def trainNearestUptoRow : OpenClaim := { program := "ytabjhlfgcmmbfaa", sum := "bd84dd5856edf69946e2236e0eb7466e816cbca97401bdd4f50bbbfbe70e8252", func := "turret/turretlaw01.TrainNearest", spec := "trainNearest", unfollowed := true, recurses := true, apart := false, narrowed := true }
def TrainNearestUptoSaid : Prop := trainNearestUptoRow.holds Try.pinned (OpenSpec.upto trainNearestSpec)

end Rows
end Go.Proofs.Ytabjhlfgcmmbfaa
