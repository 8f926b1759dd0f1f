/-
  No cell of these rows narrows 'for every input' (looked for: loops, veiled, ifaces, maps, wideKeys, modest, calm, conditions, laid).
  DERIVED. THE GIVEN ROWS OF THIS SEAT. 5 by the template 'for every input the law returns true; each argument reads behind the call as it read before'; 0 by the template 'total and deterministic' (their statements: YtohjpfkcahlfkaaTotals.lean).
  GIVEN WITH THE SEED: the statements are not yours to turn. If you find one false, say at which input.
  Laid BY PROGRAM, IN A SANDBOX (cutbox-rows.mjs): the forced cells as the released guide's own fill.sh prints them over the translation 5bb715d748006e14… (all of the seat's roots in one cut). By AI agents, Wed Nov 11 2026. No macro, syntax, notation, axiom, sorry.
-/
import Derived.Test.YtohjpfkcahlfkaaChecked
import GoSem.Claim
import GoSem.ClaimJoined
import GoSem.ClaimMapViews
import Derived.JoinedTies
import Derived.KernelRfl
namespace Go.Proofs.Ytohjpfkcahlfkaa
/- THE CELL 'sum', in the pinned program and in every row, IS THE sha256 OF THE DUMP (.gsa) THAT YtohjpfkcahlfkaaProg.lean LOADS. Nothing in Lean hashes anything: it is a label: what it is worth is what the hold of that sum in a sandbox is worth. -/
noncomputable def Try.pinned : Pinned := { name := "ytohjpfkcahlfkaa", sum := "5bb715d748006e145456e3f2eb49d6b7f832df09b6aaad20e78ce6f63e43028a", checked := Try.checked }
namespace Rows
def none {H : Type} : Left H := { results := [], args := [] }

/-- 'turretlaw11.RoundDays': WHATEVER THE INPUT: true; the input reads as it did. -/
def roundDaysSpec : ChangeSpec := { name := "roundDays", fn := fun _ => fun
  | [d1, d2, d3] => { results := [.lit (.bool true)], args := [d1, d2, d3] }
  | _ => none }
def roundDaysRow : OpenClaim := { program := "ytohjpfkcahlfkaa", sum := "5bb715d748006e145456e3f2eb49d6b7f832df09b6aaad20e78ce6f63e43028a", func := "turret/turretlaw11.RoundDays", spec := "roundDays", unfollowed := true, recurses := true, plainKeys := false, apart := false }
def RoundDaysSaid : Prop := roundDaysRow.holds Try.pinned (OpenSpec.ofChange roundDaysSpec)

/-- ITS FALSE NEIGHBOUR: 'it returns false'. Refute it at one input. -/
def roundDaysWrong : ChangeSpec := { name := "roundDays", fn := fun _ => fun
  | [d1, d2, d3] => { results := [.lit (.bool false)], args := [d1, d2, d3] }
  | _ => none }
def RoundDaysWrongFalsely : Prop := roundDaysRow.holds Try.pinned (OpenSpec.ofChange roundDaysWrong)

/-- 'turretlaw11.RoundLaw': WHATEVER THE INPUT: true; the input reads as it did. -/
def roundLawSpec : ChangeSpec := { name := "roundLaw", fn := fun _ => fun
  | [d1, d2, d3] => { results := [.lit (.bool true)], args := [d1, d2, d3] }
  | _ => none }
def roundLawRow : OpenClaim := { program := "ytohjpfkcahlfkaa", sum := "5bb715d748006e145456e3f2eb49d6b7f832df09b6aaad20e78ce6f63e43028a", func := "turret/turretlaw11.RoundLaw", spec := "roundLaw", unfollowed := true, recurses := true, plainKeys := false, apart := false }
def RoundLawSaid : Prop := roundLawRow.holds Try.pinned (OpenSpec.ofChange roundLawSpec)

/-- ITS FALSE NEIGHBOUR: 'it returns false'. Refute it at one input. -/
def roundLawWrong : ChangeSpec := { name := "roundLaw", fn := fun _ => fun
  | [d1, d2, d3] => { results := [.lit (.bool false)], args := [d1, d2, d3] }
  | _ => none }
def RoundLawWrongFalsely : Prop := roundLawRow.holds Try.pinned (OpenSpec.ofChange roundLawWrong)

/-- 'turretlaw11.RoundShared': WHATEVER THE INPUT: true; the input reads as it did. -/
def roundSharedSpec : ChangeSpec := { name := "roundShared", fn := fun _ => fun
  | [d1, d2] => { results := [.lit (.bool true)], args := [d1, d2] }
  | _ => none }
def roundSharedRow : OpenClaim := { program := "ytohjpfkcahlfkaa", sum := "5bb715d748006e145456e3f2eb49d6b7f832df09b6aaad20e78ce6f63e43028a", func := "turret/turretlaw11.RoundShared", spec := "roundShared", unfollowed := true, recurses := true, plainKeys := false, apart := false }
def RoundSharedSaid : Prop := roundSharedRow.holds Try.pinned (OpenSpec.ofChange roundSharedSpec)

/-- ITS FALSE NEIGHBOUR: 'it returns false'. Refute it at one input. -/
def roundSharedWrong : ChangeSpec := { name := "roundShared", fn := fun _ => fun
  | [d1, d2] => { results := [.lit (.bool false)], args := [d1, d2] }
  | _ => none }
def RoundSharedWrongFalsely : Prop := roundSharedRow.holds Try.pinned (OpenSpec.ofChange roundSharedWrong)

/-- 'turretlaw11.RoundEasier': WHATEVER THE INPUT: true; the input reads as it did. -/
def roundEasierSpec : ChangeSpec := { name := "roundEasier", fn := fun _ => fun
  | [d1, d2, d3] => { results := [.lit (.bool true)], args := [d1, d2, d3] }
  | _ => none }
def roundEasierRow : OpenClaim := { program := "ytohjpfkcahlfkaa", sum := "5bb715d748006e145456e3f2eb49d6b7f832df09b6aaad20e78ce6f63e43028a", func := "turret/turretlaw11.RoundEasier", spec := "roundEasier", unfollowed := true, recurses := true, plainKeys := false, apart := false }
def RoundEasierSaid : Prop := roundEasierRow.holds Try.pinned (OpenSpec.ofChange roundEasierSpec)

/-- ITS FALSE NEIGHBOUR: 'it returns false'. Refute it at one input. -/
def roundEasierWrong : ChangeSpec := { name := "roundEasier", fn := fun _ => fun
  | [d1, d2, d3] => { results := [.lit (.bool false)], args := [d1, d2, d3] }
  | _ => none }
def RoundEasierWrongFalsely : Prop := roundEasierRow.holds Try.pinned (OpenSpec.ofChange roundEasierWrong)

/-- 'turretlaw11.RoundStops': WHATEVER THE INPUT: true; the input reads as it did. -/
def roundStopsSpec : ChangeSpec := { name := "roundStops", fn := fun _ => fun
  | [d1, d2, d3] => { results := [.lit (.bool true)], args := [d1, d2, d3] }
  | _ => none }
def roundStopsRow : OpenClaim := { program := "ytohjpfkcahlfkaa", sum := "5bb715d748006e145456e3f2eb49d6b7f832df09b6aaad20e78ce6f63e43028a", func := "turret/turretlaw11.RoundStops", spec := "roundStops", unfollowed := true, recurses := true, plainKeys := false, apart := false }
def RoundStopsSaid : Prop := roundStopsRow.holds Try.pinned (OpenSpec.ofChange roundStopsSpec)

/-- ITS FALSE NEIGHBOUR: 'it returns false'. Refute it at one input. -/
def roundStopsWrong : ChangeSpec := { name := "roundStops", fn := fun _ => fun
  | [d1, d2, d3] => { results := [.lit (.bool false)], args := [d1, d2, d3] }
  | _ => none }
def RoundStopsWrongFalsely : Prop := roundStopsRow.holds Try.pinned (OpenSpec.ofChange roundStopsWrong)

/- THE SECOND FORM. 'bulk': how many values and letters a reading holds, each counted each time it is reached (what is shared counts as often as it is met; a slice's spare places count too). A statement '..UptoSaid' is the law's where the arguments, and the package variables that the reading takes, are together of bulk at most 1048576: NARROWER than '..Said'. Prove '..Said' where nothing that the law and all that it calls make is longer than what came in: it says more and counts as full. Else prove '..UptoSaid'. A law counts once. -/
mutual
def uptoBulk {H : Type} : DataW H → Nat
  | .lit (.string bytes) => bytes.length + 1
  | .lit _ => 1
  | .nil => 1
  | .ptr d => uptoBulk d + 1
  | .slice elems spare => uptoBulkAll elems + uptoBulkAll spare + 1
  | .agg parts => uptoBulkAll parts + 1
  | .iface _ d => uptoBulk d + 1
  | .map entries => uptoBulkEntries entries + 1
  | .held _ => 1
def uptoBulkAll {H : Type} : List (DataW H) → Nat
  | [] => 0
  | d :: r => uptoBulk d + uptoBulkAll r
def uptoBulkEntries {H : Type} : List (Lit × DataW H) → Nat
  | [] => 0
  | x :: r => uptoBulkEntry x + uptoBulkEntries r
def uptoBulkEntry {H : Type} : Lit × DataW H → Nat
  | (.string bytes, d) => bytes.length + uptoBulk d + 1
  | (_, d) => uptoBulk d + 1
 end
def uptoSmall : (H : Type) → List (DataW H) → Bool := fun _ ds => decide (uptoBulkAll ds ≤ 1048576)
def OpenSpec.upto (s : _root_.Go.ChangeSpec) : _root_.Go.OpenSpec := { _root_.Go.OpenSpec.ofChange s with cond := some uptoSmall }

/-- 'turretlaw11.RoundDays', WHERE WHAT IT READS IS OF BULK AT MOST 1048576: true; the input reads as it did. -/
def roundDaysUptoRow : OpenClaim := { program := "ytohjpfkcahlfkaa", sum := "5bb715d748006e145456e3f2eb49d6b7f832df09b6aaad20e78ce6f63e43028a", func := "turret/turretlaw11.RoundDays", spec := "roundDays", unfollowed := true, recurses := true, plainKeys := false, apart := false, narrowed := true }
def RoundDaysUptoSaid : Prop := roundDaysUptoRow.holds Try.pinned (OpenSpec.upto roundDaysSpec)

/-- 'turretlaw11.RoundLaw', WHERE WHAT IT READS IS OF BULK AT MOST 1048576: true; the input reads as it did. -/
def roundLawUptoRow : OpenClaim := { program := "ytohjpfkcahlfkaa", sum := "5bb715d748006e145456e3f2eb49d6b7f832df09b6aaad20e78ce6f63e43028a", func := "turret/turretlaw11.RoundLaw", spec := "roundLaw", unfollowed := true, recurses := true, plainKeys := false, apart := false, narrowed := true }
def RoundLawUptoSaid : Prop := roundLawUptoRow.holds Try.pinned (OpenSpec.upto roundLawSpec)

/-- 'turretlaw11.RoundShared', WHERE WHAT IT READS IS OF BULK AT MOST 1048576: true; the input reads as it did. -/
def roundSharedUptoRow : OpenClaim := { program := "ytohjpfkcahlfkaa", sum := "5bb715d748006e145456e3f2eb49d6b7f832df09b6aaad20e78ce6f63e43028a", func := "turret/turretlaw11.RoundShared", spec := "roundShared", unfollowed := true, recurses := true, plainKeys := false, apart := false, narrowed := true }
def RoundSharedUptoSaid : Prop := roundSharedUptoRow.holds Try.pinned (OpenSpec.upto roundSharedSpec)

/-- 'turretlaw11.RoundEasier', WHERE WHAT IT READS IS OF BULK AT MOST 1048576: true; the input reads as it did. -/
def roundEasierUptoRow : OpenClaim := { program := "ytohjpfkcahlfkaa", sum := "5bb715d748006e145456e3f2eb49d6b7f832df09b6aaad20e78ce6f63e43028a", func := "turret/turretlaw11.RoundEasier", spec := "roundEasier", unfollowed := true, recurses := true, plainKeys := false, apart := false, narrowed := true }
def RoundEasierUptoSaid : Prop := roundEasierUptoRow.holds Try.pinned (OpenSpec.upto roundEasierSpec)

/-- 'turretlaw11.RoundStops', WHERE WHAT IT READS IS OF BULK AT MOST 1048576: true; the input reads as it did. -/
def roundStopsUptoRow : OpenClaim := { program := "ytohjpfkcahlfkaa", sum := "5bb715d748006e145456e3f2eb49d6b7f832df09b6aaad20e78ce6f63e43028a", func := "turret/turretlaw11.RoundStops", spec := "roundStops", unfollowed := true, recurses := true, plainKeys := false, apart := false, narrowed := true }
def RoundStopsUptoSaid : Prop := roundStopsUptoRow.holds Try.pinned (OpenSpec.upto roundStopsSpec)

end Rows
end Go.Proofs.Ytohjpfkcahlfkaa
