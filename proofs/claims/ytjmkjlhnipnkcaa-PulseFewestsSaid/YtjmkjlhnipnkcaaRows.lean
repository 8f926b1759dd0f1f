/-
  No cell of these rows narrows 'for every input' (looked for: loops, veiled, ifaces, maps, wideKeys, modest, calm, conditions, laid).
  DERIVED. THE GIVEN ROWS OF THIS SEAT. 4 by the template 'for every input the law returns true; each argument reads behind the call as it read before'; 0 by the template 'total and deterministic' (their statements: YtjmkjlhnipnkcaaTotals.lean).
  GIVEN WITH THE SEED: the statements are not yours to turn. If you find one false, say at which input.
  Laid BY PROGRAM, IN A SANDBOX (cutbox-rows.mjs): the forced cells as the released guide's own fill.sh prints them over the translation 047159a8c44dcd9c… (all of the seat's roots in one cut). By AI agents, Wed Nov 11 2026. No macro, syntax, notation, axiom, sorry.
-/
import Derived.Test.YtjmkjlhnipnkcaaChecked
import GoSem.Claim
import GoSem.ClaimJoined
import GoSem.ClaimMapViews
import Derived.JoinedTies
import Derived.KernelRfl
namespace Go.Proofs.Ytjmkjlhnipnkcaa
/- THE CELL 'sum', in the pinned program and in every row, IS THE sha256 OF THE DUMP (.gsa) THAT YtjmkjlhnipnkcaaProg.lean LOADS. Nothing in Lean hashes anything: it is a label: what it is worth is what the hold of that sum in a sandbox is worth. -/
noncomputable def Try.pinned : Pinned := { name := "ytjmkjlhnipnkcaa", sum := "047159a8c44dcd9cc5cf9d68ec1666885ea854a78f037ea16bcb6d861c17eb14", checked := Try.checked }
namespace Rows
def none {H : Type} : Left H := { results := [], args := [] }

/-- 'turretlaw09.PulseRuns': WHATEVER THE INPUT: true; the input reads as it did. -/
def pulseRunsSpec : ChangeSpec := { name := "pulseRuns", fn := fun _ => fun
  | [d1, d2, d3] => { results := [.lit (.bool true)], args := [d1, d2, d3] }
  | _ => none }
def pulseRunsRow : OpenClaim := { program := "ytjmkjlhnipnkcaa", sum := "047159a8c44dcd9cc5cf9d68ec1666885ea854a78f037ea16bcb6d861c17eb14", func := "turret/turretlaw09.PulseRuns", spec := "pulseRuns", unfollowed := true, recurses := true, plainKeys := false, apart := false }
def PulseRunsSaid : Prop := pulseRunsRow.holds Try.pinned (OpenSpec.ofChange pulseRunsSpec)

/-- ITS FALSE NEIGHBOUR: 'it returns false'. Refute it at one input. -/
def pulseRunsWrong : ChangeSpec := { name := "pulseRuns", fn := fun _ => fun
  | [d1, d2, d3] => { results := [.lit (.bool false)], args := [d1, d2, d3] }
  | _ => none }
def PulseRunsWrongFalsely : Prop := pulseRunsRow.holds Try.pinned (OpenSpec.ofChange pulseRunsWrong)

/-- 'turretlaw09.PulseBacks': WHATEVER THE INPUT: true; the input reads as it did. -/
def pulseBacksSpec : ChangeSpec := { name := "pulseBacks", fn := fun _ => fun
  | [d1, d2, d3] => { results := [.lit (.bool true)], args := [d1, d2, d3] }
  | _ => none }
def pulseBacksRow : OpenClaim := { program := "ytjmkjlhnipnkcaa", sum := "047159a8c44dcd9cc5cf9d68ec1666885ea854a78f037ea16bcb6d861c17eb14", func := "turret/turretlaw09.PulseBacks", spec := "pulseBacks", unfollowed := true, recurses := true, plainKeys := false, apart := false }
def PulseBacksSaid : Prop := pulseBacksRow.holds Try.pinned (OpenSpec.ofChange pulseBacksSpec)

/-- ITS FALSE NEIGHBOUR: 'it returns false'. Refute it at one input. -/
def pulseBacksWrong : ChangeSpec := { name := "pulseBacks", fn := fun _ => fun
  | [d1, d2, d3] => { results := [.lit (.bool false)], args := [d1, d2, d3] }
  | _ => none }
def PulseBacksWrongFalsely : Prop := pulseBacksRow.holds Try.pinned (OpenSpec.ofChange pulseBacksWrong)

/-- 'turretlaw09.PulseCorrects': WHATEVER THE INPUT: true; the input reads as it did. -/
def pulseCorrectsSpec : ChangeSpec := { name := "pulseCorrects", fn := fun _ => fun
  | [d1, d2] => { results := [.lit (.bool true)], args := [d1, d2] }
  | _ => none }
def pulseCorrectsRow : OpenClaim := { program := "ytjmkjlhnipnkcaa", sum := "047159a8c44dcd9cc5cf9d68ec1666885ea854a78f037ea16bcb6d861c17eb14", func := "turret/turretlaw09.PulseCorrects", spec := "pulseCorrects", unfollowed := true, recurses := true, plainKeys := false, apart := false }
def PulseCorrectsSaid : Prop := pulseCorrectsRow.holds Try.pinned (OpenSpec.ofChange pulseCorrectsSpec)

/-- ITS FALSE NEIGHBOUR: 'it returns false'. Refute it at one input. -/
def pulseCorrectsWrong : ChangeSpec := { name := "pulseCorrects", fn := fun _ => fun
  | [d1, d2] => { results := [.lit (.bool false)], args := [d1, d2] }
  | _ => none }
def PulseCorrectsWrongFalsely : Prop := pulseCorrectsRow.holds Try.pinned (OpenSpec.ofChange pulseCorrectsWrong)

/-- 'turretlaw09.PulseFewests': WHATEVER THE INPUT: true; the input reads as it did. -/
def pulseFewestsSpec : ChangeSpec := { name := "pulseFewests", fn := fun _ => fun
  | [d1, d2, d3] => { results := [.lit (.bool true)], args := [d1, d2, d3] }
  | _ => none }
def pulseFewestsRow : OpenClaim := { program := "ytjmkjlhnipnkcaa", sum := "047159a8c44dcd9cc5cf9d68ec1666885ea854a78f037ea16bcb6d861c17eb14", func := "turret/turretlaw09.PulseFewests", spec := "pulseFewests", unfollowed := true, recurses := true, plainKeys := false, apart := false }
def PulseFewestsSaid : Prop := pulseFewestsRow.holds Try.pinned (OpenSpec.ofChange pulseFewestsSpec)

/-- ITS FALSE NEIGHBOUR: 'it returns false'. Refute it at one input. -/
def pulseFewestsWrong : ChangeSpec := { name := "pulseFewests", fn := fun _ => fun
  | [d1, d2, d3] => { results := [.lit (.bool false)], args := [d1, d2, d3] }
  | _ => none }
def PulseFewestsWrongFalsely : Prop := pulseFewestsRow.holds Try.pinned (OpenSpec.ofChange pulseFewestsWrong)

/- THE SECOND FORM. 'bulk': how many values and letters a reading holds, each counted each time it is reached (what is shared counts as often as it is met; a slice's spare places count too). A statement '..UptoSaid' is the law's where the arguments, and the package variables that the reading takes, are together of bulk at most 1048576: NARROWER than '..Said'. Prove '..Said' where nothing that the law and all that it calls make is longer than what came in: it says more and counts as full. Else prove '..UptoSaid'. A law counts once. -/
mutual
def uptoBulk {H : Type} : DataW H → Nat
  | .lit (.string bytes) => bytes.length + 1
  | .lit _ => 1
  | .nil => 1
  | .ptr d => uptoBulk d + 1
  | .slice elems spare => uptoBulkAll elems + uptoBulkAll spare + 1
  | .agg parts => uptoBulkAll parts + 1
  | .iface _ d => uptoBulk d + 1
  | .map entries => uptoBulkEntries entries + 1
  | .held _ => 1
def uptoBulkAll {H : Type} : List (DataW H) → Nat
  | [] => 0
  | d :: r => uptoBulk d + uptoBulkAll r
def uptoBulkEntries {H : Type} : List (Lit × DataW H) → Nat
  | [] => 0
  | x :: r => uptoBulkEntry x + uptoBulkEntries r
def uptoBulkEntry {H : Type} : Lit × DataW H → Nat
  | (.string bytes, d) => bytes.length + uptoBulk d + 1
  | (_, d) => uptoBulk d + 1
 end
def uptoSmall : (H : Type) → List (DataW H) → Bool := fun _ ds => decide (uptoBulkAll ds ≤ 1048576)
def OpenSpec.upto (s : _root_.Go.ChangeSpec) : _root_.Go.OpenSpec := { _root_.Go.OpenSpec.ofChange s with cond := some uptoSmall }

/-- 'turretlaw09.PulseRuns', WHERE WHAT IT READS IS OF BULK AT MOST 1048576: true; the input reads as it did. -/
def pulseRunsUptoRow : OpenClaim := { program := "ytjmkjlhnipnkcaa", sum := "047159a8c44dcd9cc5cf9d68ec1666885ea854a78f037ea16bcb6d861c17eb14", func := "turret/turretlaw09.PulseRuns", spec := "pulseRuns", unfollowed := true, recurses := true, plainKeys := false, apart := false, narrowed := true }
def PulseRunsUptoSaid : Prop := pulseRunsUptoRow.holds Try.pinned (OpenSpec.upto pulseRunsSpec)

/-- 'turretlaw09.PulseBacks', WHERE WHAT IT READS IS OF BULK AT MOST 1048576: true; the input reads as it did. -/
def pulseBacksUptoRow : OpenClaim := { program := "ytjmkjlhnipnkcaa", sum := "047159a8c44dcd9cc5cf9d68ec1666885ea854a78f037ea16bcb6d861c17eb14", func := "turret/turretlaw09.PulseBacks", spec := "pulseBacks", unfollowed := true, recurses := true, plainKeys := false, apart := false, narrowed := true }
def PulseBacksUptoSaid : Prop := pulseBacksUptoRow.holds Try.pinned (OpenSpec.upto pulseBacksSpec)

/-- 'turretlaw09.PulseCorrects', WHERE WHAT IT READS IS OF BULK AT MOST 1048576: true; the input reads as it did. -/
def pulseCorrectsUptoRow : OpenClaim := { program := "ytjmkjlhnipnkcaa", sum := "047159a8c44dcd9cc5cf9d68ec1666885ea854a78f037ea16bcb6d861c17eb14", func := "turret/turretlaw09.PulseCorrects", spec := "pulseCorrects", unfollowed := true, recurses := true, plainKeys := false, apart := false, narrowed := true }
def PulseCorrectsUptoSaid : Prop := pulseCorrectsUptoRow.holds Try.pinned (OpenSpec.upto pulseCorrectsSpec)

/-- 'turretlaw09.PulseFewests', WHERE WHAT IT READS IS OF BULK AT MOST 1048576: true; the input reads as it did. -/
def pulseFewestsUptoRow : OpenClaim := { program := "ytjmkjlhnipnkcaa", sum := "047159a8c44dcd9cc5cf9d68ec1666885ea854a78f037ea16bcb6d861c17eb14", func := "turret/turretlaw09.PulseFewests", spec := "pulseFewests", unfollowed := true, recurses := true, plainKeys := false, apart := false, narrowed := true }
def PulseFewestsUptoSaid : Prop := pulseFewestsUptoRow.holds Try.pinned (OpenSpec.upto pulseFewestsSpec)

end Rows
end Go.Proofs.Ytjmkjlhnipnkcaa
