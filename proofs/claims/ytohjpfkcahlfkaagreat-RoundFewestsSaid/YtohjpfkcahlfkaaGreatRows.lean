/-
  No cell of these rows narrows 'for every input' (looked for: loops, veiled, ifaces, maps, wideKeys, modest, calm, conditions, laid).
  DERIVED. THE GIVEN ROWS OF THIS SEAT. 3 by the template 'for every input the law returns true; each argument reads behind the call as it read before'; 0 by the template 'total and deterministic' (their statements: YtohjpfkcahlfkaaGreatTotals.lean).
  GIVEN WITH THE SEED: the statements are not yours to turn. If you find one false, say at which input.
  Laid BY PROGRAM, IN A SANDBOX (cutbox-rows.mjs): the forced cells as the released guide's own fill.sh prints them over the translation 54f0444ec1e72393… (all of the seat's roots in one cut). By AI agents, Wed Nov 11 2026. No macro, syntax, notation, axiom, sorry.
-/
import Derived.Test.YtohjpfkcahlfkaaGreatChecked
import GoSem.Claim
import GoSem.ClaimJoined
import GoSem.ClaimMapViews
import Derived.JoinedTies
import Derived.KernelRfl
namespace Go.Proofs.YtohjpfkcahlfkaaGreat
/- THE CELL 'sum', in the pinned program and in every row, IS THE sha256 OF THE DUMP (.gsa) THAT YtohjpfkcahlfkaaGreatProg.lean LOADS. Nothing in Lean hashes anything: it is a label: what it is worth is what the hold of that sum in a sandbox is worth. -/
noncomputable def Tryz.pinned : Pinned := { name := "ytohjpfkcahlfkaagreat", sum := "54f0444ec1e72393cd5e93f7401eeb805bccd66b89227103a4b42c30faff7252", checked := Tryz.checked }
namespace Rows
def none {H : Type} : Left H := { results := [], args := [] }

/-- 'turretlaw11.RoundWalks': WHATEVER THE INPUT: true; the input reads as it did. -/
def roundWalksSpec : ChangeSpec := { name := "roundWalks", fn := fun _ => fun
  | [d1, d2] => { results := [.lit (.bool true)], args := [d1, d2] }
  | _ => none }
def roundWalksRow : OpenClaim := { program := "ytohjpfkcahlfkaagreat", sum := "54f0444ec1e72393cd5e93f7401eeb805bccd66b89227103a4b42c30faff7252", func := "turret/turretlaw11.RoundWalks", spec := "roundWalks", unfollowed := true, recurses := true, plainKeys := false, apart := false }
def RoundWalksSaid : Prop := roundWalksRow.holds Tryz.pinned (OpenSpec.ofChange roundWalksSpec)

/-- ITS FALSE NEIGHBOUR: 'it returns false'. Refute it at one input. -/
def roundWalksWrong : ChangeSpec := { name := "roundWalks", fn := fun _ => fun
  | [d1, d2] => { results := [.lit (.bool false)], args := [d1, d2] }
  | _ => none }
def RoundWalksWrongFalsely : Prop := roundWalksRow.holds Tryz.pinned (OpenSpec.ofChange roundWalksWrong)

/-- 'turretlaw11.RoundBests': WHATEVER THE INPUT: true; the input reads as it did. -/
def roundBestsSpec : ChangeSpec := { name := "roundBests", fn := fun _ => fun
  | [d1, d2, d3] => { results := [.lit (.bool true)], args := [d1, d2, d3] }
  | _ => none }
def roundBestsRow : OpenClaim := { program := "ytohjpfkcahlfkaagreat", sum := "54f0444ec1e72393cd5e93f7401eeb805bccd66b89227103a4b42c30faff7252", func := "turret/turretlaw11.RoundBests", spec := "roundBests", unfollowed := true, recurses := true, plainKeys := false, apart := false }
def RoundBestsSaid : Prop := roundBestsRow.holds Tryz.pinned (OpenSpec.ofChange roundBestsSpec)

/-- ITS FALSE NEIGHBOUR: 'it returns false'. Refute it at one input. -/
def roundBestsWrong : ChangeSpec := { name := "roundBests", fn := fun _ => fun
  | [d1, d2, d3] => { results := [.lit (.bool false)], args := [d1, d2, d3] }
  | _ => none }
def RoundBestsWrongFalsely : Prop := roundBestsRow.holds Tryz.pinned (OpenSpec.ofChange roundBestsWrong)

/-- 'turretlaw11.RoundFewests': WHATEVER THE INPUT: true; the input reads as it did. -/
def roundFewestsSpec : ChangeSpec := { name := "roundFewests", fn := fun _ => fun
  | [d1, d2] => { results := [.lit (.bool true)], args := [d1, d2] }
  | _ => none }
def roundFewestsRow : OpenClaim := { program := "ytohjpfkcahlfkaagreat", sum := "54f0444ec1e72393cd5e93f7401eeb805bccd66b89227103a4b42c30faff7252", func := "turret/turretlaw11.RoundFewests", spec := "roundFewests", unfollowed := true, recurses := true, plainKeys := false, apart := false }
def RoundFewestsSaid : Prop := roundFewestsRow.holds Tryz.pinned (OpenSpec.ofChange roundFewestsSpec)

/-- ITS FALSE NEIGHBOUR: 'it returns false'. Refute it at one input. -/
def roundFewestsWrong : ChangeSpec := { name := "roundFewests", fn := fun _ => fun
  | [d1, d2] => { results := [.lit (.bool false)], args := [d1, d2] }
  | _ => none }
def RoundFewestsWrongFalsely : Prop := roundFewestsRow.holds Tryz.pinned (OpenSpec.ofChange roundFewestsWrong)

/- THE SECOND FORM. 'bulk': how many values and letters a reading holds, each counted each time it is reached (what is shared counts as often as it is met; a slice's spare places count too). A statement '..UptoSaid' is the law's where the arguments, and the package variables that the reading takes, are together of bulk at most 1048576: NARROWER than '..Said'. Prove '..Said' where nothing that the law and all that it calls make is longer than what came in: it says more and counts as full. Else prove '..UptoSaid'. A law counts once. -/
mutual
def uptoBulk {H : Type} : DataW H → Nat
  | .lit (.string bytes) => bytes.length + 1
  | .lit _ => 1
  | .nil => 1
  | .ptr d => uptoBulk d + 1
  | .slice elems spare => uptoBulkAll elems + uptoBulkAll spare + 1
  | .agg parts => uptoBulkAll parts + 1
  | .iface _ d => uptoBulk d + 1
  | .map entries => uptoBulkEntries entries + 1
  | .held _ => 1
def uptoBulkAll {H : Type} : List (DataW H) → Nat
  | [] => 0
  | d :: r => uptoBulk d + uptoBulkAll r
def uptoBulkEntries {H : Type} : List (Lit × DataW H) → Nat
  | [] => 0
  | x :: r => uptoBulkEntry x + uptoBulkEntries r
def uptoBulkEntry {H : Type} : Lit × DataW H → Nat
  | (.string bytes, d) => bytes.length + uptoBulk d + 1
  | (_, d) => uptoBulk d + 1
 end
def uptoSmall : (H : Type) → List (DataW H) → Bool := fun _ ds => decide (uptoBulkAll ds ≤ 1048576)
def OpenSpec.upto (s : _root_.Go.ChangeSpec) : _root_.Go.OpenSpec := { _root_.Go.OpenSpec.ofChange s with cond := some uptoSmall }

/-- 'turretlaw11.RoundWalks', WHERE WHAT IT READS IS OF BULK AT MOST 1048576: true; the input reads as it did. -/
def roundWalksUptoRow : OpenClaim := { program := "ytohjpfkcahlfkaagreat", sum := "54f0444ec1e72393cd5e93f7401eeb805bccd66b89227103a4b42c30faff7252", func := "turret/turretlaw11.RoundWalks", spec := "roundWalks", unfollowed := true, recurses := true, plainKeys := false, apart := false, narrowed := true }
def RoundWalksUptoSaid : Prop := roundWalksUptoRow.holds Tryz.pinned (OpenSpec.upto roundWalksSpec)

/-- 'turretlaw11.RoundBests', WHERE WHAT IT READS IS OF BULK AT MOST 1048576: true; the input reads as it did. -/
def roundBestsUptoRow : OpenClaim := { program := "ytohjpfkcahlfkaagreat", sum := "54f0444ec1e72393cd5e93f7401eeb805bccd66b89227103a4b42c30faff7252", func := "turret/turretlaw11.RoundBests", spec := "roundBests", unfollowed := true, recurses := true, plainKeys := false, apart := false, narrowed := true }
def RoundBestsUptoSaid : Prop := roundBestsUptoRow.holds Tryz.pinned (OpenSpec.upto roundBestsSpec)

/-- 'turretlaw11.RoundFewests', WHERE WHAT IT READS IS OF BULK AT MOST 1048576: true; the input reads as it did. -/
def roundFewestsUptoRow : OpenClaim := { program := "ytohjpfkcahlfkaagreat", sum := "54f0444ec1e72393cd5e93f7401eeb805bccd66b89227103a4b42c30faff7252", func := "turret/turretlaw11.RoundFewests", spec := "roundFewests", unfollowed := true, recurses := true, plainKeys := false, apart := false, narrowed := true }
def RoundFewestsUptoSaid : Prop := roundFewestsUptoRow.holds Tryz.pinned (OpenSpec.upto roundFewestsSpec)

end Rows
end Go.Proofs.YtohjpfkcahlfkaaGreat
