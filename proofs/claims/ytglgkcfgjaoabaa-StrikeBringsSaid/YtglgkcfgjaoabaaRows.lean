/-
  No cell of these rows narrows 'for every input' (looked for: loops, veiled, ifaces, maps, wideKeys, modest, calm, conditions, laid).
  DERIVED. THE GIVEN ROWS OF THIS SEAT. 9 by the template 'for every input the law returns true; each argument reads behind the call as it read before'; 0 by the template 'total and deterministic' (their statements: YtglgkcfgjaoabaaTotals.lean).
  GIVEN WITH THE SEED: the statements are not yours to turn. If you find one false, say at which input.
  Laid BY PROGRAM, IN A SANDBOX (cutbox-rows.mjs): the forced cells as the released guide's own fill.sh prints them over the translation d0f3391b007ea392… (all of the seat's roots in one cut). By AI agents, Wed Nov 11 2026. No macro, syntax, notation, axiom, sorry.
-/
import Derived.Test.YtglgkcfgjaoabaaChecked
import GoSem.Claim
import GoSem.ClaimJoined
import GoSem.ClaimMapViews
import Derived.JoinedTies
import Derived.KernelRfl
namespace Go.Proofs.Ytglgkcfgjaoabaa
/- THE CELL 'sum', in the pinned program and in every row, IS THE sha256 OF THE DUMP (.gsa) THAT YtglgkcfgjaoabaaProg.lean LOADS. Nothing in Lean hashes anything: it is a label: what it is worth is what the hold of that sum in a sandbox is worth. -/
noncomputable def Try.pinned : Pinned := { name := "ytglgkcfgjaoabaa", sum := "d0f3391b007ea3926c097e47dfb6effaa929d72416371a65e622c72434b48772", checked := Try.checked }
namespace Rows
def none {H : Type} : Left H := { results := [], args := [] }

/-- 'turretlaw05.StrikeBlows': WHATEVER THE INPUT: true; the input reads as it did. -/
def strikeBlowsSpec : ChangeSpec := { name := "strikeBlows", fn := fun _ => fun
  | [d1, d2] => { results := [.lit (.bool true)], args := [d1, d2] }
  | _ => none }
def strikeBlowsRow : OpenClaim := { program := "ytglgkcfgjaoabaa", sum := "d0f3391b007ea3926c097e47dfb6effaa929d72416371a65e622c72434b48772", func := "turret/turretlaw05.StrikeBlows", spec := "strikeBlows", unfollowed := true, recurses := true, plainKeys := false, apart := false }
def StrikeBlowsSaid : Prop := strikeBlowsRow.holds Try.pinned (OpenSpec.ofChange strikeBlowsSpec)

/-- ITS FALSE NEIGHBOUR: 'it returns false'. Refute it at one input. -/
def strikeBlowsWrong : ChangeSpec := { name := "strikeBlows", fn := fun _ => fun
  | [d1, d2] => { results := [.lit (.bool false)], args := [d1, d2] }
  | _ => none }
def StrikeBlowsWrongFalsely : Prop := strikeBlowsRow.holds Try.pinned (OpenSpec.ofChange strikeBlowsWrong)

/-- 'turretlaw05.StrikeHears': WHATEVER THE INPUT: true; the input reads as it did. -/
def strikeHearsSpec : ChangeSpec := { name := "strikeHears", fn := fun _ => fun
  | [d1, d2] => { results := [.lit (.bool true)], args := [d1, d2] }
  | _ => none }
def strikeHearsRow : OpenClaim := { program := "ytglgkcfgjaoabaa", sum := "d0f3391b007ea3926c097e47dfb6effaa929d72416371a65e622c72434b48772", func := "turret/turretlaw05.StrikeHears", spec := "strikeHears", unfollowed := true, recurses := true, plainKeys := false, apart := false }
def StrikeHearsSaid : Prop := strikeHearsRow.holds Try.pinned (OpenSpec.ofChange strikeHearsSpec)

/-- ITS FALSE NEIGHBOUR: 'it returns false'. Refute it at one input. -/
def strikeHearsWrong : ChangeSpec := { name := "strikeHears", fn := fun _ => fun
  | [d1, d2] => { results := [.lit (.bool false)], args := [d1, d2] }
  | _ => none }
def StrikeHearsWrongFalsely : Prop := strikeHearsRow.holds Try.pinned (OpenSpec.ofChange strikeHearsWrong)

/-- 'turretlaw05.StrikePlays': WHATEVER THE INPUT: true; the input reads as it did. -/
def strikePlaysSpec : ChangeSpec := { name := "strikePlays", fn := fun _ => fun
  | [d1, d2, d3] => { results := [.lit (.bool true)], args := [d1, d2, d3] }
  | _ => none }
def strikePlaysRow : OpenClaim := { program := "ytglgkcfgjaoabaa", sum := "d0f3391b007ea3926c097e47dfb6effaa929d72416371a65e622c72434b48772", func := "turret/turretlaw05.StrikePlays", spec := "strikePlays", unfollowed := true, recurses := true, plainKeys := false, apart := false }
def StrikePlaysSaid : Prop := strikePlaysRow.holds Try.pinned (OpenSpec.ofChange strikePlaysSpec)

/-- ITS FALSE NEIGHBOUR: 'it returns false'. Refute it at one input. -/
def strikePlaysWrong : ChangeSpec := { name := "strikePlays", fn := fun _ => fun
  | [d1, d2, d3] => { results := [.lit (.bool false)], args := [d1, d2, d3] }
  | _ => none }
def StrikePlaysWrongFalsely : Prop := strikePlaysRow.holds Try.pinned (OpenSpec.ofChange strikePlaysWrong)

/-- 'turretlaw05.StrikeBrings': WHATEVER THE INPUT: true; the input reads as it did. -/
def strikeBringsSpec : ChangeSpec := { name := "strikeBrings", fn := fun _ => fun
  | [d1, d2, d3] => { results := [.lit (.bool true)], args := [d1, d2, d3] }
  | _ => none }
def strikeBringsRow : OpenClaim := { program := "ytglgkcfgjaoabaa", sum := "d0f3391b007ea3926c097e47dfb6effaa929d72416371a65e622c72434b48772", func := "turret/turretlaw05.StrikeBrings", spec := "strikeBrings", unfollowed := true, recurses := true, plainKeys := false, apart := false }
def StrikeBringsSaid : Prop := strikeBringsRow.holds Try.pinned (OpenSpec.ofChange strikeBringsSpec)

/-- ITS FALSE NEIGHBOUR: 'it returns false'. Refute it at one input. -/
def strikeBringsWrong : ChangeSpec := { name := "strikeBrings", fn := fun _ => fun
  | [d1, d2, d3] => { results := [.lit (.bool false)], args := [d1, d2, d3] }
  | _ => none }
def StrikeBringsWrongFalsely : Prop := strikeBringsRow.holds Try.pinned (OpenSpec.ofChange strikeBringsWrong)

/-- 'turretlaw05.StrikeFound': WHATEVER THE INPUT: true; the input reads as it did. -/
def strikeFoundSpec : ChangeSpec := { name := "strikeFound", fn := fun _ => fun
  | [d1, d2, d3] => { results := [.lit (.bool true)], args := [d1, d2, d3] }
  | _ => none }
def strikeFoundRow : OpenClaim := { program := "ytglgkcfgjaoabaa", sum := "d0f3391b007ea3926c097e47dfb6effaa929d72416371a65e622c72434b48772", func := "turret/turretlaw05.StrikeFound", spec := "strikeFound", unfollowed := true, recurses := true, plainKeys := false, apart := false }
def StrikeFoundSaid : Prop := strikeFoundRow.holds Try.pinned (OpenSpec.ofChange strikeFoundSpec)

/-- ITS FALSE NEIGHBOUR: 'it returns false'. Refute it at one input. -/
def strikeFoundWrong : ChangeSpec := { name := "strikeFound", fn := fun _ => fun
  | [d1, d2, d3] => { results := [.lit (.bool false)], args := [d1, d2, d3] }
  | _ => none }
def StrikeFoundWrongFalsely : Prop := strikeFoundRow.holds Try.pinned (OpenSpec.ofChange strikeFoundWrong)

/-- 'turretlaw05.StrikeBack': WHATEVER THE INPUT: true; the input reads as it did. -/
def strikeBackSpec : ChangeSpec := { name := "strikeBack", fn := fun _ => fun
  | [d1, d2, d3] => { results := [.lit (.bool true)], args := [d1, d2, d3] }
  | _ => none }
def strikeBackRow : OpenClaim := { program := "ytglgkcfgjaoabaa", sum := "d0f3391b007ea3926c097e47dfb6effaa929d72416371a65e622c72434b48772", func := "turret/turretlaw05.StrikeBack", spec := "strikeBack", unfollowed := true, recurses := true, plainKeys := false, apart := false }
def StrikeBackSaid : Prop := strikeBackRow.holds Try.pinned (OpenSpec.ofChange strikeBackSpec)

/-- ITS FALSE NEIGHBOUR: 'it returns false'. Refute it at one input. -/
def strikeBackWrong : ChangeSpec := { name := "strikeBack", fn := fun _ => fun
  | [d1, d2, d3] => { results := [.lit (.bool false)], args := [d1, d2, d3] }
  | _ => none }
def StrikeBackWrongFalsely : Prop := strikeBackRow.holds Try.pinned (OpenSpec.ofChange strikeBackWrong)

/-- 'turretlaw05.StrikeTimes': WHATEVER THE INPUT: true; the input reads as it did. -/
def strikeTimesSpec : ChangeSpec := { name := "strikeTimes", fn := fun _ => fun
  | [d1, d2] => { results := [.lit (.bool true)], args := [d1, d2] }
  | _ => none }
def strikeTimesRow : OpenClaim := { program := "ytglgkcfgjaoabaa", sum := "d0f3391b007ea3926c097e47dfb6effaa929d72416371a65e622c72434b48772", func := "turret/turretlaw05.StrikeTimes", spec := "strikeTimes", unfollowed := true, recurses := true, plainKeys := false, apart := false }
def StrikeTimesSaid : Prop := strikeTimesRow.holds Try.pinned (OpenSpec.ofChange strikeTimesSpec)

/-- ITS FALSE NEIGHBOUR: 'it returns false'. Refute it at one input. -/
def strikeTimesWrong : ChangeSpec := { name := "strikeTimes", fn := fun _ => fun
  | [d1, d2] => { results := [.lit (.bool false)], args := [d1, d2] }
  | _ => none }
def StrikeTimesWrongFalsely : Prop := strikeTimesRow.holds Try.pinned (OpenSpec.ofChange strikeTimesWrong)

/-- 'turretlaw05.StrikeDays': WHATEVER THE INPUT: true; the input reads as it did. -/
def strikeDaysSpec : ChangeSpec := { name := "strikeDays", fn := fun _ => fun
  | [d1, d2] => { results := [.lit (.bool true)], args := [d1, d2] }
  | _ => none }
def strikeDaysRow : OpenClaim := { program := "ytglgkcfgjaoabaa", sum := "d0f3391b007ea3926c097e47dfb6effaa929d72416371a65e622c72434b48772", func := "turret/turretlaw05.StrikeDays", spec := "strikeDays", unfollowed := true, recurses := true, plainKeys := false, apart := false }
def StrikeDaysSaid : Prop := strikeDaysRow.holds Try.pinned (OpenSpec.ofChange strikeDaysSpec)

/-- ITS FALSE NEIGHBOUR: 'it returns false'. Refute it at one input. -/
def strikeDaysWrong : ChangeSpec := { name := "strikeDays", fn := fun _ => fun
  | [d1, d2] => { results := [.lit (.bool false)], args := [d1, d2] }
  | _ => none }
def StrikeDaysWrongFalsely : Prop := strikeDaysRow.holds Try.pinned (OpenSpec.ofChange strikeDaysWrong)

/-- 'turretlaw05.StrikeRacks': WHATEVER THE INPUT: true; the input reads as it did. -/
def strikeRacksSpec : ChangeSpec := { name := "strikeRacks", fn := fun _ => fun
  | [d1, d2, d3] => { results := [.lit (.bool true)], args := [d1, d2, d3] }
  | _ => none }
def strikeRacksRow : OpenClaim := { program := "ytglgkcfgjaoabaa", sum := "d0f3391b007ea3926c097e47dfb6effaa929d72416371a65e622c72434b48772", func := "turret/turretlaw05.StrikeRacks", spec := "strikeRacks", unfollowed := true, recurses := true, plainKeys := false, apart := false }
def StrikeRacksSaid : Prop := strikeRacksRow.holds Try.pinned (OpenSpec.ofChange strikeRacksSpec)

/-- ITS FALSE NEIGHBOUR: 'it returns false'. Refute it at one input. -/
def strikeRacksWrong : ChangeSpec := { name := "strikeRacks", fn := fun _ => fun
  | [d1, d2, d3] => { results := [.lit (.bool false)], args := [d1, d2, d3] }
  | _ => none }
def StrikeRacksWrongFalsely : Prop := strikeRacksRow.holds Try.pinned (OpenSpec.ofChange strikeRacksWrong)

/- THE SECOND FORM. 'bulk': how many values and letters a reading holds, each counted each time it is reached (what is shared counts as often as it is met; a slice's spare places count too). A statement '..UptoSaid' is the law's where the arguments, and the package variables that the reading takes, are together of bulk at most 1048576: NARROWER than '..Said'. Prove '..Said' where nothing that the law and all that it calls make is longer than what came in: it says more and counts as full. Else prove '..UptoSaid'. A law counts once. -/
mutual
def uptoBulk {H : Type} : DataW H → Nat
  | .lit (.string bytes) => bytes.length + 1
  | .lit _ => 1
  | .nil => 1
  | .ptr d => uptoBulk d + 1
  | .slice elems spare => uptoBulkAll elems + uptoBulkAll spare + 1
  | .agg parts => uptoBulkAll parts + 1
  | .iface _ d => uptoBulk d + 1
  | .map entries => uptoBulkEntries entries + 1
  | .held _ => 1
def uptoBulkAll {H : Type} : List (DataW H) → Nat
  | [] => 0
  | d :: r => uptoBulk d + uptoBulkAll r
def uptoBulkEntries {H : Type} : List (Lit × DataW H) → Nat
  | [] => 0
  | x :: r => uptoBulkEntry x + uptoBulkEntries r
def uptoBulkEntry {H : Type} : Lit × DataW H → Nat
  | (.string bytes, d) => bytes.length + uptoBulk d + 1
  | (_, d) => uptoBulk d + 1
 end
def uptoSmall : (H : Type) → List (DataW H) → Bool := fun _ ds => decide (uptoBulkAll ds ≤ 1048576)
def OpenSpec.upto (s : _root_.Go.ChangeSpec) : _root_.Go.OpenSpec := { _root_.Go.OpenSpec.ofChange s with cond := some uptoSmall }

/-- 'turretlaw05.StrikeBlows', WHERE WHAT IT READS IS OF BULK AT MOST 1048576: true; the input reads as it did. -/
def strikeBlowsUptoRow : OpenClaim := { program := "ytglgkcfgjaoabaa", sum := "d0f3391b007ea3926c097e47dfb6effaa929d72416371a65e622c72434b48772", func := "turret/turretlaw05.StrikeBlows", spec := "strikeBlows", unfollowed := true, recurses := true, plainKeys := false, apart := false, narrowed := true }
def StrikeBlowsUptoSaid : Prop := strikeBlowsUptoRow.holds Try.pinned (OpenSpec.upto strikeBlowsSpec)

/-- 'turretlaw05.StrikeHears', WHERE WHAT IT READS IS OF BULK AT MOST 1048576: true; the input reads as it did. -/
def strikeHearsUptoRow : OpenClaim := { program := "ytglgkcfgjaoabaa", sum := "d0f3391b007ea3926c097e47dfb6effaa929d72416371a65e622c72434b48772", func := "turret/turretlaw05.StrikeHears", spec := "strikeHears", unfollowed := true, recurses := true, plainKeys := false, apart := false, narrowed := true }
def StrikeHearsUptoSaid : Prop := strikeHearsUptoRow.holds Try.pinned (OpenSpec.upto strikeHearsSpec)

/-- 'turretlaw05.StrikePlays', WHERE WHAT IT READS IS OF BULK AT MOST 1048576: true; the input reads as it did. -/
def strikePlaysUptoRow : OpenClaim := { program := "ytglgkcfgjaoabaa", sum := "d0f3391b007ea3926c097e47dfb6effaa929d72416371a65e622c72434b48772", func := "turret/turretlaw05.StrikePlays", spec := "strikePlays", unfollowed := true, recurses := true, plainKeys := false, apart := false, narrowed := true }
def StrikePlaysUptoSaid : Prop := strikePlaysUptoRow.holds Try.pinned (OpenSpec.upto strikePlaysSpec)

/-- 'turretlaw05.StrikeBrings', WHERE WHAT IT READS IS OF BULK AT MOST 1048576: true; the input reads as it did. -/
def strikeBringsUptoRow : OpenClaim := { program := "ytglgkcfgjaoabaa", sum := "d0f3391b007ea3926c097e47dfb6effaa929d72416371a65e622c72434b48772", func := "turret/turretlaw05.StrikeBrings", spec := "strikeBrings", unfollowed := true, recurses := true, plainKeys := false, apart := false, narrowed := true }
def StrikeBringsUptoSaid : Prop := strikeBringsUptoRow.holds Try.pinned (OpenSpec.upto strikeBringsSpec)

/-- 'turretlaw05.StrikeFound', WHERE WHAT IT READS IS OF BULK AT MOST 1048576: true; the input reads as it did. -/
def strikeFoundUptoRow : OpenClaim := { program := "ytglgkcfgjaoabaa", sum := "d0f3391b007ea3926c097e47dfb6effaa929d72416371a65e622c72434b48772", func := "turret/turretlaw05.StrikeFound", spec := "strikeFound", unfollowed := true, recurses := true, plainKeys := false, apart := false, narrowed := true }
def StrikeFoundUptoSaid : Prop := strikeFoundUptoRow.holds Try.pinned (OpenSpec.upto strikeFoundSpec)

/-- 'turretlaw05.StrikeBack', WHERE WHAT IT READS IS OF BULK AT MOST 1048576: true; the input reads as it did. -/
def strikeBackUptoRow : OpenClaim := { program := "ytglgkcfgjaoabaa", sum := "d0f3391b007ea3926c097e47dfb6effaa929d72416371a65e622c72434b48772", func := "turret/turretlaw05.StrikeBack", spec := "strikeBack", unfollowed := true, recurses := true, plainKeys := false, apart := false, narrowed := true }
def StrikeBackUptoSaid : Prop := strikeBackUptoRow.holds Try.pinned (OpenSpec.upto strikeBackSpec)

/-- 'turretlaw05.StrikeTimes', WHERE WHAT IT READS IS OF BULK AT MOST 1048576: true; the input reads as it did. -/
def strikeTimesUptoRow : OpenClaim := { program := "ytglgkcfgjaoabaa", sum := "d0f3391b007ea3926c097e47dfb6effaa929d72416371a65e622c72434b48772", func := "turret/turretlaw05.StrikeTimes", spec := "strikeTimes", unfollowed := true, recurses := true, plainKeys := false, apart := false, narrowed := true }
def StrikeTimesUptoSaid : Prop := strikeTimesUptoRow.holds Try.pinned (OpenSpec.upto strikeTimesSpec)

/-- 'turretlaw05.StrikeDays', WHERE WHAT IT READS IS OF BULK AT MOST 1048576: true; the input reads as it did. -/
def strikeDaysUptoRow : OpenClaim := { program := "ytglgkcfgjaoabaa", sum := "d0f3391b007ea3926c097e47dfb6effaa929d72416371a65e622c72434b48772", func := "turret/turretlaw05.StrikeDays", spec := "strikeDays", unfollowed := true, recurses := true, plainKeys := false, apart := false, narrowed := true }
def StrikeDaysUptoSaid : Prop := strikeDaysUptoRow.holds Try.pinned (OpenSpec.upto strikeDaysSpec)

/-- 'turretlaw05.StrikeRacks', WHERE WHAT IT READS IS OF BULK AT MOST 1048576: true; the input reads as it did. -/
def strikeRacksUptoRow : OpenClaim := { program := "ytglgkcfgjaoabaa", sum := "d0f3391b007ea3926c097e47dfb6effaa929d72416371a65e622c72434b48772", func := "turret/turretlaw05.StrikeRacks", spec := "strikeRacks", unfollowed := true, recurses := true, plainKeys := false, apart := false, narrowed := true }
def StrikeRacksUptoSaid : Prop := strikeRacksUptoRow.holds Try.pinned (OpenSpec.upto strikeRacksSpec)

end Rows
end Go.Proofs.Ytglgkcfgjaoabaa
