/-
  No cell of these rows narrows 'for every input' (looked for: loops, veiled, ifaces, maps, wideKeys, modest, calm, conditions, laid).
  DERIVED. THE GIVEN ROWS OF THIS SEAT. 10 by the template 'for every input the law returns true; each argument reads behind the call as it read before'; 0 by the template 'total and deterministic' (their statements: YtmgcinejodpopaaTotals.lean).
  GIVEN WITH THE SEED: the statements are not yours to turn. If you find one false, say at which input.
  Laid BY PROGRAM, IN A SANDBOX (cutbox-rows.mjs): the forced cells as the released guide's own fill.sh prints them over the translation 8210630a4affc98a… (all of the seat's roots in one cut). By AI agents, Wed Nov 11 2026. No macro, syntax, notation, axiom, sorry.
-/
import Derived.Test.YtmgcinejodpopaaChecked
import GoSem.Claim
import GoSem.ClaimJoined
import GoSem.ClaimMapViews
import Derived.JoinedTies
import Derived.KernelRfl
namespace Go.Proofs.Ytmgcinejodpopaa
/- THE CELL 'sum', in the pinned program and in every row, IS THE sha256 OF THE DUMP (.gsa) THAT YtmgcinejodpopaaProg.lean LOADS. Nothing in Lean hashes anything: it is a label: what it is worth is what the hold of that sum in a sandbox is worth. -/
noncomputable def Try.pinned : Pinned := { name := "ytmgcinejodpopaa", sum := "8210630a4affc98a5841d7fe6dc63e795aa253831a33f3ab1b819a62bc7cfbec", checked := Try.checked }
namespace Rows
def none {H : Type} : Left H := { results := [], args := [] }

/-- 'turrettop.TopDropBook': WHATEVER THE INPUT: true; the input reads as it did. -/
def topDropBookSpec : ChangeSpec := { name := "topDropBook", fn := fun _ => fun
  | [d1, d2] => { results := [.lit (.bool true)], args := [d1, d2] }
  | _ => none }
def topDropBookRow : OpenClaim := { program := "ytmgcinejodpopaa", sum := "8210630a4affc98a5841d7fe6dc63e795aa253831a33f3ab1b819a62bc7cfbec", func := "turret/turrettop.TopDropBook", spec := "topDropBook", unfollowed := true, recurses := true, plainKeys := false, apart := false }
def TopDropBookSaid : Prop := topDropBookRow.holds Try.pinned (OpenSpec.ofChange topDropBookSpec)

/-- ITS FALSE NEIGHBOUR: 'it returns false'. Refute it at one input. -/
def topDropBookWrong : ChangeSpec := { name := "topDropBook", fn := fun _ => fun
  | [d1, d2] => { results := [.lit (.bool false)], args := [d1, d2] }
  | _ => none }
def TopDropBookWrongFalsely : Prop := topDropBookRow.holds Try.pinned (OpenSpec.ofChange topDropBookWrong)

/-- 'turrettop.TopSparesBook': WHATEVER THE INPUT: true; the input reads as it did. -/
def topSparesBookSpec : ChangeSpec := { name := "topSparesBook", fn := fun _ => fun
  | [d1, d2, d3] => { results := [.lit (.bool true)], args := [d1, d2, d3] }
  | _ => none }
def topSparesBookRow : OpenClaim := { program := "ytmgcinejodpopaa", sum := "8210630a4affc98a5841d7fe6dc63e795aa253831a33f3ab1b819a62bc7cfbec", func := "turret/turrettop.TopSparesBook", spec := "topSparesBook", unfollowed := true, recurses := true, plainKeys := false, apart := false }
def TopSparesBookSaid : Prop := topSparesBookRow.holds Try.pinned (OpenSpec.ofChange topSparesBookSpec)

/-- ITS FALSE NEIGHBOUR: 'it returns false'. Refute it at one input. -/
def topSparesBookWrong : ChangeSpec := { name := "topSparesBook", fn := fun _ => fun
  | [d1, d2, d3] => { results := [.lit (.bool false)], args := [d1, d2, d3] }
  | _ => none }
def TopSparesBookWrongFalsely : Prop := topSparesBookRow.holds Try.pinned (OpenSpec.ofChange topSparesBookWrong)

/-- 'turrettop.TopPulseBook': WHATEVER THE INPUT: true; the input reads as it did. -/
def topPulseBookSpec : ChangeSpec := { name := "topPulseBook", fn := fun _ => fun
  | [d1, d2, d3] => { results := [.lit (.bool true)], args := [d1, d2, d3] }
  | _ => none }
def topPulseBookRow : OpenClaim := { program := "ytmgcinejodpopaa", sum := "8210630a4affc98a5841d7fe6dc63e795aa253831a33f3ab1b819a62bc7cfbec", func := "turret/turrettop.TopPulseBook", spec := "topPulseBook", unfollowed := true, recurses := true, plainKeys := false, apart := false }
def TopPulseBookSaid : Prop := topPulseBookRow.holds Try.pinned (OpenSpec.ofChange topPulseBookSpec)

/-- ITS FALSE NEIGHBOUR: 'it returns false'. Refute it at one input. -/
def topPulseBookWrong : ChangeSpec := { name := "topPulseBook", fn := fun _ => fun
  | [d1, d2, d3] => { results := [.lit (.bool false)], args := [d1, d2, d3] }
  | _ => none }
def TopPulseBookWrongFalsely : Prop := topPulseBookRow.holds Try.pinned (OpenSpec.ofChange topPulseBookWrong)

/-- 'turrettop.TopRoundWages': WHATEVER THE INPUT: true; the input reads as it did. -/
def topRoundWagesSpec : ChangeSpec := { name := "topRoundWages", fn := fun _ => fun
  | [d1, d2] => { results := [.lit (.bool true)], args := [d1, d2] }
  | _ => none }
def topRoundWagesRow : OpenClaim := { program := "ytmgcinejodpopaa", sum := "8210630a4affc98a5841d7fe6dc63e795aa253831a33f3ab1b819a62bc7cfbec", func := "turret/turrettop.TopRoundWages", spec := "topRoundWages", unfollowed := true, recurses := true, plainKeys := false, apart := false }
def TopRoundWagesSaid : Prop := topRoundWagesRow.holds Try.pinned (OpenSpec.ofChange topRoundWagesSpec)

/-- ITS FALSE NEIGHBOUR: 'it returns false'. Refute it at one input. -/
def topRoundWagesWrong : ChangeSpec := { name := "topRoundWages", fn := fun _ => fun
  | [d1, d2] => { results := [.lit (.bool false)], args := [d1, d2] }
  | _ => none }
def TopRoundWagesWrongFalsely : Prop := topRoundWagesRow.holds Try.pinned (OpenSpec.ofChange topRoundWagesWrong)

/-- 'turrettop.TopRateBook': WHATEVER THE INPUT: true; the input reads as it did. -/
def topRateBookSpec : ChangeSpec := { name := "topRateBook", fn := fun _ => fun
  | [d1, d2] => { results := [.lit (.bool true)], args := [d1, d2] }
  | _ => none }
def topRateBookRow : OpenClaim := { program := "ytmgcinejodpopaa", sum := "8210630a4affc98a5841d7fe6dc63e795aa253831a33f3ab1b819a62bc7cfbec", func := "turret/turrettop.TopRateBook", spec := "topRateBook", unfollowed := true, recurses := true, plainKeys := false, apart := false }
def TopRateBookSaid : Prop := topRateBookRow.holds Try.pinned (OpenSpec.ofChange topRateBookSpec)

/-- ITS FALSE NEIGHBOUR: 'it returns false'. Refute it at one input. -/
def topRateBookWrong : ChangeSpec := { name := "topRateBook", fn := fun _ => fun
  | [d1, d2] => { results := [.lit (.bool false)], args := [d1, d2] }
  | _ => none }
def TopRateBookWrongFalsely : Prop := topRateBookRow.holds Try.pinned (OpenSpec.ofChange topRateBookWrong)

/-- 'turrettop.TopBeatBook': WHATEVER THE INPUT: true; the input reads as it did. -/
def topBeatBookSpec : ChangeSpec := { name := "topBeatBook", fn := fun _ => fun
  | [d] => { results := [.lit (.bool true)], args := [d] }
  | _ => none }
def topBeatBookRow : OpenClaim := { program := "ytmgcinejodpopaa", sum := "8210630a4affc98a5841d7fe6dc63e795aa253831a33f3ab1b819a62bc7cfbec", func := "turret/turrettop.TopBeatBook", spec := "topBeatBook", unfollowed := true, recurses := true, plainKeys := false, apart := false }
def TopBeatBookSaid : Prop := topBeatBookRow.holds Try.pinned (OpenSpec.ofChange topBeatBookSpec)

/-- ITS FALSE NEIGHBOUR: 'it returns false'. Refute it at one input. -/
def topBeatBookWrong : ChangeSpec := { name := "topBeatBook", fn := fun _ => fun
  | [d] => { results := [.lit (.bool false)], args := [d] }
  | _ => none }
def TopBeatBookWrongFalsely : Prop := topBeatBookRow.holds Try.pinned (OpenSpec.ofChange topBeatBookWrong)

/-- 'turrettop.TopBookStrike': WHATEVER THE INPUT: true; the input reads as it did. -/
def topBookStrikeSpec : ChangeSpec := { name := "topBookStrike", fn := fun _ => fun
  | [d1, d2] => { results := [.lit (.bool true)], args := [d1, d2] }
  | _ => none }
def topBookStrikeRow : OpenClaim := { program := "ytmgcinejodpopaa", sum := "8210630a4affc98a5841d7fe6dc63e795aa253831a33f3ab1b819a62bc7cfbec", func := "turret/turrettop.TopBookStrike", spec := "topBookStrike", unfollowed := true, recurses := true, plainKeys := false, apart := false }
def TopBookStrikeSaid : Prop := topBookStrikeRow.holds Try.pinned (OpenSpec.ofChange topBookStrikeSpec)

/-- ITS FALSE NEIGHBOUR: 'it returns false'. Refute it at one input. -/
def topBookStrikeWrong : ChangeSpec := { name := "topBookStrike", fn := fun _ => fun
  | [d1, d2] => { results := [.lit (.bool false)], args := [d1, d2] }
  | _ => none }
def TopBookStrikeWrongFalsely : Prop := topBookStrikeRow.holds Try.pinned (OpenSpec.ofChange topBookStrikeWrong)

/-- 'turrettop.TopBookDial': WHATEVER THE INPUT: true; the input reads as it did. -/
def topBookDialSpec : ChangeSpec := { name := "topBookDial", fn := fun _ => fun
  | [d1, d2] => { results := [.lit (.bool true)], args := [d1, d2] }
  | _ => none }
def topBookDialRow : OpenClaim := { program := "ytmgcinejodpopaa", sum := "8210630a4affc98a5841d7fe6dc63e795aa253831a33f3ab1b819a62bc7cfbec", func := "turret/turrettop.TopBookDial", spec := "topBookDial", unfollowed := true, recurses := true, plainKeys := false, apart := false }
def TopBookDialSaid : Prop := topBookDialRow.holds Try.pinned (OpenSpec.ofChange topBookDialSpec)

/-- ITS FALSE NEIGHBOUR: 'it returns false'. Refute it at one input. -/
def topBookDialWrong : ChangeSpec := { name := "topBookDial", fn := fun _ => fun
  | [d1, d2] => { results := [.lit (.bool false)], args := [d1, d2] }
  | _ => none }
def TopBookDialWrongFalsely : Prop := topBookDialRow.holds Try.pinned (OpenSpec.ofChange topBookDialWrong)

/-- 'turrettop.TopRoundBook': WHATEVER THE INPUT: true; the input reads as it did. -/
def topRoundBookSpec : ChangeSpec := { name := "topRoundBook", fn := fun _ => fun
  | [d1, d2, d3] => { results := [.lit (.bool true)], args := [d1, d2, d3] }
  | _ => none }
def topRoundBookRow : OpenClaim := { program := "ytmgcinejodpopaa", sum := "8210630a4affc98a5841d7fe6dc63e795aa253831a33f3ab1b819a62bc7cfbec", func := "turret/turrettop.TopRoundBook", spec := "topRoundBook", unfollowed := true, recurses := true, plainKeys := false, apart := false }
def TopRoundBookSaid : Prop := topRoundBookRow.holds Try.pinned (OpenSpec.ofChange topRoundBookSpec)

/-- ITS FALSE NEIGHBOUR: 'it returns false'. Refute it at one input. -/
def topRoundBookWrong : ChangeSpec := { name := "topRoundBook", fn := fun _ => fun
  | [d1, d2, d3] => { results := [.lit (.bool false)], args := [d1, d2, d3] }
  | _ => none }
def TopRoundBookWrongFalsely : Prop := topRoundBookRow.holds Try.pinned (OpenSpec.ofChange topRoundBookWrong)

/-- 'turrettop.TopZoneBook': WHATEVER THE INPUT: true; the input reads as it did. -/
def topZoneBookSpec : ChangeSpec := { name := "topZoneBook", fn := fun _ => fun
  | [d1, d2, d3] => { results := [.lit (.bool true)], args := [d1, d2, d3] }
  | _ => none }
def topZoneBookRow : OpenClaim := { program := "ytmgcinejodpopaa", sum := "8210630a4affc98a5841d7fe6dc63e795aa253831a33f3ab1b819a62bc7cfbec", func := "turret/turrettop.TopZoneBook", spec := "topZoneBook", unfollowed := true, recurses := true, plainKeys := false, apart := false }
def TopZoneBookSaid : Prop := topZoneBookRow.holds Try.pinned (OpenSpec.ofChange topZoneBookSpec)

/-- ITS FALSE NEIGHBOUR: 'it returns false'. Refute it at one input. -/
def topZoneBookWrong : ChangeSpec := { name := "topZoneBook", fn := fun _ => fun
  | [d1, d2, d3] => { results := [.lit (.bool false)], args := [d1, d2, d3] }
  | _ => none }
def TopZoneBookWrongFalsely : Prop := topZoneBookRow.holds Try.pinned (OpenSpec.ofChange topZoneBookWrong)

/- THE SECOND FORM. 'bulk': how many values and letters a reading holds, each counted each time it is reached (what is shared counts as often as it is met; a slice's spare places count too). A statement '..UptoSaid' is the law's where the arguments, and the package variables that the reading takes, are together of bulk at most 1048576: NARROWER than '..Said'. Prove '..Said' where nothing that the law and all that it calls make is longer than what came in: it says more and counts as full. Else prove '..UptoSaid'. A law counts once. -/
mutual
def uptoBulk {H : Type} : DataW H → Nat
  | .lit (.string bytes) => bytes.length + 1
  | .lit _ => 1
  | .nil => 1
  | .ptr d => uptoBulk d + 1
  | .slice elems spare => uptoBulkAll elems + uptoBulkAll spare + 1
  | .agg parts => uptoBulkAll parts + 1
  | .iface _ d => uptoBulk d + 1
  | .map entries => uptoBulkEntries entries + 1
  | .held _ => 1
def uptoBulkAll {H : Type} : List (DataW H) → Nat
  | [] => 0
  | d :: r => uptoBulk d + uptoBulkAll r
def uptoBulkEntries {H : Type} : List (Lit × DataW H) → Nat
  | [] => 0
  | x :: r => uptoBulkEntry x + uptoBulkEntries r
def uptoBulkEntry {H : Type} : Lit × DataW H → Nat
  | (.string bytes, d) => bytes.length + uptoBulk d + 1
  | (_, d) => uptoBulk d + 1
 end
def uptoSmall : (H : Type) → List (DataW H) → Bool := fun _ ds => decide (uptoBulkAll ds ≤ 1048576)
def OpenSpec.upto (s : _root_.Go.ChangeSpec) : _root_.Go.OpenSpec := { _root_.Go.OpenSpec.ofChange s with cond := some uptoSmall }

/-- 'turrettop.TopDropBook', WHERE WHAT IT READS IS OF BULK AT MOST 1048576: true; the input reads as it did. -/
def topDropBookUptoRow : OpenClaim := { program := "ytmgcinejodpopaa", sum := "8210630a4affc98a5841d7fe6dc63e795aa253831a33f3ab1b819a62bc7cfbec", func := "turret/turrettop.TopDropBook", spec := "topDropBook", unfollowed := true, recurses := true, plainKeys := false, apart := false, narrowed := true }
def TopDropBookUptoSaid : Prop := topDropBookUptoRow.holds Try.pinned (OpenSpec.upto topDropBookSpec)

/-- 'turrettop.TopSparesBook', WHERE WHAT IT READS IS OF BULK AT MOST 1048576: true; the input reads as it did. -/
def topSparesBookUptoRow : OpenClaim := { program := "ytmgcinejodpopaa", sum := "8210630a4affc98a5841d7fe6dc63e795aa253831a33f3ab1b819a62bc7cfbec", func := "turret/turrettop.TopSparesBook", spec := "topSparesBook", unfollowed := true, recurses := true, plainKeys := false, apart := false, narrowed := true }
def TopSparesBookUptoSaid : Prop := topSparesBookUptoRow.holds Try.pinned (OpenSpec.upto topSparesBookSpec)

/-- 'turrettop.TopPulseBook', WHERE WHAT IT READS IS OF BULK AT MOST 1048576: true; the input reads as it did. -/
def topPulseBookUptoRow : OpenClaim := { program := "ytmgcinejodpopaa", sum := "8210630a4affc98a5841d7fe6dc63e795aa253831a33f3ab1b819a62bc7cfbec", func := "turret/turrettop.TopPulseBook", spec := "topPulseBook", unfollowed := true, recurses := true, plainKeys := false, apart := false, narrowed := true }
def TopPulseBookUptoSaid : Prop := topPulseBookUptoRow.holds Try.pinned (OpenSpec.upto topPulseBookSpec)

/-- 'turrettop.TopRoundWages', WHERE WHAT IT READS IS OF BULK AT MOST 1048576: true; the input reads as it did. -/
def topRoundWagesUptoRow : OpenClaim := { program := "ytmgcinejodpopaa", sum := "8210630a4affc98a5841d7fe6dc63e795aa253831a33f3ab1b819a62bc7cfbec", func := "turret/turrettop.TopRoundWages", spec := "topRoundWages", unfollowed := true, recurses := true, plainKeys := false, apart := false, narrowed := true }
def TopRoundWagesUptoSaid : Prop := topRoundWagesUptoRow.holds Try.pinned (OpenSpec.upto topRoundWagesSpec)

/-- 'turrettop.TopRateBook', WHERE WHAT IT READS IS OF BULK AT MOST 1048576: true; the input reads as it did. -/
def topRateBookUptoRow : OpenClaim := { program := "ytmgcinejodpopaa", sum := "8210630a4affc98a5841d7fe6dc63e795aa253831a33f3ab1b819a62bc7cfbec", func := "turret/turrettop.TopRateBook", spec := "topRateBook", unfollowed := true, recurses := true, plainKeys := false, apart := false, narrowed := true }
def TopRateBookUptoSaid : Prop := topRateBookUptoRow.holds Try.pinned (OpenSpec.upto topRateBookSpec)

/-- 'turrettop.TopBeatBook', WHERE WHAT IT READS IS OF BULK AT MOST 1048576: true; the input reads as it did. -/
def topBeatBookUptoRow : OpenClaim := { program := "ytmgcinejodpopaa", sum := "8210630a4affc98a5841d7fe6dc63e795aa253831a33f3ab1b819a62bc7cfbec", func := "turret/turrettop.TopBeatBook", spec := "topBeatBook", unfollowed := true, recurses := true, plainKeys := false, apart := false, narrowed := true }
def TopBeatBookUptoSaid : Prop := topBeatBookUptoRow.holds Try.pinned (OpenSpec.upto topBeatBookSpec)

/-- 'turrettop.TopBookStrike', WHERE WHAT IT READS IS OF BULK AT MOST 1048576: true; the input reads as it did. -/
def topBookStrikeUptoRow : OpenClaim := { program := "ytmgcinejodpopaa", sum := "8210630a4affc98a5841d7fe6dc63e795aa253831a33f3ab1b819a62bc7cfbec", func := "turret/turrettop.TopBookStrike", spec := "topBookStrike", unfollowed := true, recurses := true, plainKeys := false, apart := false, narrowed := true }
def TopBookStrikeUptoSaid : Prop := topBookStrikeUptoRow.holds Try.pinned (OpenSpec.upto topBookStrikeSpec)

/-- 'turrettop.TopBookDial', WHERE WHAT IT READS IS OF BULK AT MOST 1048576: true; the input reads as it did. -/
def topBookDialUptoRow : OpenClaim := { program := "ytmgcinejodpopaa", sum := "8210630a4affc98a5841d7fe6dc63e795aa253831a33f3ab1b819a62bc7cfbec", func := "turret/turrettop.TopBookDial", spec := "topBookDial", unfollowed := true, recurses := true, plainKeys := false, apart := false, narrowed := true }
def TopBookDialUptoSaid : Prop := topBookDialUptoRow.holds Try.pinned (OpenSpec.upto topBookDialSpec)

/-- 'turrettop.TopRoundBook', WHERE WHAT IT READS IS OF BULK AT MOST 1048576: true; the input reads as it did. -/
def topRoundBookUptoRow : OpenClaim := { program := "ytmgcinejodpopaa", sum := "8210630a4affc98a5841d7fe6dc63e795aa253831a33f3ab1b819a62bc7cfbec", func := "turret/turrettop.TopRoundBook", spec := "topRoundBook", unfollowed := true, recurses := true, plainKeys := false, apart := false, narrowed := true }
def TopRoundBookUptoSaid : Prop := topRoundBookUptoRow.holds Try.pinned (OpenSpec.upto topRoundBookSpec)

/-- 'turrettop.TopZoneBook', WHERE WHAT IT READS IS OF BULK AT MOST 1048576: true; the input reads as it did. -/
def topZoneBookUptoRow : OpenClaim := { program := "ytmgcinejodpopaa", sum := "8210630a4affc98a5841d7fe6dc63e795aa253831a33f3ab1b819a62bc7cfbec", func := "turret/turrettop.TopZoneBook", spec := "topZoneBook", unfollowed := true, recurses := true, plainKeys := false, apart := false, narrowed := true }
def TopZoneBookUptoSaid : Prop := topZoneBookUptoRow.holds Try.pinned (OpenSpec.upto topZoneBookSpec)

end Rows
end Go.Proofs.Ytmgcinejodpopaa
