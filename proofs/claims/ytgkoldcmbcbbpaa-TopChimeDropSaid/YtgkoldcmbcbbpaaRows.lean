/-
  No cell of these rows narrows 'for every input' (looked for: loops, veiled, ifaces, maps, wideKeys, modest, calm, conditions, laid).
  DERIVED. THE GIVEN ROWS OF THIS SEAT. 12 by the template 'for every input the law returns true; each argument reads behind the call as it read before'; 0 by the template 'total and deterministic' (their statements: YtgkoldcmbcbbpaaTotals.lean).
  GIVEN WITH THE SEED: the statements are not yours to turn. If you find one false, say at which input.
  Laid BY PROGRAM, IN A SANDBOX (cutbox-rows.mjs): the forced cells as the released guide's own fill.sh prints them over the translation 818a09b8dd545dda… (all of the seat's roots in one cut). By AI agents, Wed Nov 11 2026. No macro, syntax, notation, axiom, sorry.
-/
import Derived.Test.YtgkoldcmbcbbpaaChecked
import GoSem.Claim
import GoSem.ClaimJoined
import GoSem.ClaimMapViews
import Derived.JoinedTies
import Derived.KernelRfl
namespace Go.Proofs.Ytgkoldcmbcbbpaa
/- THE CELL 'sum', in the pinned program and in every row, IS THE sha256 OF THE DUMP (.gsa) THAT YtgkoldcmbcbbpaaProg.lean LOADS. Nothing in Lean hashes anything: it is a label: what it is worth is what the hold of that sum in a sandbox is worth. -/
noncomputable def Try.pinned : Pinned := { name := "ytgkoldcmbcbbpaa", sum := "818a09b8dd545dda6fb4706a09910ad49e40e987f9bf6e3e89fc02ae9264d025", checked := Try.checked }
namespace Rows
def none {H : Type} : Left H := { results := [], args := [] }

/-- 'turrettop.TopTrainDrop': WHATEVER THE INPUT: true; the input reads as it did. -/
def topTrainDropSpec : ChangeSpec := { name := "topTrainDrop", fn := fun _ => fun
  | [d1, d2, d3] => { results := [.lit (.bool true)], args := [d1, d2, d3] }
  | _ => none }
def topTrainDropRow : OpenClaim := { program := "ytgkoldcmbcbbpaa", sum := "818a09b8dd545dda6fb4706a09910ad49e40e987f9bf6e3e89fc02ae9264d025", func := "turret/turrettop.TopTrainDrop", spec := "topTrainDrop", unfollowed := true, recurses := true, plainKeys := false, apart := false }
def TopTrainDropSaid : Prop := topTrainDropRow.holds Try.pinned (OpenSpec.ofChange topTrainDropSpec)

/-- ITS FALSE NEIGHBOUR: 'it returns false'. Refute it at one input. -/
def topTrainDropWrong : ChangeSpec := { name := "topTrainDrop", fn := fun _ => fun
  | [d1, d2, d3] => { results := [.lit (.bool false)], args := [d1, d2, d3] }
  | _ => none }
def TopTrainDropWrongFalsely : Prop := topTrainDropRow.holds Try.pinned (OpenSpec.ofChange topTrainDropWrong)

/-- 'turrettop.TopStrikeDrop': WHATEVER THE INPUT: true; the input reads as it did. -/
def topStrikeDropSpec : ChangeSpec := { name := "topStrikeDrop", fn := fun _ => fun
  | [d1, d2, d3] => { results := [.lit (.bool true)], args := [d1, d2, d3] }
  | _ => none }
def topStrikeDropRow : OpenClaim := { program := "ytgkoldcmbcbbpaa", sum := "818a09b8dd545dda6fb4706a09910ad49e40e987f9bf6e3e89fc02ae9264d025", func := "turret/turrettop.TopStrikeDrop", spec := "topStrikeDrop", unfollowed := true, recurses := true, plainKeys := false, apart := false }
def TopStrikeDropSaid : Prop := topStrikeDropRow.holds Try.pinned (OpenSpec.ofChange topStrikeDropSpec)

/-- ITS FALSE NEIGHBOUR: 'it returns false'. Refute it at one input. -/
def topStrikeDropWrong : ChangeSpec := { name := "topStrikeDrop", fn := fun _ => fun
  | [d1, d2, d3] => { results := [.lit (.bool false)], args := [d1, d2, d3] }
  | _ => none }
def TopStrikeDropWrongFalsely : Prop := topStrikeDropRow.holds Try.pinned (OpenSpec.ofChange topStrikeDropWrong)

/-- 'turrettop.TopCamTeeth': WHATEVER THE INPUT: true; the input reads as it did. -/
def topCamTeethSpec : ChangeSpec := { name := "topCamTeeth", fn := fun _ => fun
  | [d1, d2] => { results := [.lit (.bool true)], args := [d1, d2] }
  | _ => none }
def topCamTeethRow : OpenClaim := { program := "ytgkoldcmbcbbpaa", sum := "818a09b8dd545dda6fb4706a09910ad49e40e987f9bf6e3e89fc02ae9264d025", func := "turret/turrettop.TopCamTeeth", spec := "topCamTeeth", unfollowed := true, recurses := true, plainKeys := false, apart := false }
def TopCamTeethSaid : Prop := topCamTeethRow.holds Try.pinned (OpenSpec.ofChange topCamTeethSpec)

/-- ITS FALSE NEIGHBOUR: 'it returns false'. Refute it at one input. -/
def topCamTeethWrong : ChangeSpec := { name := "topCamTeeth", fn := fun _ => fun
  | [d1, d2] => { results := [.lit (.bool false)], args := [d1, d2] }
  | _ => none }
def TopCamTeethWrongFalsely : Prop := topCamTeethRow.holds Try.pinned (OpenSpec.ofChange topCamTeethWrong)

/-- 'turrettop.TopStrikeTrain': WHATEVER THE INPUT: true; the input reads as it did. -/
def topStrikeTrainSpec : ChangeSpec := { name := "topStrikeTrain", fn := fun _ => fun
  | [d1, d2, d3] => { results := [.lit (.bool true)], args := [d1, d2, d3] }
  | _ => none }
def topStrikeTrainRow : OpenClaim := { program := "ytgkoldcmbcbbpaa", sum := "818a09b8dd545dda6fb4706a09910ad49e40e987f9bf6e3e89fc02ae9264d025", func := "turret/turrettop.TopStrikeTrain", spec := "topStrikeTrain", unfollowed := true, recurses := true, plainKeys := false, apart := false }
def TopStrikeTrainSaid : Prop := topStrikeTrainRow.holds Try.pinned (OpenSpec.ofChange topStrikeTrainSpec)

/-- ITS FALSE NEIGHBOUR: 'it returns false'. Refute it at one input. -/
def topStrikeTrainWrong : ChangeSpec := { name := "topStrikeTrain", fn := fun _ => fun
  | [d1, d2, d3] => { results := [.lit (.bool false)], args := [d1, d2, d3] }
  | _ => none }
def TopStrikeTrainWrongFalsely : Prop := topStrikeTrainRow.holds Try.pinned (OpenSpec.ofChange topStrikeTrainWrong)

/-- 'turrettop.TopBeatRate': WHATEVER THE INPUT: true; the input reads as it did. -/
def topBeatRateSpec : ChangeSpec := { name := "topBeatRate", fn := fun _ => fun
  | [d1, d2, d3] => { results := [.lit (.bool true)], args := [d1, d2, d3] }
  | _ => none }
def topBeatRateRow : OpenClaim := { program := "ytgkoldcmbcbbpaa", sum := "818a09b8dd545dda6fb4706a09910ad49e40e987f9bf6e3e89fc02ae9264d025", func := "turret/turrettop.TopBeatRate", spec := "topBeatRate", unfollowed := true, recurses := true, plainKeys := false, apart := false }
def TopBeatRateSaid : Prop := topBeatRateRow.holds Try.pinned (OpenSpec.ofChange topBeatRateSpec)

/-- ITS FALSE NEIGHBOUR: 'it returns false'. Refute it at one input. -/
def topBeatRateWrong : ChangeSpec := { name := "topBeatRate", fn := fun _ => fun
  | [d1, d2, d3] => { results := [.lit (.bool false)], args := [d1, d2, d3] }
  | _ => none }
def TopBeatRateWrongFalsely : Prop := topBeatRateRow.holds Try.pinned (OpenSpec.ofChange topBeatRateWrong)

/-- 'turrettop.TopDropDial': WHATEVER THE INPUT: true; the input reads as it did. -/
def topDropDialSpec : ChangeSpec := { name := "topDropDial", fn := fun _ => fun
  | [d1, d2, d3] => { results := [.lit (.bool true)], args := [d1, d2, d3] }
  | _ => none }
def topDropDialRow : OpenClaim := { program := "ytgkoldcmbcbbpaa", sum := "818a09b8dd545dda6fb4706a09910ad49e40e987f9bf6e3e89fc02ae9264d025", func := "turret/turrettop.TopDropDial", spec := "topDropDial", unfollowed := true, recurses := true, plainKeys := false, apart := false }
def TopDropDialSaid : Prop := topDropDialRow.holds Try.pinned (OpenSpec.ofChange topDropDialSpec)

/-- ITS FALSE NEIGHBOUR: 'it returns false'. Refute it at one input. -/
def topDropDialWrong : ChangeSpec := { name := "topDropDial", fn := fun _ => fun
  | [d1, d2, d3] => { results := [.lit (.bool false)], args := [d1, d2, d3] }
  | _ => none }
def TopDropDialWrongFalsely : Prop := topDropDialRow.holds Try.pinned (OpenSpec.ofChange topDropDialWrong)

/-- 'turrettop.TopRodParts': WHATEVER THE INPUT: true; the input reads as it did. -/
def topRodPartsSpec : ChangeSpec := { name := "topRodParts", fn := fun _ => fun
  | [d1, d2, d3] => { results := [.lit (.bool true)], args := [d1, d2, d3] }
  | _ => none }
def topRodPartsRow : OpenClaim := { program := "ytgkoldcmbcbbpaa", sum := "818a09b8dd545dda6fb4706a09910ad49e40e987f9bf6e3e89fc02ae9264d025", func := "turret/turrettop.TopRodParts", spec := "topRodParts", unfollowed := true, recurses := true, plainKeys := false, apart := false }
def TopRodPartsSaid : Prop := topRodPartsRow.holds Try.pinned (OpenSpec.ofChange topRodPartsSpec)

/-- ITS FALSE NEIGHBOUR: 'it returns false'. Refute it at one input. -/
def topRodPartsWrong : ChangeSpec := { name := "topRodParts", fn := fun _ => fun
  | [d1, d2, d3] => { results := [.lit (.bool false)], args := [d1, d2, d3] }
  | _ => none }
def TopRodPartsWrongFalsely : Prop := topRodPartsRow.holds Try.pinned (OpenSpec.ofChange topRodPartsWrong)

/-- 'turrettop.TopChimeDrop': WHATEVER THE INPUT: true; the input reads as it did. -/
def topChimeDropSpec : ChangeSpec := { name := "topChimeDrop", fn := fun _ => fun
  | [d1, d2, d3] => { results := [.lit (.bool true)], args := [d1, d2, d3] }
  | _ => none }
def topChimeDropRow : OpenClaim := { program := "ytgkoldcmbcbbpaa", sum := "818a09b8dd545dda6fb4706a09910ad49e40e987f9bf6e3e89fc02ae9264d025", func := "turret/turrettop.TopChimeDrop", spec := "topChimeDrop", unfollowed := true, recurses := true, plainKeys := false, apart := false }
def TopChimeDropSaid : Prop := topChimeDropRow.holds Try.pinned (OpenSpec.ofChange topChimeDropSpec)

/-- ITS FALSE NEIGHBOUR: 'it returns false'. Refute it at one input. -/
def topChimeDropWrong : ChangeSpec := { name := "topChimeDrop", fn := fun _ => fun
  | [d1, d2, d3] => { results := [.lit (.bool false)], args := [d1, d2, d3] }
  | _ => none }
def TopChimeDropWrongFalsely : Prop := topChimeDropRow.holds Try.pinned (OpenSpec.ofChange topChimeDropWrong)

/-- 'turrettop.TopPulseDial': WHATEVER THE INPUT: true; the input reads as it did. -/
def topPulseDialSpec : ChangeSpec := { name := "topPulseDial", fn := fun _ => fun
  | [d1, d2, d3] => { results := [.lit (.bool true)], args := [d1, d2, d3] }
  | _ => none }
def topPulseDialRow : OpenClaim := { program := "ytgkoldcmbcbbpaa", sum := "818a09b8dd545dda6fb4706a09910ad49e40e987f9bf6e3e89fc02ae9264d025", func := "turret/turrettop.TopPulseDial", spec := "topPulseDial", unfollowed := true, recurses := true, plainKeys := false, apart := false }
def TopPulseDialSaid : Prop := topPulseDialRow.holds Try.pinned (OpenSpec.ofChange topPulseDialSpec)

/-- ITS FALSE NEIGHBOUR: 'it returns false'. Refute it at one input. -/
def topPulseDialWrong : ChangeSpec := { name := "topPulseDial", fn := fun _ => fun
  | [d1, d2, d3] => { results := [.lit (.bool false)], args := [d1, d2, d3] }
  | _ => none }
def TopPulseDialWrongFalsely : Prop := topPulseDialRow.holds Try.pinned (OpenSpec.ofChange topPulseDialWrong)

/-- 'turrettop.TopPulseStrike': WHATEVER THE INPUT: true; the input reads as it did. -/
def topPulseStrikeSpec : ChangeSpec := { name := "topPulseStrike", fn := fun _ => fun
  | [d1, d2] => { results := [.lit (.bool true)], args := [d1, d2] }
  | _ => none }
def topPulseStrikeRow : OpenClaim := { program := "ytgkoldcmbcbbpaa", sum := "818a09b8dd545dda6fb4706a09910ad49e40e987f9bf6e3e89fc02ae9264d025", func := "turret/turrettop.TopPulseStrike", spec := "topPulseStrike", unfollowed := true, recurses := true, plainKeys := false, apart := false }
def TopPulseStrikeSaid : Prop := topPulseStrikeRow.holds Try.pinned (OpenSpec.ofChange topPulseStrikeSpec)

/-- ITS FALSE NEIGHBOUR: 'it returns false'. Refute it at one input. -/
def topPulseStrikeWrong : ChangeSpec := { name := "topPulseStrike", fn := fun _ => fun
  | [d1, d2] => { results := [.lit (.bool false)], args := [d1, d2] }
  | _ => none }
def TopPulseStrikeWrongFalsely : Prop := topPulseStrikeRow.holds Try.pinned (OpenSpec.ofChange topPulseStrikeWrong)

/-- 'turrettop.TopZonePulse': WHATEVER THE INPUT: true; the input reads as it did. -/
def topZonePulseSpec : ChangeSpec := { name := "topZonePulse", fn := fun _ => fun
  | [d1, d2, d3] => { results := [.lit (.bool true)], args := [d1, d2, d3] }
  | _ => none }
def topZonePulseRow : OpenClaim := { program := "ytgkoldcmbcbbpaa", sum := "818a09b8dd545dda6fb4706a09910ad49e40e987f9bf6e3e89fc02ae9264d025", func := "turret/turrettop.TopZonePulse", spec := "topZonePulse", unfollowed := true, recurses := true, plainKeys := false, apart := false }
def TopZonePulseSaid : Prop := topZonePulseRow.holds Try.pinned (OpenSpec.ofChange topZonePulseSpec)

/-- ITS FALSE NEIGHBOUR: 'it returns false'. Refute it at one input. -/
def topZonePulseWrong : ChangeSpec := { name := "topZonePulse", fn := fun _ => fun
  | [d1, d2, d3] => { results := [.lit (.bool false)], args := [d1, d2, d3] }
  | _ => none }
def TopZonePulseWrongFalsely : Prop := topZonePulseRow.holds Try.pinned (OpenSpec.ofChange topZonePulseWrong)

/-- 'turrettop.TopStrikeZone': WHATEVER THE INPUT: true; the input reads as it did. -/
def topStrikeZoneSpec : ChangeSpec := { name := "topStrikeZone", fn := fun _ => fun
  | [d1, d2, d3] => { results := [.lit (.bool true)], args := [d1, d2, d3] }
  | _ => none }
def topStrikeZoneRow : OpenClaim := { program := "ytgkoldcmbcbbpaa", sum := "818a09b8dd545dda6fb4706a09910ad49e40e987f9bf6e3e89fc02ae9264d025", func := "turret/turrettop.TopStrikeZone", spec := "topStrikeZone", unfollowed := true, recurses := true, plainKeys := false, apart := false }
def TopStrikeZoneSaid : Prop := topStrikeZoneRow.holds Try.pinned (OpenSpec.ofChange topStrikeZoneSpec)

/-- ITS FALSE NEIGHBOUR: 'it returns false'. Refute it at one input. -/
def topStrikeZoneWrong : ChangeSpec := { name := "topStrikeZone", fn := fun _ => fun
  | [d1, d2, d3] => { results := [.lit (.bool false)], args := [d1, d2, d3] }
  | _ => none }
def TopStrikeZoneWrongFalsely : Prop := topStrikeZoneRow.holds Try.pinned (OpenSpec.ofChange topStrikeZoneWrong)

/- THE SECOND FORM. 'bulk': how many values and letters a reading holds, each counted each time it is reached (what is shared counts as often as it is met; a slice's spare places count too). A statement '..UptoSaid' is the law's where the arguments, and the package variables that the reading takes, are together of bulk at most 1048576: NARROWER than '..Said'. Prove '..Said' where nothing that the law and all that it calls make is longer than what came in: it says more and counts as full. Else prove '..UptoSaid'. A law counts once. -/
mutual
def uptoBulk {H : Type} : DataW H → Nat
  | .lit (.string bytes) => bytes.length + 1
  | .lit _ => 1
  | .nil => 1
  | .ptr d => uptoBulk d + 1
  | .slice elems spare => uptoBulkAll elems + uptoBulkAll spare + 1
  | .agg parts => uptoBulkAll parts + 1
  | .iface _ d => uptoBulk d + 1
  | .map entries => uptoBulkEntries entries + 1
  | .held _ => 1
def uptoBulkAll {H : Type} : List (DataW H) → Nat
  | [] => 0
  | d :: r => uptoBulk d + uptoBulkAll r
def uptoBulkEntries {H : Type} : List (Lit × DataW H) → Nat
  | [] => 0
  | x :: r => uptoBulkEntry x + uptoBulkEntries r
def uptoBulkEntry {H : Type} : Lit × DataW H → Nat
  | (.string bytes, d) => bytes.length + uptoBulk d + 1
  | (_, d) => uptoBulk d + 1
 end
def uptoSmall : (H : Type) → List (DataW H) → Bool := fun _ ds => decide (uptoBulkAll ds ≤ 1048576)
def OpenSpec.upto (s : _root_.Go.ChangeSpec) : _root_.Go.OpenSpec := { _root_.Go.OpenSpec.ofChange s with cond := some uptoSmall }

/-- 'turrettop.TopTrainDrop', WHERE WHAT IT READS IS OF BULK AT MOST 1048576: true; the input reads as it did. -/
def topTrainDropUptoRow : OpenClaim := { program := "ytgkoldcmbcbbpaa", sum := "818a09b8dd545dda6fb4706a09910ad49e40e987f9bf6e3e89fc02ae9264d025", func := "turret/turrettop.TopTrainDrop", spec := "topTrainDrop", unfollowed := true, recurses := true, plainKeys := false, apart := false, narrowed := true }
def TopTrainDropUptoSaid : Prop := topTrainDropUptoRow.holds Try.pinned (OpenSpec.upto topTrainDropSpec)

/-- 'turrettop.TopStrikeDrop', WHERE WHAT IT READS IS OF BULK AT MOST 1048576: true; the input reads as it did. -/
def topStrikeDropUptoRow : OpenClaim := { program := "ytgkoldcmbcbbpaa", sum := "818a09b8dd545dda6fb4706a09910ad49e40e987f9bf6e3e89fc02ae9264d025", func := "turret/turrettop.TopStrikeDrop", spec := "topStrikeDrop", unfollowed := true, recurses := true, plainKeys := false, apart := false, narrowed := true }
def TopStrikeDropUptoSaid : Prop := topStrikeDropUptoRow.holds Try.pinned (OpenSpec.upto topStrikeDropSpec)

/-- 'turrettop.TopCamTeeth', WHERE WHAT IT READS IS OF BULK AT MOST 1048576: true; the input reads as it did. -/
def topCamTeethUptoRow : OpenClaim := { program := "ytgkoldcmbcbbpaa", sum := "818a09b8dd545dda6fb4706a09910ad49e40e987f9bf6e3e89fc02ae9264d025", func := "turret/turrettop.TopCamTeeth", spec := "topCamTeeth", unfollowed := true, recurses := true, plainKeys := false, apart := false, narrowed := true }
def TopCamTeethUptoSaid : Prop := topCamTeethUptoRow.holds Try.pinned (OpenSpec.upto topCamTeethSpec)

/-- 'turrettop.TopStrikeTrain', WHERE WHAT IT READS IS OF BULK AT MOST 1048576: true; the input reads as it did. -/
def topStrikeTrainUptoRow : OpenClaim := { program := "ytgkoldcmbcbbpaa", sum := "818a09b8dd545dda6fb4706a09910ad49e40e987f9bf6e3e89fc02ae9264d025", func := "turret/turrettop.TopStrikeTrain", spec := "topStrikeTrain", unfollowed := true, recurses := true, plainKeys := false, apart := false, narrowed := true }
def TopStrikeTrainUptoSaid : Prop := topStrikeTrainUptoRow.holds Try.pinned (OpenSpec.upto topStrikeTrainSpec)

/-- 'turrettop.TopBeatRate', WHERE WHAT IT READS IS OF BULK AT MOST 1048576: true; the input reads as it did. -/
def topBeatRateUptoRow : OpenClaim := { program := "ytgkoldcmbcbbpaa", sum := "818a09b8dd545dda6fb4706a09910ad49e40e987f9bf6e3e89fc02ae9264d025", func := "turret/turrettop.TopBeatRate", spec := "topBeatRate", unfollowed := true, recurses := true, plainKeys := false, apart := false, narrowed := true }
def TopBeatRateUptoSaid : Prop := topBeatRateUptoRow.holds Try.pinned (OpenSpec.upto topBeatRateSpec)

/-- 'turrettop.TopDropDial', WHERE WHAT IT READS IS OF BULK AT MOST 1048576: true; the input reads as it did. -/
def topDropDialUptoRow : OpenClaim := { program := "ytgkoldcmbcbbpaa", sum := "818a09b8dd545dda6fb4706a09910ad49e40e987f9bf6e3e89fc02ae9264d025", func := "turret/turrettop.TopDropDial", spec := "topDropDial", unfollowed := true, recurses := true, plainKeys := false, apart := false, narrowed := true }
def TopDropDialUptoSaid : Prop := topDropDialUptoRow.holds Try.pinned (OpenSpec.upto topDropDialSpec)

/-- 'turrettop.TopRodParts', WHERE WHAT IT READS IS OF BULK AT MOST 1048576: true; the input reads as it did. -/
def topRodPartsUptoRow : OpenClaim := { program := "ytgkoldcmbcbbpaa", sum := "818a09b8dd545dda6fb4706a09910ad49e40e987f9bf6e3e89fc02ae9264d025", func := "turret/turrettop.TopRodParts", spec := "topRodParts", unfollowed := true, recurses := true, plainKeys := false, apart := false, narrowed := true }
def TopRodPartsUptoSaid : Prop := topRodPartsUptoRow.holds Try.pinned (OpenSpec.upto topRodPartsSpec)

/-- 'turrettop.TopChimeDrop', WHERE WHAT IT READS IS OF BULK AT MOST 1048576: true; the input reads as it did. -/
def topChimeDropUptoRow : OpenClaim := { program := "ytgkoldcmbcbbpaa", sum := "818a09b8dd545dda6fb4706a09910ad49e40e987f9bf6e3e89fc02ae9264d025", func := "turret/turrettop.TopChimeDrop", spec := "topChimeDrop", unfollowed := true, recurses := true, plainKeys := false, apart := false, narrowed := true }
def TopChimeDropUptoSaid : Prop := topChimeDropUptoRow.holds Try.pinned (OpenSpec.upto topChimeDropSpec)

/-- 'turrettop.TopPulseDial', WHERE WHAT IT READS IS OF BULK AT MOST 1048576: true; the input reads as it did. -/
def topPulseDialUptoRow : OpenClaim := { program := "ytgkoldcmbcbbpaa", sum := "818a09b8dd545dda6fb4706a09910ad49e40e987f9bf6e3e89fc02ae9264d025", func := "turret/turrettop.TopPulseDial", spec := "topPulseDial", unfollowed := true, recurses := true, plainKeys := false, apart := false, narrowed := true }
def TopPulseDialUptoSaid : Prop := topPulseDialUptoRow.holds Try.pinned (OpenSpec.upto topPulseDialSpec)

/-- 'turrettop.TopPulseStrike', WHERE WHAT IT READS IS OF BULK AT MOST 1048576: true; the input reads as it did. -/
def topPulseStrikeUptoRow : OpenClaim := { program := "ytgkoldcmbcbbpaa", sum := "818a09b8dd545dda6fb4706a09910ad49e40e987f9bf6e3e89fc02ae9264d025", func := "turret/turrettop.TopPulseStrike", spec := "topPulseStrike", unfollowed := true, recurses := true, plainKeys := false, apart := false, narrowed := true }
def TopPulseStrikeUptoSaid : Prop := topPulseStrikeUptoRow.holds Try.pinned (OpenSpec.upto topPulseStrikeSpec)

/-- 'turrettop.TopZonePulse', WHERE WHAT IT READS IS OF BULK AT MOST 1048576: true; the input reads as it did. -/
def topZonePulseUptoRow : OpenClaim := { program := "ytgkoldcmbcbbpaa", sum := "818a09b8dd545dda6fb4706a09910ad49e40e987f9bf6e3e89fc02ae9264d025", func := "turret/turrettop.TopZonePulse", spec := "topZonePulse", unfollowed := true, recurses := true, plainKeys := false, apart := false, narrowed := true }
def TopZonePulseUptoSaid : Prop := topZonePulseUptoRow.holds Try.pinned (OpenSpec.upto topZonePulseSpec)

/-- 'turrettop.TopStrikeZone', WHERE WHAT IT READS IS OF BULK AT MOST 1048576: true; the input reads as it did. -/
def topStrikeZoneUptoRow : OpenClaim := { program := "ytgkoldcmbcbbpaa", sum := "818a09b8dd545dda6fb4706a09910ad49e40e987f9bf6e3e89fc02ae9264d025", func := "turret/turrettop.TopStrikeZone", spec := "topStrikeZone", unfollowed := true, recurses := true, plainKeys := false, apart := false, narrowed := true }
def TopStrikeZoneUptoSaid : Prop := topStrikeZoneUptoRow.holds Try.pinned (OpenSpec.upto topStrikeZoneSpec)

end Rows
end Go.Proofs.Ytgkoldcmbcbbpaa
