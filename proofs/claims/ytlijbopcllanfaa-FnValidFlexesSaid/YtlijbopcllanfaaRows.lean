/-
  No cell of these rows narrows 'for every input' (looked for: loops, veiled, ifaces, maps, wideKeys, modest, calm, conditions, laid).
  DERIVED. THE GIVEN ROWS OF THIS SEAT. 12 by the template 'for every input the law returns true; each argument reads behind the call as it read before'; 0 by the template 'total and deterministic' (their statements: YtlijbopcllanfaaTotals.lean).
  GIVEN WITH THE SEED: the statements are not yours to turn. If you find one false, say at which input.
  Laid BY PROGRAM, IN A SANDBOX (cutbox-rows.mjs): the forced cells as the released guide's own fill.sh prints them over the translation cc1ffd403b784129… (all of the seat's roots in one cut). By AI agents, Wed Nov 11 2026. No macro, syntax, notation, axiom, sorry.
-/
import Derived.Test.YtlijbopcllanfaaChecked
import GoSem.Claim
import GoSem.ClaimJoined
import GoSem.ClaimMapViews
import Derived.JoinedTies
import Derived.KernelRfl
namespace Go.Proofs.Ytlijbopcllanfaa
/- THE CELL 'sum', in the pinned program and in every row, IS THE sha256 OF THE DUMP (.gsa) THAT YtlijbopcllanfaaProg.lean LOADS. Nothing in Lean hashes anything: it is a label: what it is worth is what the hold of that sum in a sandbox is worth. -/
noncomputable def Try.pinned : Pinned := { name := "ytlijbopcllanfaa", sum := "cc1ffd403b784129ba931a7e75d02447ddf0cf4c8ac070b0efa0d86a57e25784", checked := Try.checked }
namespace Rows
def none {H : Type} : Left H := { results := [], args := [] }

/-- 'laws.FnValidFlexes': WHATEVER THE INPUT: true; the input reads as it did. -/
def fnValidFlexesSpec : ChangeSpec := { name := "fnValidFlexes", fn := fun _ => fun
  | [d] => { results := [.lit (.bool true)], args := [d] }
  | _ => none }
def fnValidFlexesRow : OpenClaim := { program := "ytlijbopcllanfaa", sum := "cc1ffd403b784129ba931a7e75d02447ddf0cf4c8ac070b0efa0d86a57e25784", func := "loop.example/flexlayout/laws.FnValidFlexes", spec := "fnValidFlexes", unfollowed := true, recurses := true, apart := false }
def FnValidFlexesSaid : Prop := fnValidFlexesRow.holds Try.pinned (OpenSpec.ofChange fnValidFlexesSpec)

/-- ITS FALSE NEIGHBOUR: 'it returns false'. Refute it at one input. -/
def fnValidFlexesWrong : ChangeSpec := { name := "fnValidFlexes", fn := fun _ => fun
  | [d] => { results := [.lit (.bool false)], args := [d] }
  | _ => none }
def FnValidFlexesWrongFalsely : Prop := fnValidFlexesRow.holds Try.pinned (OpenSpec.ofChange fnValidFlexesWrong)

/-- 'laws.FnExactValidFlexes': WHATEVER THE INPUT: true; the input reads as it did. -/
def fnExactValidFlexesSpec : ChangeSpec := { name := "fnExactValidFlexes", fn := fun _ => fun
  | [d] => { results := [.lit (.bool true)], args := [d] }
  | _ => none }
def fnExactValidFlexesRow : OpenClaim := { program := "ytlijbopcllanfaa", sum := "cc1ffd403b784129ba931a7e75d02447ddf0cf4c8ac070b0efa0d86a57e25784", func := "loop.example/flexlayout/laws.FnExactValidFlexes", spec := "fnExactValidFlexes", unfollowed := true, recurses := true, apart := false }
def FnExactValidFlexesSaid : Prop := fnExactValidFlexesRow.holds Try.pinned (OpenSpec.ofChange fnExactValidFlexesSpec)

/-- ITS FALSE NEIGHBOUR: 'it returns false'. Refute it at one input. -/
def fnExactValidFlexesWrong : ChangeSpec := { name := "fnExactValidFlexes", fn := fun _ => fun
  | [d] => { results := [.lit (.bool false)], args := [d] }
  | _ => none }
def FnExactValidFlexesWrongFalsely : Prop := fnExactValidFlexesRow.holds Try.pinned (OpenSpec.ofChange fnExactValidFlexesWrong)

/-- 'laws.FnExactShareSpace': WHATEVER THE INPUT: true; the input reads as it did. -/
def fnExactShareSpaceSpec : ChangeSpec := { name := "fnExactShareSpace", fn := fun _ => fun
  | [d1, d2] => { results := [.lit (.bool true)], args := [d1, d2] }
  | _ => none }
def fnExactShareSpaceRow : OpenClaim := { program := "ytlijbopcllanfaa", sum := "cc1ffd403b784129ba931a7e75d02447ddf0cf4c8ac070b0efa0d86a57e25784", func := "loop.example/flexlayout/laws.FnExactShareSpace", spec := "fnExactShareSpace", unfollowed := true, recurses := true, apart := false }
def FnExactShareSpaceSaid : Prop := fnExactShareSpaceRow.holds Try.pinned (OpenSpec.ofChange fnExactShareSpaceSpec)

/-- ITS FALSE NEIGHBOUR: 'it returns false'. Refute it at one input. -/
def fnExactShareSpaceWrong : ChangeSpec := { name := "fnExactShareSpace", fn := fun _ => fun
  | [d1, d2] => { results := [.lit (.bool false)], args := [d1, d2] }
  | _ => none }
def FnExactShareSpaceWrongFalsely : Prop := fnExactShareSpaceRow.holds Try.pinned (OpenSpec.ofChange fnExactShareSpaceWrong)

/-- 'laws.FnShareSpaceNone': WHATEVER THE INPUT: true; the input reads as it did. -/
def fnShareSpaceNoneSpec : ChangeSpec := { name := "fnShareSpaceNone", fn := fun _ => fun
  | [d] => { results := [.lit (.bool true)], args := [d] }
  | _ => none }
def fnShareSpaceNoneRow : OpenClaim := { program := "ytlijbopcllanfaa", sum := "cc1ffd403b784129ba931a7e75d02447ddf0cf4c8ac070b0efa0d86a57e25784", func := "loop.example/flexlayout/laws.FnShareSpaceNone", spec := "fnShareSpaceNone", unfollowed := true, recurses := true, apart := false }
def FnShareSpaceNoneSaid : Prop := fnShareSpaceNoneRow.holds Try.pinned (OpenSpec.ofChange fnShareSpaceNoneSpec)

/-- ITS FALSE NEIGHBOUR: 'it returns false'. Refute it at one input. -/
def fnShareSpaceNoneWrong : ChangeSpec := { name := "fnShareSpaceNone", fn := fun _ => fun
  | [d] => { results := [.lit (.bool false)], args := [d] }
  | _ => none }
def FnShareSpaceNoneWrongFalsely : Prop := fnShareSpaceNoneRow.holds Try.pinned (OpenSpec.ofChange fnShareSpaceNoneWrong)

/-- 'laws.FnShareSpaceScale': WHATEVER THE INPUT: true; the input reads as it did. -/
def fnShareSpaceScaleSpec : ChangeSpec := { name := "fnShareSpaceScale", fn := fun _ => fun
  | [d] => { results := [.lit (.bool true)], args := [d] }
  | _ => none }
def fnShareSpaceScaleRow : OpenClaim := { program := "ytlijbopcllanfaa", sum := "cc1ffd403b784129ba931a7e75d02447ddf0cf4c8ac070b0efa0d86a57e25784", func := "loop.example/flexlayout/laws.FnShareSpaceScale", spec := "fnShareSpaceScale", unfollowed := true, recurses := true, apart := false }
def FnShareSpaceScaleSaid : Prop := fnShareSpaceScaleRow.holds Try.pinned (OpenSpec.ofChange fnShareSpaceScaleSpec)

/-- ITS FALSE NEIGHBOUR: 'it returns false'. Refute it at one input. -/
def fnShareSpaceScaleWrong : ChangeSpec := { name := "fnShareSpaceScale", fn := fun _ => fun
  | [d] => { results := [.lit (.bool false)], args := [d] }
  | _ => none }
def FnShareSpaceScaleWrongFalsely : Prop := fnShareSpaceScaleRow.holds Try.pinned (OpenSpec.ofChange fnShareSpaceScaleWrong)

/-- 'laws.FnShareSpace': WHATEVER THE INPUT: true; the input reads as it did. -/
def fnShareSpaceSpec : ChangeSpec := { name := "fnShareSpace", fn := fun _ => fun
  | [d] => { results := [.lit (.bool true)], args := [d] }
  | _ => none }
def fnShareSpaceRow : OpenClaim := { program := "ytlijbopcllanfaa", sum := "cc1ffd403b784129ba931a7e75d02447ddf0cf4c8ac070b0efa0d86a57e25784", func := "loop.example/flexlayout/laws.FnShareSpace", spec := "fnShareSpace", unfollowed := true, recurses := true, apart := false }
def FnShareSpaceSaid : Prop := fnShareSpaceRow.holds Try.pinned (OpenSpec.ofChange fnShareSpaceSpec)

/-- ITS FALSE NEIGHBOUR: 'it returns false'. Refute it at one input. -/
def fnShareSpaceWrong : ChangeSpec := { name := "fnShareSpace", fn := fun _ => fun
  | [d] => { results := [.lit (.bool false)], args := [d] }
  | _ => none }
def FnShareSpaceWrongFalsely : Prop := fnShareSpaceRow.holds Try.pinned (OpenSpec.ofChange fnShareSpaceWrong)

/-- 'laws.FnShareSpaceEven': WHATEVER THE INPUT: true; the input reads as it did. -/
def fnShareSpaceEvenSpec : ChangeSpec := { name := "fnShareSpaceEven", fn := fun _ => fun
  | [d] => { results := [.lit (.bool true)], args := [d] }
  | _ => none }
def fnShareSpaceEvenRow : OpenClaim := { program := "ytlijbopcllanfaa", sum := "cc1ffd403b784129ba931a7e75d02447ddf0cf4c8ac070b0efa0d86a57e25784", func := "loop.example/flexlayout/laws.FnShareSpaceEven", spec := "fnShareSpaceEven", unfollowed := true, recurses := true, apart := false }
def FnShareSpaceEvenSaid : Prop := fnShareSpaceEvenRow.holds Try.pinned (OpenSpec.ofChange fnShareSpaceEvenSpec)

/-- ITS FALSE NEIGHBOUR: 'it returns false'. Refute it at one input. -/
def fnShareSpaceEvenWrong : ChangeSpec := { name := "fnShareSpaceEven", fn := fun _ => fun
  | [d] => { results := [.lit (.bool false)], args := [d] }
  | _ => none }
def FnShareSpaceEvenWrongFalsely : Prop := fnShareSpaceEvenRow.holds Try.pinned (OpenSpec.ofChange fnShareSpaceEvenWrong)

/-- 'laws.FnExactOffsetsOf': WHATEVER THE INPUT: true; the input reads as it did. -/
def fnExactOffsetsOfSpec : ChangeSpec := { name := "fnExactOffsetsOf", fn := fun _ => fun
  | [d1, d2, d3, d4] => { results := [.lit (.bool true)], args := [d1, d2, d3, d4] }
  | _ => none }
def fnExactOffsetsOfRow : OpenClaim := { program := "ytlijbopcllanfaa", sum := "cc1ffd403b784129ba931a7e75d02447ddf0cf4c8ac070b0efa0d86a57e25784", func := "loop.example/flexlayout/laws.FnExactOffsetsOf", spec := "fnExactOffsetsOf", unfollowed := true, recurses := true, apart := false }
def FnExactOffsetsOfSaid : Prop := fnExactOffsetsOfRow.holds Try.pinned (OpenSpec.ofChange fnExactOffsetsOfSpec)

/-- ITS FALSE NEIGHBOUR: 'it returns false'. Refute it at one input. -/
def fnExactOffsetsOfWrong : ChangeSpec := { name := "fnExactOffsetsOf", fn := fun _ => fun
  | [d1, d2, d3, d4] => { results := [.lit (.bool false)], args := [d1, d2, d3, d4] }
  | _ => none }
def FnExactOffsetsOfWrongFalsely : Prop := fnExactOffsetsOfRow.holds Try.pinned (OpenSpec.ofChange fnExactOffsetsOfWrong)

/-- 'laws.FnOffsetsOf': WHATEVER THE INPUT: true; the input reads as it did. -/
def fnOffsetsOfSpec : ChangeSpec := { name := "fnOffsetsOf", fn := fun _ => fun
  | [d] => { results := [.lit (.bool true)], args := [d] }
  | _ => none }
def fnOffsetsOfRow : OpenClaim := { program := "ytlijbopcllanfaa", sum := "cc1ffd403b784129ba931a7e75d02447ddf0cf4c8ac070b0efa0d86a57e25784", func := "loop.example/flexlayout/laws.FnOffsetsOf", spec := "fnOffsetsOf", unfollowed := true, recurses := true, apart := false }
def FnOffsetsOfSaid : Prop := fnOffsetsOfRow.holds Try.pinned (OpenSpec.ofChange fnOffsetsOfSpec)

/-- ITS FALSE NEIGHBOUR: 'it returns false'. Refute it at one input. -/
def fnOffsetsOfWrong : ChangeSpec := { name := "fnOffsetsOf", fn := fun _ => fun
  | [d] => { results := [.lit (.bool false)], args := [d] }
  | _ => none }
def FnOffsetsOfWrongFalsely : Prop := fnOffsetsOfRow.holds Try.pinned (OpenSpec.ofChange fnOffsetsOfWrong)

/-- 'laws.FnOffsetsOfGap': WHATEVER THE INPUT: true; the input reads as it did. -/
def fnOffsetsOfGapSpec : ChangeSpec := { name := "fnOffsetsOfGap", fn := fun _ => fun
  | [d] => { results := [.lit (.bool true)], args := [d] }
  | _ => none }
def fnOffsetsOfGapRow : OpenClaim := { program := "ytlijbopcllanfaa", sum := "cc1ffd403b784129ba931a7e75d02447ddf0cf4c8ac070b0efa0d86a57e25784", func := "loop.example/flexlayout/laws.FnOffsetsOfGap", spec := "fnOffsetsOfGap", unfollowed := true, recurses := true, apart := false }
def FnOffsetsOfGapSaid : Prop := fnOffsetsOfGapRow.holds Try.pinned (OpenSpec.ofChange fnOffsetsOfGapSpec)

/-- ITS FALSE NEIGHBOUR: 'it returns false'. Refute it at one input. -/
def fnOffsetsOfGapWrong : ChangeSpec := { name := "fnOffsetsOfGap", fn := fun _ => fun
  | [d] => { results := [.lit (.bool false)], args := [d] }
  | _ => none }
def FnOffsetsOfGapWrongFalsely : Prop := fnOffsetsOfGapRow.holds Try.pinned (OpenSpec.ofChange fnOffsetsOfGapWrong)

/-- 'laws.FnOffsetsOfEnd': WHATEVER THE INPUT: true; the input reads as it did. -/
def fnOffsetsOfEndSpec : ChangeSpec := { name := "fnOffsetsOfEnd", fn := fun _ => fun
  | [d] => { results := [.lit (.bool true)], args := [d] }
  | _ => none }
def fnOffsetsOfEndRow : OpenClaim := { program := "ytlijbopcllanfaa", sum := "cc1ffd403b784129ba931a7e75d02447ddf0cf4c8ac070b0efa0d86a57e25784", func := "loop.example/flexlayout/laws.FnOffsetsOfEnd", spec := "fnOffsetsOfEnd", unfollowed := true, recurses := true, apart := false }
def FnOffsetsOfEndSaid : Prop := fnOffsetsOfEndRow.holds Try.pinned (OpenSpec.ofChange fnOffsetsOfEndSpec)

/-- ITS FALSE NEIGHBOUR: 'it returns false'. Refute it at one input. -/
def fnOffsetsOfEndWrong : ChangeSpec := { name := "fnOffsetsOfEnd", fn := fun _ => fun
  | [d] => { results := [.lit (.bool false)], args := [d] }
  | _ => none }
def FnOffsetsOfEndWrongFalsely : Prop := fnOffsetsOfEndRow.holds Try.pinned (OpenSpec.ofChange fnOffsetsOfEndWrong)

/-- 'laws.FnOffsetsOfFull': WHATEVER THE INPUT: true; the input reads as it did. -/
def fnOffsetsOfFullSpec : ChangeSpec := { name := "fnOffsetsOfFull", fn := fun _ => fun
  | [d] => { results := [.lit (.bool true)], args := [d] }
  | _ => none }
def fnOffsetsOfFullRow : OpenClaim := { program := "ytlijbopcllanfaa", sum := "cc1ffd403b784129ba931a7e75d02447ddf0cf4c8ac070b0efa0d86a57e25784", func := "loop.example/flexlayout/laws.FnOffsetsOfFull", spec := "fnOffsetsOfFull", unfollowed := true, recurses := true, apart := false }
def FnOffsetsOfFullSaid : Prop := fnOffsetsOfFullRow.holds Try.pinned (OpenSpec.ofChange fnOffsetsOfFullSpec)

/-- ITS FALSE NEIGHBOUR: 'it returns false'. Refute it at one input. -/
def fnOffsetsOfFullWrong : ChangeSpec := { name := "fnOffsetsOfFull", fn := fun _ => fun
  | [d] => { results := [.lit (.bool false)], args := [d] }
  | _ => none }
def FnOffsetsOfFullWrongFalsely : Prop := fnOffsetsOfFullRow.holds Try.pinned (OpenSpec.ofChange fnOffsetsOfFullWrong)

/- THE SECOND FORM. 'bulk': how many values and letters a reading holds, each counted each time it is reached (what is shared counts as often as it is met; a slice's spare places count too). A statement '..UptoSaid' is the law's where the arguments, and the package variables that the reading takes, are together of bulk at most 1048576: NARROWER than '..Said'. Prove '..Said' where nothing that the law and all that it calls make is longer than what came in: it says more and counts as full. Else prove '..UptoSaid'. A law counts once. -/
mutual
def uptoBulk {H : Type} : DataW H → Nat
  | .lit (.string bytes) => bytes.length + 1
  | .lit _ => 1
  | .nil => 1
  | .ptr d => uptoBulk d + 1
  | .slice elems spare => uptoBulkAll elems + uptoBulkAll spare + 1
  | .agg parts => uptoBulkAll parts + 1
  | .iface _ d => uptoBulk d + 1
  | .map entries => uptoBulkEntries entries + 1
  | .held _ => 1
def uptoBulkAll {H : Type} : List (DataW H) → Nat
  | [] => 0
  | d :: r => uptoBulk d + uptoBulkAll r
def uptoBulkEntries {H : Type} : List (Lit × DataW H) → Nat
  | [] => 0
  | x :: r => uptoBulkEntry x + uptoBulkEntries r
def uptoBulkEntry {H : Type} : Lit × DataW H → Nat
  | (.string bytes, d) => bytes.length + uptoBulk d + 1
  | (_, d) => uptoBulk d + 1
 end
def uptoSmall : (H : Type) → List (DataW H) → Bool := fun _ ds => decide (uptoBulkAll ds ≤ 1048576)
def OpenSpec.upto (s : _root_.Go.ChangeSpec) : _root_.Go.OpenSpec := { _root_.Go.OpenSpec.ofChange s with cond := some uptoSmall }

/-- 'laws.FnValidFlexes', WHERE WHAT IT READS IS OF BULK AT MOST 1048576: true; the input reads as it did. -/
def fnValidFlexesUptoRow : OpenClaim := { program := "ytlijbopcllanfaa", sum := "cc1ffd403b784129ba931a7e75d02447ddf0cf4c8ac070b0efa0d86a57e25784", func := "loop.example/flexlayout/laws.FnValidFlexes", spec := "fnValidFlexes", unfollowed := true, recurses := true, apart := false, narrowed := true }
def FnValidFlexesUptoSaid : Prop := fnValidFlexesUptoRow.holds Try.pinned (OpenSpec.upto fnValidFlexesSpec)

/-- 'laws.FnExactValidFlexes', WHERE WHAT IT READS IS OF BULK AT MOST 1048576: true; the input reads as it did. -/
def fnExactValidFlexesUptoRow : OpenClaim := { program := "ytlijbopcllanfaa", sum := "cc1ffd403b784129ba931a7e75d02447ddf0cf4c8ac070b0efa0d86a57e25784", func := "loop.example/flexlayout/laws.FnExactValidFlexes", spec := "fnExactValidFlexes", unfollowed := true, recurses := true, apart := false, narrowed := true }
def FnExactValidFlexesUptoSaid : Prop := fnExactValidFlexesUptoRow.holds Try.pinned (OpenSpec.upto fnExactValidFlexesSpec)

/-- 'laws.FnExactShareSpace', WHERE WHAT IT READS IS OF BULK AT MOST 1048576: true; the input reads as it did. -/
def fnExactShareSpaceUptoRow : OpenClaim := { program := "ytlijbopcllanfaa", sum := "cc1ffd403b784129ba931a7e75d02447ddf0cf4c8ac070b0efa0d86a57e25784", func := "loop.example/flexlayout/laws.FnExactShareSpace", spec := "fnExactShareSpace", unfollowed := true, recurses := true, apart := false, narrowed := true }
def FnExactShareSpaceUptoSaid : Prop := fnExactShareSpaceUptoRow.holds Try.pinned (OpenSpec.upto fnExactShareSpaceSpec)

/-- 'laws.FnShareSpaceNone', WHERE WHAT IT READS IS OF BULK AT MOST 1048576: true; the input reads as it did. -/
def fnShareSpaceNoneUptoRow : OpenClaim := { program := "ytlijbopcllanfaa", sum := "cc1ffd403b784129ba931a7e75d02447ddf0cf4c8ac070b0efa0d86a57e25784", func := "loop.example/flexlayout/laws.FnShareSpaceNone", spec := "fnShareSpaceNone", unfollowed := true, recurses := true, apart := false, narrowed := true }
def FnShareSpaceNoneUptoSaid : Prop := fnShareSpaceNoneUptoRow.holds Try.pinned (OpenSpec.upto fnShareSpaceNoneSpec)

/-- 'laws.FnShareSpaceScale', WHERE WHAT IT READS IS OF BULK AT MOST 1048576: true; the input reads as it did. -/
def fnShareSpaceScaleUptoRow : OpenClaim := { program := "ytlijbopcllanfaa", sum := "cc1ffd403b784129ba931a7e75d02447ddf0cf4c8ac070b0efa0d86a57e25784", func := "loop.example/flexlayout/laws.FnShareSpaceScale", spec := "fnShareSpaceScale", unfollowed := true, recurses := true, apart := false, narrowed := true }
def FnShareSpaceScaleUptoSaid : Prop := fnShareSpaceScaleUptoRow.holds Try.pinned (OpenSpec.upto fnShareSpaceScaleSpec)

/-- 'laws.FnShareSpace', WHERE WHAT IT READS IS OF BULK AT MOST 1048576: true; the input reads as it did. -/
def fnShareSpaceUptoRow : OpenClaim := { program := "ytlijbopcllanfaa", sum := "cc1ffd403b784129ba931a7e75d02447ddf0cf4c8ac070b0efa0d86a57e25784", func := "loop.example/flexlayout/laws.FnShareSpace", spec := "fnShareSpace", unfollowed := true, recurses := true, apart := false, narrowed := true }
def FnShareSpaceUptoSaid : Prop := fnShareSpaceUptoRow.holds Try.pinned (OpenSpec.upto fnShareSpaceSpec)

/-- 'laws.FnShareSpaceEven', WHERE WHAT IT READS IS OF BULK AT MOST 1048576: true; the input reads as it did. -/
def fnShareSpaceEvenUptoRow : OpenClaim := { program := "ytlijbopcllanfaa", sum := "cc1ffd403b784129ba931a7e75d02447ddf0cf4c8ac070b0efa0d86a57e25784", func := "loop.example/flexlayout/laws.FnShareSpaceEven", spec := "fnShareSpaceEven", unfollowed := true, recurses := true, apart := false, narrowed := true }
def FnShareSpaceEvenUptoSaid : Prop := fnShareSpaceEvenUptoRow.holds Try.pinned (OpenSpec.upto fnShareSpaceEvenSpec)

/-- 'laws.FnExactOffsetsOf', WHERE WHAT IT READS IS OF BULK AT MOST 1048576: true; the input reads as it did. -/
def fnExactOffsetsOfUptoRow : OpenClaim := { program := "ytlijbopcllanfaa", sum := "cc1ffd403b784129ba931a7e75d02447ddf0cf4c8ac070b0efa0d86a57e25784", func := "loop.example/flexlayout/laws.FnExactOffsetsOf", spec := "fnExactOffsetsOf", unfollowed := true, recurses := true, apart := false, narrowed := true }
def FnExactOffsetsOfUptoSaid : Prop := fnExactOffsetsOfUptoRow.holds Try.pinned (OpenSpec.upto fnExactOffsetsOfSpec)

/-- 'laws.FnOffsetsOf', WHERE WHAT IT READS IS OF BULK AT MOST 1048576: true; the input reads as it did. -/
def fnOffsetsOfUptoRow : OpenClaim := { program := "ytlijbopcllanfaa", sum := "cc1ffd403b784129ba931a7e75d02447ddf0cf4c8ac070b0efa0d86a57e25784", func := "loop.example/flexlayout/laws.FnOffsetsOf", spec := "fnOffsetsOf", unfollowed := true, recurses := true, apart := false, narrowed := true }
def FnOffsetsOfUptoSaid : Prop := fnOffsetsOfUptoRow.holds Try.pinned (OpenSpec.upto fnOffsetsOfSpec)

/-- 'laws.FnOffsetsOfGap', WHERE WHAT IT READS IS OF BULK AT MOST 1048576: true; the input reads as it did. -/
def fnOffsetsOfGapUptoRow : OpenClaim := { program := "ytlijbopcllanfaa", sum := "cc1ffd403b784129ba931a7e75d02447ddf0cf4c8ac070b0efa0d86a57e25784", func := "loop.example/flexlayout/laws.FnOffsetsOfGap", spec := "fnOffsetsOfGap", unfollowed := true, recurses := true, apart := false, narrowed := true }
def FnOffsetsOfGapUptoSaid : Prop := fnOffsetsOfGapUptoRow.holds Try.pinned (OpenSpec.upto fnOffsetsOfGapSpec)

/-- 'laws.FnOffsetsOfEnd', WHERE WHAT IT READS IS OF BULK AT MOST 1048576: true; the input reads as it did. -/
def fnOffsetsOfEndUptoRow : OpenClaim := { program := "ytlijbopcllanfaa", sum := "cc1ffd403b784129ba931a7e75d02447ddf0cf4c8ac070b0efa0d86a57e25784", func := "loop.example/flexlayout/laws.FnOffsetsOfEnd", spec := "fnOffsetsOfEnd", unfollowed := true, recurses := true, apart := false, narrowed := true }
def FnOffsetsOfEndUptoSaid : Prop := fnOffsetsOfEndUptoRow.holds Try.pinned (OpenSpec.upto fnOffsetsOfEndSpec)

/-- 'laws.FnOffsetsOfFull', WHERE WHAT IT READS IS OF BULK AT MOST 1048576: true; the input reads as it did. -/
def fnOffsetsOfFullUptoRow : OpenClaim := { program := "ytlijbopcllanfaa", sum := "cc1ffd403b784129ba931a7e75d02447ddf0cf4c8ac070b0efa0d86a57e25784", func := "loop.example/flexlayout/laws.FnOffsetsOfFull", spec := "fnOffsetsOfFull", unfollowed := true, recurses := true, apart := false, narrowed := true }
def FnOffsetsOfFullUptoSaid : Prop := fnOffsetsOfFullUptoRow.holds Try.pinned (OpenSpec.upto fnOffsetsOfFullSpec)

end Rows
end Go.Proofs.Ytlijbopcllanfaa
