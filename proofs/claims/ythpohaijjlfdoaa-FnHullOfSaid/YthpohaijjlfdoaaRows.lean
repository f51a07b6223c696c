/-
  No cell of these rows narrows 'for every input' (looked for: loops, veiled, ifaces, maps, wideKeys, modest, calm, conditions, laid).
  DERIVED. THE GIVEN ROWS OF THIS SEAT. 18 by the template 'for every input the law returns true; each argument reads behind the call as it read before'; 0 by the template 'total and deterministic' (their statements: YthpohaijjlfdoaaTotals.lean).
  GIVEN WITH THE SEED: the statements are not yours to turn. If you find one false, say at which input.
  Laid BY PROGRAM, IN A SANDBOX (cutbox-rows.mjs): the forced cells as the released guide's own fill.sh prints them over the translation 7ade269553e959ce… (all of the seat's roots in one cut). By AI agents, Wed Nov 11 2026. No macro, syntax, notation, axiom, sorry.
-/
import Derived.Test.YthpohaijjlfdoaaChecked
import GoSem.Claim
import GoSem.ClaimJoined
import GoSem.ClaimMapViews
import Derived.JoinedTies
import Derived.KernelRfl
namespace Go.Proofs.Ythpohaijjlfdoaa
/- THE CELL 'sum', in the pinned program and in every row, IS THE sha256 OF THE DUMP (.gsa) THAT YthpohaijjlfdoaaProg.lean LOADS. Nothing in Lean hashes anything: it is a label: what it is worth is what the hold of that sum in a sandbox is worth. -/
noncomputable def Try.pinned : Pinned := { name := "ythpohaijjlfdoaa", sum := "7ade269553e959ced4c942d13d982c2bfed682a1c99423ce3015e52169772e1d", checked := Try.checked }
namespace Rows
def none {H : Type} : Left H := { results := [], args := [] }

/-- 'laws.FnExactConstants': WHATEVER THE INPUT: true; the input reads as it did. -/
def fnExactConstantsSpec : ChangeSpec := { name := "fnExactConstants", fn := fun _ => fun
  | [] => { results := [.lit (.bool true)], args := [] }
  | _ => none }
def fnExactConstantsRow : OpenClaim := { program := "ythpohaijjlfdoaa", sum := "7ade269553e959ced4c942d13d982c2bfed682a1c99423ce3015e52169772e1d", func := "loop.example/flexlayout/laws.FnExactConstants", spec := "fnExactConstants", apart := false }
def FnExactConstantsSaid : Prop := fnExactConstantsRow.holds Try.pinned (OpenSpec.ofChange fnExactConstantsSpec)

/-- ITS FALSE NEIGHBOUR: 'it returns false'. Refute it at one input. -/
def fnExactConstantsWrong : ChangeSpec := { name := "fnExactConstants", fn := fun _ => fun
  | [] => { results := [.lit (.bool false)], args := [] }
  | _ => none }
def FnExactConstantsWrongFalsely : Prop := fnExactConstantsRow.holds Try.pinned (OpenSpec.ofChange fnExactConstantsWrong)

/-- 'laws.FnExactValidRect': WHATEVER THE INPUT: true; the input reads as it did. -/
def fnExactValidRectSpec : ChangeSpec := { name := "fnExactValidRect", fn := fun _ => fun
  | [d] => { results := [.lit (.bool true)], args := [d] }
  | _ => none }
def fnExactValidRectRow : OpenClaim := { program := "ythpohaijjlfdoaa", sum := "7ade269553e959ced4c942d13d982c2bfed682a1c99423ce3015e52169772e1d", func := "loop.example/flexlayout/laws.FnExactValidRect", spec := "fnExactValidRect", apart := false }
def FnExactValidRectSaid : Prop := fnExactValidRectRow.holds Try.pinned (OpenSpec.ofChange fnExactValidRectSpec)

/-- ITS FALSE NEIGHBOUR: 'it returns false'. Refute it at one input. -/
def fnExactValidRectWrong : ChangeSpec := { name := "fnExactValidRect", fn := fun _ => fun
  | [d] => { results := [.lit (.bool false)], args := [d] }
  | _ => none }
def FnExactValidRectWrongFalsely : Prop := fnExactValidRectRow.holds Try.pinned (OpenSpec.ofChange fnExactValidRectWrong)

/-- 'laws.FnExactInRect': WHATEVER THE INPUT: true; the input reads as it did. -/
def fnExactInRectSpec : ChangeSpec := { name := "fnExactInRect", fn := fun _ => fun
  | [d1, d2, d3] => { results := [.lit (.bool true)], args := [d1, d2, d3] }
  | _ => none }
def fnExactInRectRow : OpenClaim := { program := "ythpohaijjlfdoaa", sum := "7ade269553e959ced4c942d13d982c2bfed682a1c99423ce3015e52169772e1d", func := "loop.example/flexlayout/laws.FnExactInRect", spec := "fnExactInRect", apart := false }
def FnExactInRectSaid : Prop := fnExactInRectRow.holds Try.pinned (OpenSpec.ofChange fnExactInRectSpec)

/-- ITS FALSE NEIGHBOUR: 'it returns false'. Refute it at one input. -/
def fnExactInRectWrong : ChangeSpec := { name := "fnExactInRect", fn := fun _ => fun
  | [d1, d2, d3] => { results := [.lit (.bool false)], args := [d1, d2, d3] }
  | _ => none }
def FnExactInRectWrongFalsely : Prop := fnExactInRectRow.holds Try.pinned (OpenSpec.ofChange fnExactInRectWrong)

/-- 'laws.FnValidRect': WHATEVER THE INPUT: true; the input reads as it did. -/
def fnValidRectSpec : ChangeSpec := { name := "fnValidRect", fn := fun _ => fun
  | [d] => { results := [.lit (.bool true)], args := [d] }
  | _ => none }
def fnValidRectRow : OpenClaim := { program := "ythpohaijjlfdoaa", sum := "7ade269553e959ced4c942d13d982c2bfed682a1c99423ce3015e52169772e1d", func := "loop.example/flexlayout/laws.FnValidRect", spec := "fnValidRect", apart := false }
def FnValidRectSaid : Prop := fnValidRectRow.holds Try.pinned (OpenSpec.ofChange fnValidRectSpec)

/-- ITS FALSE NEIGHBOUR: 'it returns false'. Refute it at one input. -/
def fnValidRectWrong : ChangeSpec := { name := "fnValidRect", fn := fun _ => fun
  | [d] => { results := [.lit (.bool false)], args := [d] }
  | _ => none }
def FnValidRectWrongFalsely : Prop := fnValidRectRow.holds Try.pinned (OpenSpec.ofChange fnValidRectWrong)

/-- 'laws.FnExactHullOf': WHATEVER THE INPUT: true; the input reads as it did. -/
def fnExactHullOfSpec : ChangeSpec := { name := "fnExactHullOf", fn := fun _ => fun
  | [d1, d2] => { results := [.lit (.bool true)], args := [d1, d2] }
  | _ => none }
def fnExactHullOfRow : OpenClaim := { program := "ythpohaijjlfdoaa", sum := "7ade269553e959ced4c942d13d982c2bfed682a1c99423ce3015e52169772e1d", func := "loop.example/flexlayout/laws.FnExactHullOf", spec := "fnExactHullOf", apart := false }
def FnExactHullOfSaid : Prop := fnExactHullOfRow.holds Try.pinned (OpenSpec.ofChange fnExactHullOfSpec)

/-- ITS FALSE NEIGHBOUR: 'it returns false'. Refute it at one input. -/
def fnExactHullOfWrong : ChangeSpec := { name := "fnExactHullOf", fn := fun _ => fun
  | [d1, d2] => { results := [.lit (.bool false)], args := [d1, d2] }
  | _ => none }
def FnExactHullOfWrongFalsely : Prop := fnExactHullOfRow.holds Try.pinned (OpenSpec.ofChange fnExactHullOfWrong)

/-- 'laws.FnInRect': WHATEVER THE INPUT: true; the input reads as it did. -/
def fnInRectSpec : ChangeSpec := { name := "fnInRect", fn := fun _ => fun
  | [d] => { results := [.lit (.bool true)], args := [d] }
  | _ => none }
def fnInRectRow : OpenClaim := { program := "ythpohaijjlfdoaa", sum := "7ade269553e959ced4c942d13d982c2bfed682a1c99423ce3015e52169772e1d", func := "loop.example/flexlayout/laws.FnInRect", spec := "fnInRect", apart := false }
def FnInRectSaid : Prop := fnInRectRow.holds Try.pinned (OpenSpec.ofChange fnInRectSpec)

/-- ITS FALSE NEIGHBOUR: 'it returns false'. Refute it at one input. -/
def fnInRectWrong : ChangeSpec := { name := "fnInRect", fn := fun _ => fun
  | [d] => { results := [.lit (.bool false)], args := [d] }
  | _ => none }
def FnInRectWrongFalsely : Prop := fnInRectRow.holds Try.pinned (OpenSpec.ofChange fnInRectWrong)

/-- 'laws.FnInRectMove': WHATEVER THE INPUT: true; the input reads as it did. -/
def fnInRectMoveSpec : ChangeSpec := { name := "fnInRectMove", fn := fun _ => fun
  | [d] => { results := [.lit (.bool true)], args := [d] }
  | _ => none }
def fnInRectMoveRow : OpenClaim := { program := "ythpohaijjlfdoaa", sum := "7ade269553e959ced4c942d13d982c2bfed682a1c99423ce3015e52169772e1d", func := "loop.example/flexlayout/laws.FnInRectMove", spec := "fnInRectMove", apart := false }
def FnInRectMoveSaid : Prop := fnInRectMoveRow.holds Try.pinned (OpenSpec.ofChange fnInRectMoveSpec)

/-- ITS FALSE NEIGHBOUR: 'it returns false'. Refute it at one input. -/
def fnInRectMoveWrong : ChangeSpec := { name := "fnInRectMove", fn := fun _ => fun
  | [d] => { results := [.lit (.bool false)], args := [d] }
  | _ => none }
def FnInRectMoveWrongFalsely : Prop := fnInRectMoveRow.holds Try.pinned (OpenSpec.ofChange fnInRectMoveWrong)

/-- 'laws.FnExactInsetRect': WHATEVER THE INPUT: true; the input reads as it did. -/
def fnExactInsetRectSpec : ChangeSpec := { name := "fnExactInsetRect", fn := fun _ => fun
  | [d1, d2] => { results := [.lit (.bool true)], args := [d1, d2] }
  | _ => none }
def fnExactInsetRectRow : OpenClaim := { program := "ythpohaijjlfdoaa", sum := "7ade269553e959ced4c942d13d982c2bfed682a1c99423ce3015e52169772e1d", func := "loop.example/flexlayout/laws.FnExactInsetRect", spec := "fnExactInsetRect", apart := false }
def FnExactInsetRectSaid : Prop := fnExactInsetRectRow.holds Try.pinned (OpenSpec.ofChange fnExactInsetRectSpec)

/-- ITS FALSE NEIGHBOUR: 'it returns false'. Refute it at one input. -/
def fnExactInsetRectWrong : ChangeSpec := { name := "fnExactInsetRect", fn := fun _ => fun
  | [d1, d2] => { results := [.lit (.bool false)], args := [d1, d2] }
  | _ => none }
def FnExactInsetRectWrongFalsely : Prop := fnExactInsetRectRow.holds Try.pinned (OpenSpec.ofChange fnExactInsetRectWrong)

/-- 'laws.FnExactMeetRects': WHATEVER THE INPUT: true; the input reads as it did. -/
def fnExactMeetRectsSpec : ChangeSpec := { name := "fnExactMeetRects", fn := fun _ => fun
  | [d1, d2] => { results := [.lit (.bool true)], args := [d1, d2] }
  | _ => none }
def fnExactMeetRectsRow : OpenClaim := { program := "ythpohaijjlfdoaa", sum := "7ade269553e959ced4c942d13d982c2bfed682a1c99423ce3015e52169772e1d", func := "loop.example/flexlayout/laws.FnExactMeetRects", spec := "fnExactMeetRects", apart := false }
def FnExactMeetRectsSaid : Prop := fnExactMeetRectsRow.holds Try.pinned (OpenSpec.ofChange fnExactMeetRectsSpec)

/-- ITS FALSE NEIGHBOUR: 'it returns false'. Refute it at one input. -/
def fnExactMeetRectsWrong : ChangeSpec := { name := "fnExactMeetRects", fn := fun _ => fun
  | [d1, d2] => { results := [.lit (.bool false)], args := [d1, d2] }
  | _ => none }
def FnExactMeetRectsWrongFalsely : Prop := fnExactMeetRectsRow.holds Try.pinned (OpenSpec.ofChange fnExactMeetRectsWrong)

/-- 'laws.FnInsetRectTwice': WHATEVER THE INPUT: true; the input reads as it did. -/
def fnInsetRectTwiceSpec : ChangeSpec := { name := "fnInsetRectTwice", fn := fun _ => fun
  | [d] => { results := [.lit (.bool true)], args := [d] }
  | _ => none }
def fnInsetRectTwiceRow : OpenClaim := { program := "ythpohaijjlfdoaa", sum := "7ade269553e959ced4c942d13d982c2bfed682a1c99423ce3015e52169772e1d", func := "loop.example/flexlayout/laws.FnInsetRectTwice", spec := "fnInsetRectTwice", apart := false }
def FnInsetRectTwiceSaid : Prop := fnInsetRectTwiceRow.holds Try.pinned (OpenSpec.ofChange fnInsetRectTwiceSpec)

/-- ITS FALSE NEIGHBOUR: 'it returns false'. Refute it at one input. -/
def fnInsetRectTwiceWrong : ChangeSpec := { name := "fnInsetRectTwice", fn := fun _ => fun
  | [d] => { results := [.lit (.bool false)], args := [d] }
  | _ => none }
def FnInsetRectTwiceWrongFalsely : Prop := fnInsetRectTwiceRow.holds Try.pinned (OpenSpec.ofChange fnInsetRectTwiceWrong)

/-- 'laws.FnHullOfOrder': WHATEVER THE INPUT: true; the input reads as it did. -/
def fnHullOfOrderSpec : ChangeSpec := { name := "fnHullOfOrder", fn := fun _ => fun
  | [d] => { results := [.lit (.bool true)], args := [d] }
  | _ => none }
def fnHullOfOrderRow : OpenClaim := { program := "ythpohaijjlfdoaa", sum := "7ade269553e959ced4c942d13d982c2bfed682a1c99423ce3015e52169772e1d", func := "loop.example/flexlayout/laws.FnHullOfOrder", spec := "fnHullOfOrder", apart := false }
def FnHullOfOrderSaid : Prop := fnHullOfOrderRow.holds Try.pinned (OpenSpec.ofChange fnHullOfOrderSpec)

/-- ITS FALSE NEIGHBOUR: 'it returns false'. Refute it at one input. -/
def fnHullOfOrderWrong : ChangeSpec := { name := "fnHullOfOrder", fn := fun _ => fun
  | [d] => { results := [.lit (.bool false)], args := [d] }
  | _ => none }
def FnHullOfOrderWrongFalsely : Prop := fnHullOfOrderRow.holds Try.pinned (OpenSpec.ofChange fnHullOfOrderWrong)

/-- 'laws.FnHullOfThree': WHATEVER THE INPUT: true; the input reads as it did. -/
def fnHullOfThreeSpec : ChangeSpec := { name := "fnHullOfThree", fn := fun _ => fun
  | [d] => { results := [.lit (.bool true)], args := [d] }
  | _ => none }
def fnHullOfThreeRow : OpenClaim := { program := "ythpohaijjlfdoaa", sum := "7ade269553e959ced4c942d13d982c2bfed682a1c99423ce3015e52169772e1d", func := "loop.example/flexlayout/laws.FnHullOfThree", spec := "fnHullOfThree", apart := false }
def FnHullOfThreeSaid : Prop := fnHullOfThreeRow.holds Try.pinned (OpenSpec.ofChange fnHullOfThreeSpec)

/-- ITS FALSE NEIGHBOUR: 'it returns false'. Refute it at one input. -/
def fnHullOfThreeWrong : ChangeSpec := { name := "fnHullOfThree", fn := fun _ => fun
  | [d] => { results := [.lit (.bool false)], args := [d] }
  | _ => none }
def FnHullOfThreeWrongFalsely : Prop := fnHullOfThreeRow.holds Try.pinned (OpenSpec.ofChange fnHullOfThreeWrong)

/-- 'laws.FnMeetRectsOrder': WHATEVER THE INPUT: true; the input reads as it did. -/
def fnMeetRectsOrderSpec : ChangeSpec := { name := "fnMeetRectsOrder", fn := fun _ => fun
  | [d] => { results := [.lit (.bool true)], args := [d] }
  | _ => none }
def fnMeetRectsOrderRow : OpenClaim := { program := "ythpohaijjlfdoaa", sum := "7ade269553e959ced4c942d13d982c2bfed682a1c99423ce3015e52169772e1d", func := "loop.example/flexlayout/laws.FnMeetRectsOrder", spec := "fnMeetRectsOrder", apart := false }
def FnMeetRectsOrderSaid : Prop := fnMeetRectsOrderRow.holds Try.pinned (OpenSpec.ofChange fnMeetRectsOrderSpec)

/-- ITS FALSE NEIGHBOUR: 'it returns false'. Refute it at one input. -/
def fnMeetRectsOrderWrong : ChangeSpec := { name := "fnMeetRectsOrder", fn := fun _ => fun
  | [d] => { results := [.lit (.bool false)], args := [d] }
  | _ => none }
def FnMeetRectsOrderWrongFalsely : Prop := fnMeetRectsOrderRow.holds Try.pinned (OpenSpec.ofChange fnMeetRectsOrderWrong)

/-- 'laws.FnHullOf': WHATEVER THE INPUT: true; the input reads as it did. -/
def fnHullOfSpec : ChangeSpec := { name := "fnHullOf", fn := fun _ => fun
  | [d] => { results := [.lit (.bool true)], args := [d] }
  | _ => none }
def fnHullOfRow : OpenClaim := { program := "ythpohaijjlfdoaa", sum := "7ade269553e959ced4c942d13d982c2bfed682a1c99423ce3015e52169772e1d", func := "loop.example/flexlayout/laws.FnHullOf", spec := "fnHullOf", apart := false }
def FnHullOfSaid : Prop := fnHullOfRow.holds Try.pinned (OpenSpec.ofChange fnHullOfSpec)

/-- ITS FALSE NEIGHBOUR: 'it returns false'. Refute it at one input. -/
def fnHullOfWrong : ChangeSpec := { name := "fnHullOf", fn := fun _ => fun
  | [d] => { results := [.lit (.bool false)], args := [d] }
  | _ => none }
def FnHullOfWrongFalsely : Prop := fnHullOfRow.holds Try.pinned (OpenSpec.ofChange fnHullOfWrong)

/-- 'laws.FnInsetRect': WHATEVER THE INPUT: true; the input reads as it did. -/
def fnInsetRectSpec : ChangeSpec := { name := "fnInsetRect", fn := fun _ => fun
  | [d] => { results := [.lit (.bool true)], args := [d] }
  | _ => none }
def fnInsetRectRow : OpenClaim := { program := "ythpohaijjlfdoaa", sum := "7ade269553e959ced4c942d13d982c2bfed682a1c99423ce3015e52169772e1d", func := "loop.example/flexlayout/laws.FnInsetRect", spec := "fnInsetRect", apart := false }
def FnInsetRectSaid : Prop := fnInsetRectRow.holds Try.pinned (OpenSpec.ofChange fnInsetRectSpec)

/-- ITS FALSE NEIGHBOUR: 'it returns false'. Refute it at one input. -/
def fnInsetRectWrong : ChangeSpec := { name := "fnInsetRect", fn := fun _ => fun
  | [d] => { results := [.lit (.bool false)], args := [d] }
  | _ => none }
def FnInsetRectWrongFalsely : Prop := fnInsetRectRow.holds Try.pinned (OpenSpec.ofChange fnInsetRectWrong)

/-- 'laws.FnMeetRects': WHATEVER THE INPUT: true; the input reads as it did. -/
def fnMeetRectsSpec : ChangeSpec := { name := "fnMeetRects", fn := fun _ => fun
  | [d] => { results := [.lit (.bool true)], args := [d] }
  | _ => none }
def fnMeetRectsRow : OpenClaim := { program := "ythpohaijjlfdoaa", sum := "7ade269553e959ced4c942d13d982c2bfed682a1c99423ce3015e52169772e1d", func := "loop.example/flexlayout/laws.FnMeetRects", spec := "fnMeetRects", apart := false }
def FnMeetRectsSaid : Prop := fnMeetRectsRow.holds Try.pinned (OpenSpec.ofChange fnMeetRectsSpec)

/-- ITS FALSE NEIGHBOUR: 'it returns false'. Refute it at one input. -/
def fnMeetRectsWrong : ChangeSpec := { name := "fnMeetRects", fn := fun _ => fun
  | [d] => { results := [.lit (.bool false)], args := [d] }
  | _ => none }
def FnMeetRectsWrongFalsely : Prop := fnMeetRectsRow.holds Try.pinned (OpenSpec.ofChange fnMeetRectsWrong)

/-- 'laws.FnMeetRectsInset': WHATEVER THE INPUT: true; the input reads as it did. -/
def fnMeetRectsInsetSpec : ChangeSpec := { name := "fnMeetRectsInset", fn := fun _ => fun
  | [d] => { results := [.lit (.bool true)], args := [d] }
  | _ => none }
def fnMeetRectsInsetRow : OpenClaim := { program := "ythpohaijjlfdoaa", sum := "7ade269553e959ced4c942d13d982c2bfed682a1c99423ce3015e52169772e1d", func := "loop.example/flexlayout/laws.FnMeetRectsInset", spec := "fnMeetRectsInset", apart := false }
def FnMeetRectsInsetSaid : Prop := fnMeetRectsInsetRow.holds Try.pinned (OpenSpec.ofChange fnMeetRectsInsetSpec)

/-- ITS FALSE NEIGHBOUR: 'it returns false'. Refute it at one input. -/
def fnMeetRectsInsetWrong : ChangeSpec := { name := "fnMeetRectsInset", fn := fun _ => fun
  | [d] => { results := [.lit (.bool false)], args := [d] }
  | _ => none }
def FnMeetRectsInsetWrongFalsely : Prop := fnMeetRectsInsetRow.holds Try.pinned (OpenSpec.ofChange fnMeetRectsInsetWrong)

/-- 'laws.FnMeetRectsHull': WHATEVER THE INPUT: true; the input reads as it did. -/
def fnMeetRectsHullSpec : ChangeSpec := { name := "fnMeetRectsHull", fn := fun _ => fun
  | [d] => { results := [.lit (.bool true)], args := [d] }
  | _ => none }
def fnMeetRectsHullRow : OpenClaim := { program := "ythpohaijjlfdoaa", sum := "7ade269553e959ced4c942d13d982c2bfed682a1c99423ce3015e52169772e1d", func := "loop.example/flexlayout/laws.FnMeetRectsHull", spec := "fnMeetRectsHull", apart := false }
def FnMeetRectsHullSaid : Prop := fnMeetRectsHullRow.holds Try.pinned (OpenSpec.ofChange fnMeetRectsHullSpec)

/-- ITS FALSE NEIGHBOUR: 'it returns false'. Refute it at one input. -/
def fnMeetRectsHullWrong : ChangeSpec := { name := "fnMeetRectsHull", fn := fun _ => fun
  | [d] => { results := [.lit (.bool false)], args := [d] }
  | _ => none }
def FnMeetRectsHullWrongFalsely : Prop := fnMeetRectsHullRow.holds Try.pinned (OpenSpec.ofChange fnMeetRectsHullWrong)

/- THE SECOND FORM. 'bulk': how many values and letters a reading holds, each counted each time it is reached (what is shared counts as often as it is met; a slice's spare places count too). A statement '..UptoSaid' is the law's where the arguments, and the package variables that the reading takes, are together of bulk at most 1048576: NARROWER than '..Said'. Prove '..Said' where nothing that the law and all that it calls make is longer than what came in: it says more and counts as full. Else prove '..UptoSaid'. A law counts once. -/
mutual
def uptoBulk {H : Type} : DataW H → Nat
  | .lit (.string bytes) => bytes.length + 1
  | .lit _ => 1
  | .nil => 1
  | .ptr d => uptoBulk d + 1
  | .slice elems spare => uptoBulkAll elems + uptoBulkAll spare + 1
  | .agg parts => uptoBulkAll parts + 1
  | .iface _ d => uptoBulk d + 1
  | .map entries => uptoBulkEntries entries + 1
  | .held _ => 1
def uptoBulkAll {H : Type} : List (DataW H) → Nat
  | [] => 0
  | d :: r => uptoBulk d + uptoBulkAll r
def uptoBulkEntries {H : Type} : List (Lit × DataW H) → Nat
  | [] => 0
  | x :: r => uptoBulkEntry x + uptoBulkEntries r
def uptoBulkEntry {H : Type} : Lit × DataW H → Nat
  | (.string bytes, d) => bytes.length + uptoBulk d + 1
  | (_, d) => uptoBulk d + 1
 end
def uptoSmall : (H : Type) → List (DataW H) → Bool := fun _ ds => decide (uptoBulkAll ds ≤ 1048576)
def OpenSpec.upto (s : _root_.Go.ChangeSpec) : _root_.Go.OpenSpec := { _root_.Go.OpenSpec.ofChange s with cond := some uptoSmall }

/-- 'laws.FnExactConstants', WHERE WHAT IT READS IS OF BULK AT MOST 1048576: true; the input reads as it did. -/
def fnExactConstantsUptoRow : OpenClaim := { program := "ythpohaijjlfdoaa", sum := "7ade269553e959ced4c942d13d982c2bfed682a1c99423ce3015e52169772e1d", func := "loop.example/flexlayout/laws.FnExactConstants", spec := "fnExactConstants", apart := false, narrowed := true }
def FnExactConstantsUptoSaid : Prop := fnExactConstantsUptoRow.holds Try.pinned (OpenSpec.upto fnExactConstantsSpec)

/-- 'laws.FnExactValidRect', WHERE WHAT IT READS IS OF BULK AT MOST 1048576: true; the input reads as it did. -/
def fnExactValidRectUptoRow : OpenClaim := { program := "ythpohaijjlfdoaa", sum := "7ade269553e959ced4c942d13d982c2bfed682a1c99423ce3015e52169772e1d", func := "loop.example/flexlayout/laws.FnExactValidRect", spec := "fnExactValidRect", apart := false, narrowed := true }
def FnExactValidRectUptoSaid : Prop := fnExactValidRectUptoRow.holds Try.pinned (OpenSpec.upto fnExactValidRectSpec)

/-- 'laws.FnExactInRect', WHERE WHAT IT READS IS OF BULK AT MOST 1048576: true; the input reads as it did. -/
def fnExactInRectUptoRow : OpenClaim := { program := "ythpohaijjlfdoaa", sum := "7ade269553e959ced4c942d13d982c2bfed682a1c99423ce3015e52169772e1d", func := "loop.example/flexlayout/laws.FnExactInRect", spec := "fnExactInRect", apart := false, narrowed := true }
def FnExactInRectUptoSaid : Prop := fnExactInRectUptoRow.holds Try.pinned (OpenSpec.upto fnExactInRectSpec)

/-- 'laws.FnValidRect', WHERE WHAT IT READS IS OF BULK AT MOST 1048576: true; the input reads as it did. -/
def fnValidRectUptoRow : OpenClaim := { program := "ythpohaijjlfdoaa", sum := "7ade269553e959ced4c942d13d982c2bfed682a1c99423ce3015e52169772e1d", func := "loop.example/flexlayout/laws.FnValidRect", spec := "fnValidRect", apart := false, narrowed := true }
def FnValidRectUptoSaid : Prop := fnValidRectUptoRow.holds Try.pinned (OpenSpec.upto fnValidRectSpec)

/-- 'laws.FnExactHullOf', WHERE WHAT IT READS IS OF BULK AT MOST 1048576: true; the input reads as it did. -/
def fnExactHullOfUptoRow : OpenClaim := { program := "ythpohaijjlfdoaa", sum := "7ade269553e959ced4c942d13d982c2bfed682a1c99423ce3015e52169772e1d", func := "loop.example/flexlayout/laws.FnExactHullOf", spec := "fnExactHullOf", apart := false, narrowed := true }
def FnExactHullOfUptoSaid : Prop := fnExactHullOfUptoRow.holds Try.pinned (OpenSpec.upto fnExactHullOfSpec)

/-- 'laws.FnInRect', WHERE WHAT IT READS IS OF BULK AT MOST 1048576: true; the input reads as it did. -/
def fnInRectUptoRow : OpenClaim := { program := "ythpohaijjlfdoaa", sum := "7ade269553e959ced4c942d13d982c2bfed682a1c99423ce3015e52169772e1d", func := "loop.example/flexlayout/laws.FnInRect", spec := "fnInRect", apart := false, narrowed := true }
def FnInRectUptoSaid : Prop := fnInRectUptoRow.holds Try.pinned (OpenSpec.upto fnInRectSpec)

/-- 'laws.FnInRectMove', WHERE WHAT IT READS IS OF BULK AT MOST 1048576: true; the input reads as it did. -/
def fnInRectMoveUptoRow : OpenClaim := { program := "ythpohaijjlfdoaa", sum := "7ade269553e959ced4c942d13d982c2bfed682a1c99423ce3015e52169772e1d", func := "loop.example/flexlayout/laws.FnInRectMove", spec := "fnInRectMove", apart := false, narrowed := true }
def FnInRectMoveUptoSaid : Prop := fnInRectMoveUptoRow.holds Try.pinned (OpenSpec.upto fnInRectMoveSpec)

/-- 'laws.FnExactInsetRect', WHERE WHAT IT READS IS OF BULK AT MOST 1048576: true; the input reads as it did. -/
def fnExactInsetRectUptoRow : OpenClaim := { program := "ythpohaijjlfdoaa", sum := "7ade269553e959ced4c942d13d982c2bfed682a1c99423ce3015e52169772e1d", func := "loop.example/flexlayout/laws.FnExactInsetRect", spec := "fnExactInsetRect", apart := false, narrowed := true }
def FnExactInsetRectUptoSaid : Prop := fnExactInsetRectUptoRow.holds Try.pinned (OpenSpec.upto fnExactInsetRectSpec)

/-- 'laws.FnExactMeetRects', WHERE WHAT IT READS IS OF BULK AT MOST 1048576: true; the input reads as it did. -/
def fnExactMeetRectsUptoRow : OpenClaim := { program := "ythpohaijjlfdoaa", sum := "7ade269553e959ced4c942d13d982c2bfed682a1c99423ce3015e52169772e1d", func := "loop.example/flexlayout/laws.FnExactMeetRects", spec := "fnExactMeetRects", apart := false, narrowed := true }
def FnExactMeetRectsUptoSaid : Prop := fnExactMeetRectsUptoRow.holds Try.pinned (OpenSpec.upto fnExactMeetRectsSpec)

/-- 'laws.FnInsetRectTwice', WHERE WHAT IT READS IS OF BULK AT MOST 1048576: true; the input reads as it did. -/
def fnInsetRectTwiceUptoRow : OpenClaim := { program := "ythpohaijjlfdoaa", sum := "7ade269553e959ced4c942d13d982c2bfed682a1c99423ce3015e52169772e1d", func := "loop.example/flexlayout/laws.FnInsetRectTwice", spec := "fnInsetRectTwice", apart := false, narrowed := true }
def FnInsetRectTwiceUptoSaid : Prop := fnInsetRectTwiceUptoRow.holds Try.pinned (OpenSpec.upto fnInsetRectTwiceSpec)

/-- 'laws.FnHullOfOrder', WHERE WHAT IT READS IS OF BULK AT MOST 1048576: true; the input reads as it did. -/
def fnHullOfOrderUptoRow : OpenClaim := { program := "ythpohaijjlfdoaa", sum := "7ade269553e959ced4c942d13d982c2bfed682a1c99423ce3015e52169772e1d", func := "loop.example/flexlayout/laws.FnHullOfOrder", spec := "fnHullOfOrder", apart := false, narrowed := true }
def FnHullOfOrderUptoSaid : Prop := fnHullOfOrderUptoRow.holds Try.pinned (OpenSpec.upto fnHullOfOrderSpec)

/-- 'laws.FnHullOfThree', WHERE WHAT IT READS IS OF BULK AT MOST 1048576: true; the input reads as it did. -/
def fnHullOfThreeUptoRow : OpenClaim := { program := "ythpohaijjlfdoaa", sum := "7ade269553e959ced4c942d13d982c2bfed682a1c99423ce3015e52169772e1d", func := "loop.example/flexlayout/laws.FnHullOfThree", spec := "fnHullOfThree", apart := false, narrowed := true }
def FnHullOfThreeUptoSaid : Prop := fnHullOfThreeUptoRow.holds Try.pinned (OpenSpec.upto fnHullOfThreeSpec)

/-- 'laws.FnMeetRectsOrder', WHERE WHAT IT READS IS OF BULK AT MOST 1048576: true; the input reads as it did. -/
def fnMeetRectsOrderUptoRow : OpenClaim := { program := "ythpohaijjlfdoaa", sum := "7ade269553e959ced4c942d13d982c2bfed682a1c99423ce3015e52169772e1d", func := "loop.example/flexlayout/laws.FnMeetRectsOrder", spec := "fnMeetRectsOrder", apart := false, narrowed := true }
def FnMeetRectsOrderUptoSaid : Prop := fnMeetRectsOrderUptoRow.holds Try.pinned (OpenSpec.upto fnMeetRectsOrderSpec)

/-- 'laws.FnHullOf', WHERE WHAT IT READS IS OF BULK AT MOST 1048576: true; the input reads as it did. -/
def fnHullOfUptoRow : OpenClaim := { program := "ythpohaijjlfdoaa", sum := "7ade269553e959ced4c942d13d982c2bfed682a1c99423ce3015e52169772e1d", func := "loop.example/flexlayout/laws.FnHullOf", spec := "fnHullOf", apart := false, narrowed := true }
def FnHullOfUptoSaid : Prop := fnHullOfUptoRow.holds Try.pinned (OpenSpec.upto fnHullOfSpec)

/-- 'laws.FnInsetRect', WHERE WHAT IT READS IS OF BULK AT MOST 1048576: true; the input reads as it did. -/
def fnInsetRectUptoRow : OpenClaim := { program := "ythpohaijjlfdoaa", sum := "7ade269553e959ced4c942d13d982c2bfed682a1c99423ce3015e52169772e1d", func := "loop.example/flexlayout/laws.FnInsetRect", spec := "fnInsetRect", apart := false, narrowed := true }
def FnInsetRectUptoSaid : Prop := fnInsetRectUptoRow.holds Try.pinned (OpenSpec.upto fnInsetRectSpec)

/-- 'laws.FnMeetRects', WHERE WHAT IT READS IS OF BULK AT MOST 1048576: true; the input reads as it did. -/
def fnMeetRectsUptoRow : OpenClaim := { program := "ythpohaijjlfdoaa", sum := "7ade269553e959ced4c942d13d982c2bfed682a1c99423ce3015e52169772e1d", func := "loop.example/flexlayout/laws.FnMeetRects", spec := "fnMeetRects", apart := false, narrowed := true }
def FnMeetRectsUptoSaid : Prop := fnMeetRectsUptoRow.holds Try.pinned (OpenSpec.upto fnMeetRectsSpec)

/-- 'laws.FnMeetRectsInset', WHERE WHAT IT READS IS OF BULK AT MOST 1048576: true; the input reads as it did. -/
def fnMeetRectsInsetUptoRow : OpenClaim := { program := "ythpohaijjlfdoaa", sum := "7ade269553e959ced4c942d13d982c2bfed682a1c99423ce3015e52169772e1d", func := "loop.example/flexlayout/laws.FnMeetRectsInset", spec := "fnMeetRectsInset", apart := false, narrowed := true }
def FnMeetRectsInsetUptoSaid : Prop := fnMeetRectsInsetUptoRow.holds Try.pinned (OpenSpec.upto fnMeetRectsInsetSpec)

/-- 'laws.FnMeetRectsHull', WHERE WHAT IT READS IS OF BULK AT MOST 1048576: true; the input reads as it did. -/
def fnMeetRectsHullUptoRow : OpenClaim := { program := "ythpohaijjlfdoaa", sum := "7ade269553e959ced4c942d13d982c2bfed682a1c99423ce3015e52169772e1d", func := "loop.example/flexlayout/laws.FnMeetRectsHull", spec := "fnMeetRectsHull", apart := false, narrowed := true }
def FnMeetRectsHullUptoSaid : Prop := fnMeetRectsHullUptoRow.holds Try.pinned (OpenSpec.upto fnMeetRectsHullSpec)

end Rows
end Go.Proofs.Ythpohaijjlfdoaa
