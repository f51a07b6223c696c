/-
  No cell of these rows narrows 'for every input' (looked for: loops, veiled, ifaces, maps, wideKeys, modest, calm, conditions, laid).
  DERIVED. THE GIVEN ROWS OF THIS SEAT. 11 by the template 'for every input the law returns true; each argument reads behind the call as it read before'; 0 by the template 'total and deterministic' (their statements: YtjaecgobgpfbdaaTotals.lean).
  GIVEN WITH THE SEED: the statements are not yours to turn. If you find one false, say at which input.
  Laid BY PROGRAM, IN A SANDBOX (cutbox-rows.mjs): the forced cells as the released guide's own fill.sh prints them over the translation 05fc1699924cfba9… (all of the seat's roots in one cut). By AI agents, Wed Nov 11 2026. No macro, syntax, notation, axiom, sorry.
-/
import Derived.Test.YtjaecgobgpfbdaaChecked
import GoSem.Claim
import GoSem.ClaimJoined
import GoSem.ClaimMapViews
import Derived.JoinedTies
import Derived.KernelRfl
namespace Go.Proofs.Ytjaecgobgpfbdaa
/- THE CELL 'sum', in the pinned program and in every row, IS THE sha256 OF THE DUMP (.gsa) THAT YtjaecgobgpfbdaaProg.lean LOADS. Nothing in Lean hashes anything: it is a label: what it is worth is what the hold of that sum in a sandbox is worth. -/
noncomputable def Try.pinned : Pinned := { name := "ytjaecgobgpfbdaa", sum := "05fc1699924cfba9aaa17841dc74f640be8dc1bdc0c5878ef9f0c4fcae8b1144", checked := Try.checked }
namespace Rows
def none {H : Type} : Left H := { results := [], args := [] }

/-- 'laws.FnExactRectOf': WHATEVER THE INPUT: true; the input reads as it did. -/
def fnExactRectOfSpec : ChangeSpec := { name := "fnExactRectOf", fn := fun _ => fun
  | [d1, d2, d3, d4] => { results := [.lit (.bool true)], args := [d1, d2, d3, d4] }
  | _ => none }
def fnExactRectOfRow : OpenClaim := { program := "ytjaecgobgpfbdaa", sum := "05fc1699924cfba9aaa17841dc74f640be8dc1bdc0c5878ef9f0c4fcae8b1144", func := "loop.example/flexlayout/laws.FnExactRectOf", spec := "fnExactRectOf", unfollowed := true, recurses := true, apart := false }
def FnExactRectOfSaid : Prop := fnExactRectOfRow.holds Try.pinned (OpenSpec.ofChange fnExactRectOfSpec)

/-- ITS FALSE NEIGHBOUR: 'it returns false'. Refute it at one input. -/
def fnExactRectOfWrong : ChangeSpec := { name := "fnExactRectOf", fn := fun _ => fun
  | [d1, d2, d3, d4] => { results := [.lit (.bool false)], args := [d1, d2, d3, d4] }
  | _ => none }
def FnExactRectOfWrongFalsely : Prop := fnExactRectOfRow.holds Try.pinned (OpenSpec.ofChange fnExactRectOfWrong)

/-- 'laws.FnExactSpilling': WHATEVER THE INPUT: true; the input reads as it did. -/
def fnExactSpillingSpec : ChangeSpec := { name := "fnExactSpilling", fn := fun _ => fun
  | [d1, d2, d3] => { results := [.lit (.bool true)], args := [d1, d2, d3] }
  | _ => none }
def fnExactSpillingRow : OpenClaim := { program := "ytjaecgobgpfbdaa", sum := "05fc1699924cfba9aaa17841dc74f640be8dc1bdc0c5878ef9f0c4fcae8b1144", func := "loop.example/flexlayout/laws.FnExactSpilling", spec := "fnExactSpilling", unfollowed := true, recurses := true, apart := false }
def FnExactSpillingSaid : Prop := fnExactSpillingRow.holds Try.pinned (OpenSpec.ofChange fnExactSpillingSpec)

/-- ITS FALSE NEIGHBOUR: 'it returns false'. Refute it at one input. -/
def fnExactSpillingWrong : ChangeSpec := { name := "fnExactSpilling", fn := fun _ => fun
  | [d1, d2, d3] => { results := [.lit (.bool false)], args := [d1, d2, d3] }
  | _ => none }
def FnExactSpillingWrongFalsely : Prop := fnExactSpillingRow.holds Try.pinned (OpenSpec.ofChange fnExactSpillingWrong)

/-- 'laws.FnExactLayoutTree': WHATEVER THE INPUT: true; the input reads as it did. -/
def fnExactLayoutTreeSpec : ChangeSpec := { name := "fnExactLayoutTree", fn := fun _ => fun
  | [d1, d2, d3] => { results := [.lit (.bool true)], args := [d1, d2, d3] }
  | _ => none }
def fnExactLayoutTreeRow : OpenClaim := { program := "ytjaecgobgpfbdaa", sum := "05fc1699924cfba9aaa17841dc74f640be8dc1bdc0c5878ef9f0c4fcae8b1144", func := "loop.example/flexlayout/laws.FnExactLayoutTree", spec := "fnExactLayoutTree", unfollowed := true, recurses := true, apart := false }
def FnExactLayoutTreeSaid : Prop := fnExactLayoutTreeRow.holds Try.pinned (OpenSpec.ofChange fnExactLayoutTreeSpec)

/-- ITS FALSE NEIGHBOUR: 'it returns false'. Refute it at one input. -/
def fnExactLayoutTreeWrong : ChangeSpec := { name := "fnExactLayoutTree", fn := fun _ => fun
  | [d1, d2, d3] => { results := [.lit (.bool false)], args := [d1, d2, d3] }
  | _ => none }
def FnExactLayoutTreeWrongFalsely : Prop := fnExactLayoutTreeRow.holds Try.pinned (OpenSpec.ofChange fnExactLayoutTreeWrong)

/-- 'laws.FnExactValidTree': WHATEVER THE INPUT: true; the input reads as it did. -/
def fnExactValidTreeSpec : ChangeSpec := { name := "fnExactValidTree", fn := fun _ => fun
  | [d] => { results := [.lit (.bool true)], args := [d] }
  | _ => none }
def fnExactValidTreeRow : OpenClaim := { program := "ytjaecgobgpfbdaa", sum := "05fc1699924cfba9aaa17841dc74f640be8dc1bdc0c5878ef9f0c4fcae8b1144", func := "loop.example/flexlayout/laws.FnExactValidTree", spec := "fnExactValidTree", apart := false }
def FnExactValidTreeSaid : Prop := fnExactValidTreeRow.holds Try.pinned (OpenSpec.ofChange fnExactValidTreeSpec)

/-- ITS FALSE NEIGHBOUR: 'it returns false'. Refute it at one input. -/
def fnExactValidTreeWrong : ChangeSpec := { name := "fnExactValidTree", fn := fun _ => fun
  | [d] => { results := [.lit (.bool false)], args := [d] }
  | _ => none }
def FnExactValidTreeWrongFalsely : Prop := fnExactValidTreeRow.holds Try.pinned (OpenSpec.ofChange fnExactValidTreeWrong)

/-- 'laws.FnExactDepthOf': WHATEVER THE INPUT: true; the input reads as it did. -/
def fnExactDepthOfSpec : ChangeSpec := { name := "fnExactDepthOf", fn := fun _ => fun
  | [d1, d2] => { results := [.lit (.bool true)], args := [d1, d2] }
  | _ => none }
def fnExactDepthOfRow : OpenClaim := { program := "ytjaecgobgpfbdaa", sum := "05fc1699924cfba9aaa17841dc74f640be8dc1bdc0c5878ef9f0c4fcae8b1144", func := "loop.example/flexlayout/laws.FnExactDepthOf", spec := "fnExactDepthOf", apart := false }
def FnExactDepthOfSaid : Prop := fnExactDepthOfRow.holds Try.pinned (OpenSpec.ofChange fnExactDepthOfSpec)

/-- ITS FALSE NEIGHBOUR: 'it returns false'. Refute it at one input. -/
def fnExactDepthOfWrong : ChangeSpec := { name := "fnExactDepthOf", fn := fun _ => fun
  | [d1, d2] => { results := [.lit (.bool false)], args := [d1, d2] }
  | _ => none }
def FnExactDepthOfWrongFalsely : Prop := fnExactDepthOfRow.holds Try.pinned (OpenSpec.ofChange fnExactDepthOfWrong)

/-- 'laws.FnExactIsAround': WHATEVER THE INPUT: true; the input reads as it did. -/
def fnExactIsAroundSpec : ChangeSpec := { name := "fnExactIsAround", fn := fun _ => fun
  | [d1, d2, d3] => { results := [.lit (.bool true)], args := [d1, d2, d3] }
  | _ => none }
def fnExactIsAroundRow : OpenClaim := { program := "ytjaecgobgpfbdaa", sum := "05fc1699924cfba9aaa17841dc74f640be8dc1bdc0c5878ef9f0c4fcae8b1144", func := "loop.example/flexlayout/laws.FnExactIsAround", spec := "fnExactIsAround", apart := false }
def FnExactIsAroundSaid : Prop := fnExactIsAroundRow.holds Try.pinned (OpenSpec.ofChange fnExactIsAroundSpec)

/-- ITS FALSE NEIGHBOUR: 'it returns false'. Refute it at one input. -/
def fnExactIsAroundWrong : ChangeSpec := { name := "fnExactIsAround", fn := fun _ => fun
  | [d1, d2, d3] => { results := [.lit (.bool false)], args := [d1, d2, d3] }
  | _ => none }
def FnExactIsAroundWrongFalsely : Prop := fnExactIsAroundRow.holds Try.pinned (OpenSpec.ofChange fnExactIsAroundWrong)

/-- 'laws.FnExactFitsIn': WHATEVER THE INPUT: true; the input reads as it did. -/
def fnExactFitsInSpec : ChangeSpec := { name := "fnExactFitsIn", fn := fun _ => fun
  | [d1, d2, d3] => { results := [.lit (.bool true)], args := [d1, d2, d3] }
  | _ => none }
def fnExactFitsInRow : OpenClaim := { program := "ytjaecgobgpfbdaa", sum := "05fc1699924cfba9aaa17841dc74f640be8dc1bdc0c5878ef9f0c4fcae8b1144", func := "loop.example/flexlayout/laws.FnExactFitsIn", spec := "fnExactFitsIn", recurses := true, apart := false }
def FnExactFitsInSaid : Prop := fnExactFitsInRow.holds Try.pinned (OpenSpec.ofChange fnExactFitsInSpec)

/-- ITS FALSE NEIGHBOUR: 'it returns false'. Refute it at one input. -/
def fnExactFitsInWrong : ChangeSpec := { name := "fnExactFitsIn", fn := fun _ => fun
  | [d1, d2, d3] => { results := [.lit (.bool false)], args := [d1, d2, d3] }
  | _ => none }
def FnExactFitsInWrongFalsely : Prop := fnExactFitsInRow.holds Try.pinned (OpenSpec.ofChange fnExactFitsInWrong)

/-- 'laws.FnExactNaturalSize': WHATEVER THE INPUT: true; the input reads as it did. -/
def fnExactNaturalSizeSpec : ChangeSpec := { name := "fnExactNaturalSize", fn := fun _ => fun
  | [d1, d2] => { results := [.lit (.bool true)], args := [d1, d2] }
  | _ => none }
def fnExactNaturalSizeRow : OpenClaim := { program := "ytjaecgobgpfbdaa", sum := "05fc1699924cfba9aaa17841dc74f640be8dc1bdc0c5878ef9f0c4fcae8b1144", func := "loop.example/flexlayout/laws.FnExactNaturalSize", spec := "fnExactNaturalSize", recurses := true, apart := false }
def FnExactNaturalSizeSaid : Prop := fnExactNaturalSizeRow.holds Try.pinned (OpenSpec.ofChange fnExactNaturalSizeSpec)

/-- ITS FALSE NEIGHBOUR: 'it returns false'. Refute it at one input. -/
def fnExactNaturalSizeWrong : ChangeSpec := { name := "fnExactNaturalSize", fn := fun _ => fun
  | [d1, d2] => { results := [.lit (.bool false)], args := [d1, d2] }
  | _ => none }
def FnExactNaturalSizeWrongFalsely : Prop := fnExactNaturalSizeRow.holds Try.pinned (OpenSpec.ofChange fnExactNaturalSizeWrong)

/-- 'laws.FnExactKidsOf': WHATEVER THE INPUT: true; the input reads as it did. -/
def fnExactKidsOfSpec : ChangeSpec := { name := "fnExactKidsOf", fn := fun _ => fun
  | [d1, d2] => { results := [.lit (.bool true)], args := [d1, d2] }
  | _ => none }
def fnExactKidsOfRow : OpenClaim := { program := "ytjaecgobgpfbdaa", sum := "05fc1699924cfba9aaa17841dc74f640be8dc1bdc0c5878ef9f0c4fcae8b1144", func := "loop.example/flexlayout/laws.FnExactKidsOf", spec := "fnExactKidsOf", apart := false }
def FnExactKidsOfSaid : Prop := fnExactKidsOfRow.holds Try.pinned (OpenSpec.ofChange fnExactKidsOfSpec)

/-- ITS FALSE NEIGHBOUR: 'it returns false'. Refute it at one input. -/
def fnExactKidsOfWrong : ChangeSpec := { name := "fnExactKidsOf", fn := fun _ => fun
  | [d1, d2] => { results := [.lit (.bool false)], args := [d1, d2] }
  | _ => none }
def FnExactKidsOfWrongFalsely : Prop := fnExactKidsOfRow.holds Try.pinned (OpenSpec.ofChange fnExactKidsOfWrong)

/-- 'laws.FnExactWidestKid': WHATEVER THE INPUT: true; the input reads as it did. -/
def fnExactWidestKidSpec : ChangeSpec := { name := "fnExactWidestKid", fn := fun _ => fun
  | [d1, d2] => { results := [.lit (.bool true)], args := [d1, d2] }
  | _ => none }
def fnExactWidestKidRow : OpenClaim := { program := "ytjaecgobgpfbdaa", sum := "05fc1699924cfba9aaa17841dc74f640be8dc1bdc0c5878ef9f0c4fcae8b1144", func := "loop.example/flexlayout/laws.FnExactWidestKid", spec := "fnExactWidestKid", recurses := true, apart := false }
def FnExactWidestKidSaid : Prop := fnExactWidestKidRow.holds Try.pinned (OpenSpec.ofChange fnExactWidestKidSpec)

/-- ITS FALSE NEIGHBOUR: 'it returns false'. Refute it at one input. -/
def fnExactWidestKidWrong : ChangeSpec := { name := "fnExactWidestKid", fn := fun _ => fun
  | [d1, d2] => { results := [.lit (.bool false)], args := [d1, d2] }
  | _ => none }
def FnExactWidestKidWrongFalsely : Prop := fnExactWidestKidRow.holds Try.pinned (OpenSpec.ofChange fnExactWidestKidWrong)

/-- 'laws.FnExactStyleBox': WHATEVER THE INPUT: true; the input reads as it did. -/
def fnExactStyleBoxSpec : ChangeSpec := { name := "fnExactStyleBox", fn := fun _ => fun
  | [d1, d2, d3] => { results := [.lit (.bool true)], args := [d1, d2, d3] }
  | _ => none }
def fnExactStyleBoxRow : OpenClaim := { program := "ytjaecgobgpfbdaa", sum := "05fc1699924cfba9aaa17841dc74f640be8dc1bdc0c5878ef9f0c4fcae8b1144", func := "loop.example/flexlayout/laws.FnExactStyleBox", spec := "fnExactStyleBox", apart := false }
def FnExactStyleBoxSaid : Prop := fnExactStyleBoxRow.holds Try.pinned (OpenSpec.ofChange fnExactStyleBoxSpec)

/-- ITS FALSE NEIGHBOUR: 'it returns false'. Refute it at one input. -/
def fnExactStyleBoxWrong : ChangeSpec := { name := "fnExactStyleBox", fn := fun _ => fun
  | [d1, d2, d3] => { results := [.lit (.bool false)], args := [d1, d2, d3] }
  | _ => none }
def FnExactStyleBoxWrongFalsely : Prop := fnExactStyleBoxRow.holds Try.pinned (OpenSpec.ofChange fnExactStyleBoxWrong)

/- THE SECOND FORM. 'bulk': how many values and letters a reading holds, each counted each time it is reached (what is shared counts as often as it is met; a slice's spare places count too). A statement '..UptoSaid' is the law's where the arguments, and the package variables that the reading takes, are together of bulk at most 1048576: NARROWER than '..Said'. Prove '..Said' where nothing that the law and all that it calls make is longer than what came in: it says more and counts as full. Else prove '..UptoSaid'. A law counts once. -/
mutual
def uptoBulk {H : Type} : DataW H → Nat
  | .lit (.string bytes) => bytes.length + 1
  | .lit _ => 1
  | .nil => 1
  | .ptr d => uptoBulk d + 1
  | .slice elems spare => uptoBulkAll elems + uptoBulkAll spare + 1
  | .agg parts => uptoBulkAll parts + 1
  | .iface _ d => uptoBulk d + 1
  | .map entries => uptoBulkEntries entries + 1
  | .held _ => 1
def uptoBulkAll {H : Type} : List (DataW H) → Nat
  | [] => 0
  | d :: r => uptoBulk d + uptoBulkAll r
def uptoBulkEntries {H : Type} : List (Lit × DataW H) → Nat
  | [] => 0
  | x :: r => uptoBulkEntry x + uptoBulkEntries r
def uptoBulkEntry {H : Type} : Lit × DataW H → Nat
  | (.string bytes, d) => bytes.length + uptoBulk d + 1
  | (_, d) => uptoBulk d + 1
 end
def uptoSmall : (H : Type) → List (DataW H) → Bool := fun _ ds => decide (uptoBulkAll ds ≤ 1048576)
def OpenSpec.upto (s : _root_.Go.ChangeSpec) : _root_.Go.OpenSpec := { _root_.Go.OpenSpec.ofChange s with cond := some uptoSmall }

/-- 'laws.FnExactRectOf', WHERE WHAT IT READS IS OF BULK AT MOST 1048576: true; the input reads as it did. -/
def fnExactRectOfUptoRow : OpenClaim := { program := "ytjaecgobgpfbdaa", sum := "05fc1699924cfba9aaa17841dc74f640be8dc1bdc0c5878ef9f0c4fcae8b1144", func := "loop.example/flexlayout/laws.FnExactRectOf", spec := "fnExactRectOf", unfollowed := true, recurses := true, apart := false, narrowed := true }
def FnExactRectOfUptoSaid : Prop := fnExactRectOfUptoRow.holds Try.pinned (OpenSpec.upto fnExactRectOfSpec)

/-- 'laws.FnExactSpilling', WHERE WHAT IT READS IS OF BULK AT MOST 1048576: true; the input reads as it did. -/
def fnExactSpillingUptoRow : OpenClaim := { program := "ytjaecgobgpfbdaa", sum := "05fc1699924cfba9aaa17841dc74f640be8dc1bdc0c5878ef9f0c4fcae8b1144", func := "loop.example/flexlayout/laws.FnExactSpilling", spec := "fnExactSpilling", unfollowed := true, recurses := true, apart := false, narrowed := true }
def FnExactSpillingUptoSaid : Prop := fnExactSpillingUptoRow.holds Try.pinned (OpenSpec.upto fnExactSpillingSpec)

/-- 'laws.FnExactLayoutTree', WHERE WHAT IT READS IS OF BULK AT MOST 1048576: true; the input reads as it did. -/
def fnExactLayoutTreeUptoRow : OpenClaim := { program := "ytjaecgobgpfbdaa", sum := "05fc1699924cfba9aaa17841dc74f640be8dc1bdc0c5878ef9f0c4fcae8b1144", func := "loop.example/flexlayout/laws.FnExactLayoutTree", spec := "fnExactLayoutTree", unfollowed := true, recurses := true, apart := false, narrowed := true }
def FnExactLayoutTreeUptoSaid : Prop := fnExactLayoutTreeUptoRow.holds Try.pinned (OpenSpec.upto fnExactLayoutTreeSpec)

/-- 'laws.FnExactValidTree', WHERE WHAT IT READS IS OF BULK AT MOST 1048576: true; the input reads as it did. -/
def fnExactValidTreeUptoRow : OpenClaim := { program := "ytjaecgobgpfbdaa", sum := "05fc1699924cfba9aaa17841dc74f640be8dc1bdc0c5878ef9f0c4fcae8b1144", func := "loop.example/flexlayout/laws.FnExactValidTree", spec := "fnExactValidTree", apart := false, narrowed := true }
def FnExactValidTreeUptoSaid : Prop := fnExactValidTreeUptoRow.holds Try.pinned (OpenSpec.upto fnExactValidTreeSpec)

/-- 'laws.FnExactDepthOf', WHERE WHAT IT READS IS OF BULK AT MOST 1048576: true; the input reads as it did. -/
def fnExactDepthOfUptoRow : OpenClaim := { program := "ytjaecgobgpfbdaa", sum := "05fc1699924cfba9aaa17841dc74f640be8dc1bdc0c5878ef9f0c4fcae8b1144", func := "loop.example/flexlayout/laws.FnExactDepthOf", spec := "fnExactDepthOf", apart := false, narrowed := true }
def FnExactDepthOfUptoSaid : Prop := fnExactDepthOfUptoRow.holds Try.pinned (OpenSpec.upto fnExactDepthOfSpec)

/-- 'laws.FnExactIsAround', WHERE WHAT IT READS IS OF BULK AT MOST 1048576: true; the input reads as it did. -/
def fnExactIsAroundUptoRow : OpenClaim := { program := "ytjaecgobgpfbdaa", sum := "05fc1699924cfba9aaa17841dc74f640be8dc1bdc0c5878ef9f0c4fcae8b1144", func := "loop.example/flexlayout/laws.FnExactIsAround", spec := "fnExactIsAround", apart := false, narrowed := true }
def FnExactIsAroundUptoSaid : Prop := fnExactIsAroundUptoRow.holds Try.pinned (OpenSpec.upto fnExactIsAroundSpec)

/-- 'laws.FnExactFitsIn', WHERE WHAT IT READS IS OF BULK AT MOST 1048576: true; the input reads as it did. -/
def fnExactFitsInUptoRow : OpenClaim := { program := "ytjaecgobgpfbdaa", sum := "05fc1699924cfba9aaa17841dc74f640be8dc1bdc0c5878ef9f0c4fcae8b1144", func := "loop.example/flexlayout/laws.FnExactFitsIn", spec := "fnExactFitsIn", recurses := true, apart := false, narrowed := true }
def FnExactFitsInUptoSaid : Prop := fnExactFitsInUptoRow.holds Try.pinned (OpenSpec.upto fnExactFitsInSpec)

/-- 'laws.FnExactNaturalSize', WHERE WHAT IT READS IS OF BULK AT MOST 1048576: true; the input reads as it did. -/
def fnExactNaturalSizeUptoRow : OpenClaim := { program := "ytjaecgobgpfbdaa", sum := "05fc1699924cfba9aaa17841dc74f640be8dc1bdc0c5878ef9f0c4fcae8b1144", func := "loop.example/flexlayout/laws.FnExactNaturalSize", spec := "fnExactNaturalSize", recurses := true, apart := false, narrowed := true }
def FnExactNaturalSizeUptoSaid : Prop := fnExactNaturalSizeUptoRow.holds Try.pinned (OpenSpec.upto fnExactNaturalSizeSpec)

/-- 'laws.FnExactKidsOf', WHERE WHAT IT READS IS OF BULK AT MOST 1048576: true; the input reads as it did. -/
def fnExactKidsOfUptoRow : OpenClaim := { program := "ytjaecgobgpfbdaa", sum := "05fc1699924cfba9aaa17841dc74f640be8dc1bdc0c5878ef9f0c4fcae8b1144", func := "loop.example/flexlayout/laws.FnExactKidsOf", spec := "fnExactKidsOf", apart := false, narrowed := true }
def FnExactKidsOfUptoSaid : Prop := fnExactKidsOfUptoRow.holds Try.pinned (OpenSpec.upto fnExactKidsOfSpec)

/-- 'laws.FnExactWidestKid', WHERE WHAT IT READS IS OF BULK AT MOST 1048576: true; the input reads as it did. -/
def fnExactWidestKidUptoRow : OpenClaim := { program := "ytjaecgobgpfbdaa", sum := "05fc1699924cfba9aaa17841dc74f640be8dc1bdc0c5878ef9f0c4fcae8b1144", func := "loop.example/flexlayout/laws.FnExactWidestKid", spec := "fnExactWidestKid", recurses := true, apart := false, narrowed := true }
def FnExactWidestKidUptoSaid : Prop := fnExactWidestKidUptoRow.holds Try.pinned (OpenSpec.upto fnExactWidestKidSpec)

/-- 'laws.FnExactStyleBox', WHERE WHAT IT READS IS OF BULK AT MOST 1048576: true; the input reads as it did. -/
def fnExactStyleBoxUptoRow : OpenClaim := { program := "ytjaecgobgpfbdaa", sum := "05fc1699924cfba9aaa17841dc74f640be8dc1bdc0c5878ef9f0c4fcae8b1144", func := "loop.example/flexlayout/laws.FnExactStyleBox", spec := "fnExactStyleBox", apart := false, narrowed := true }
def FnExactStyleBoxUptoSaid : Prop := fnExactStyleBoxUptoRow.holds Try.pinned (OpenSpec.upto fnExactStyleBoxSpec)

end Rows
end Go.Proofs.Ytjaecgobgpfbdaa
