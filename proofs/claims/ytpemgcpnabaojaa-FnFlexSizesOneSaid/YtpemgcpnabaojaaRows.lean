/-
  No cell of these rows narrows 'for every input' (looked for: loops, veiled, ifaces, maps, wideKeys, modest, calm, conditions, laid).
  DERIVED. THE GIVEN ROWS OF THIS SEAT. 10 by the template 'for every input the law returns true; each argument reads behind the call as it read before'; 0 by the template 'total and deterministic' (their statements: YtpemgcpnabaojaaTotals.lean).
  GIVEN WITH THE SEED: the statements are not yours to turn. If you find one false, say at which input.
  Laid BY PROGRAM, IN A SANDBOX (cutbox-rows.mjs): the forced cells as the released guide's own fill.sh prints them over the translation 9c2fd3105f94d8c9… (all of the seat's roots in one cut). By AI agents, Wed Nov 11 2026. No macro, syntax, notation, axiom, sorry.
-/
import Derived.Test.YtpemgcpnabaojaaChecked
import GoSem.Claim
import GoSem.ClaimJoined
import GoSem.ClaimMapViews
import Derived.JoinedTies
import Derived.KernelRfl
namespace Go.Proofs.Ytpemgcpnabaojaa
/- THE CELL 'sum', in the pinned program and in every row, IS THE sha256 OF THE DUMP (.gsa) THAT YtpemgcpnabaojaaProg.lean LOADS. Nothing in Lean hashes anything: it is a label: what it is worth is what the hold of that sum in a sandbox is worth. -/
noncomputable def Try.pinned : Pinned := { name := "ytpemgcpnabaojaa", sum := "9c2fd3105f94d8c94788515dd8d42a48885851bed6684ac4766be964b52f375a", checked := Try.checked }
namespace Rows
def none {H : Type} : Left H := { results := [], args := [] }

/-- 'laws.FnLeftOverGrow': WHATEVER THE INPUT: true; the input reads as it did. -/
def fnLeftOverGrowSpec : ChangeSpec := { name := "fnLeftOverGrow", fn := fun _ => fun
  | [d] => { results := [.lit (.bool true)], args := [d] }
  | _ => none }
def fnLeftOverGrowRow : OpenClaim := { program := "ytpemgcpnabaojaa", sum := "9c2fd3105f94d8c94788515dd8d42a48885851bed6684ac4766be964b52f375a", func := "loop.example/flexlayout/laws.FnLeftOverGrow", spec := "fnLeftOverGrow", unfollowed := true, recurses := true, apart := false }
def FnLeftOverGrowSaid : Prop := fnLeftOverGrowRow.holds Try.pinned (OpenSpec.ofChange fnLeftOverGrowSpec)

/-- ITS FALSE NEIGHBOUR: 'it returns false'. Refute it at one input. -/
def fnLeftOverGrowWrong : ChangeSpec := { name := "fnLeftOverGrow", fn := fun _ => fun
  | [d] => { results := [.lit (.bool false)], args := [d] }
  | _ => none }
def FnLeftOverGrowWrongFalsely : Prop := fnLeftOverGrowRow.holds Try.pinned (OpenSpec.ofChange fnLeftOverGrowWrong)

/-- 'laws.FnExactLeftOver': WHATEVER THE INPUT: true; the input reads as it did. -/
def fnExactLeftOverSpec : ChangeSpec := { name := "fnExactLeftOver", fn := fun _ => fun
  | [d1, d2] => { results := [.lit (.bool true)], args := [d1, d2] }
  | _ => none }
def fnExactLeftOverRow : OpenClaim := { program := "ytpemgcpnabaojaa", sum := "9c2fd3105f94d8c94788515dd8d42a48885851bed6684ac4766be964b52f375a", func := "loop.example/flexlayout/laws.FnExactLeftOver", spec := "fnExactLeftOver", unfollowed := true, recurses := true, apart := false }
def FnExactLeftOverSaid : Prop := fnExactLeftOverRow.holds Try.pinned (OpenSpec.ofChange fnExactLeftOverSpec)

/-- ITS FALSE NEIGHBOUR: 'it returns false'. Refute it at one input. -/
def fnExactLeftOverWrong : ChangeSpec := { name := "fnExactLeftOver", fn := fun _ => fun
  | [d1, d2] => { results := [.lit (.bool false)], args := [d1, d2] }
  | _ => none }
def FnExactLeftOverWrongFalsely : Prop := fnExactLeftOverRow.holds Try.pinned (OpenSpec.ofChange fnExactLeftOverWrong)

/-- 'laws.FnFlexSizes': WHATEVER THE INPUT: true; the input reads as it did. -/
def fnFlexSizesSpec : ChangeSpec := { name := "fnFlexSizes", fn := fun _ => fun
  | [d] => { results := [.lit (.bool true)], args := [d] }
  | _ => none }
def fnFlexSizesRow : OpenClaim := { program := "ytpemgcpnabaojaa", sum := "9c2fd3105f94d8c94788515dd8d42a48885851bed6684ac4766be964b52f375a", func := "loop.example/flexlayout/laws.FnFlexSizes", spec := "fnFlexSizes", unfollowed := true, recurses := true, apart := false }
def FnFlexSizesSaid : Prop := fnFlexSizesRow.holds Try.pinned (OpenSpec.ofChange fnFlexSizesSpec)

/-- ITS FALSE NEIGHBOUR: 'it returns false'. Refute it at one input. -/
def fnFlexSizesWrong : ChangeSpec := { name := "fnFlexSizes", fn := fun _ => fun
  | [d] => { results := [.lit (.bool false)], args := [d] }
  | _ => none }
def FnFlexSizesWrongFalsely : Prop := fnFlexSizesRow.holds Try.pinned (OpenSpec.ofChange fnFlexSizesWrong)

/-- 'laws.FnFlexSizesOne': WHATEVER THE INPUT: true; the input reads as it did. -/
def fnFlexSizesOneSpec : ChangeSpec := { name := "fnFlexSizesOne", fn := fun _ => fun
  | [d] => { results := [.lit (.bool true)], args := [d] }
  | _ => none }
def fnFlexSizesOneRow : OpenClaim := { program := "ytpemgcpnabaojaa", sum := "9c2fd3105f94d8c94788515dd8d42a48885851bed6684ac4766be964b52f375a", func := "loop.example/flexlayout/laws.FnFlexSizesOne", spec := "fnFlexSizesOne", unfollowed := true, recurses := true, apart := false }
def FnFlexSizesOneSaid : Prop := fnFlexSizesOneRow.holds Try.pinned (OpenSpec.ofChange fnFlexSizesOneSpec)

/-- ITS FALSE NEIGHBOUR: 'it returns false'. Refute it at one input. -/
def fnFlexSizesOneWrong : ChangeSpec := { name := "fnFlexSizesOne", fn := fun _ => fun
  | [d] => { results := [.lit (.bool false)], args := [d] }
  | _ => none }
def FnFlexSizesOneWrongFalsely : Prop := fnFlexSizesOneRow.holds Try.pinned (OpenSpec.ofChange fnFlexSizesOneWrong)

/-- 'laws.FnFlexSizesStiff': WHATEVER THE INPUT: true; the input reads as it did. -/
def fnFlexSizesStiffSpec : ChangeSpec := { name := "fnFlexSizesStiff", fn := fun _ => fun
  | [d] => { results := [.lit (.bool true)], args := [d] }
  | _ => none }
def fnFlexSizesStiffRow : OpenClaim := { program := "ytpemgcpnabaojaa", sum := "9c2fd3105f94d8c94788515dd8d42a48885851bed6684ac4766be964b52f375a", func := "loop.example/flexlayout/laws.FnFlexSizesStiff", spec := "fnFlexSizesStiff", unfollowed := true, recurses := true, apart := false }
def FnFlexSizesStiffSaid : Prop := fnFlexSizesStiffRow.holds Try.pinned (OpenSpec.ofChange fnFlexSizesStiffSpec)

/-- ITS FALSE NEIGHBOUR: 'it returns false'. Refute it at one input. -/
def fnFlexSizesStiffWrong : ChangeSpec := { name := "fnFlexSizesStiff", fn := fun _ => fun
  | [d] => { results := [.lit (.bool false)], args := [d] }
  | _ => none }
def FnFlexSizesStiffWrongFalsely : Prop := fnFlexSizesStiffRow.holds Try.pinned (OpenSpec.ofChange fnFlexSizesStiffWrong)

/-- 'laws.FnLeftOver': WHATEVER THE INPUT: true; the input reads as it did. -/
def fnLeftOverSpec : ChangeSpec := { name := "fnLeftOver", fn := fun _ => fun
  | [d] => { results := [.lit (.bool true)], args := [d] }
  | _ => none }
def fnLeftOverRow : OpenClaim := { program := "ytpemgcpnabaojaa", sum := "9c2fd3105f94d8c94788515dd8d42a48885851bed6684ac4766be964b52f375a", func := "loop.example/flexlayout/laws.FnLeftOver", spec := "fnLeftOver", unfollowed := true, recurses := true, apart := false }
def FnLeftOverSaid : Prop := fnLeftOverRow.holds Try.pinned (OpenSpec.ofChange fnLeftOverSpec)

/-- ITS FALSE NEIGHBOUR: 'it returns false'. Refute it at one input. -/
def fnLeftOverWrong : ChangeSpec := { name := "fnLeftOver", fn := fun _ => fun
  | [d] => { results := [.lit (.bool false)], args := [d] }
  | _ => none }
def FnLeftOverWrongFalsely : Prop := fnLeftOverRow.holds Try.pinned (OpenSpec.ofChange fnLeftOverWrong)

/-- 'laws.FnFlexSizesBase': WHATEVER THE INPUT: true; the input reads as it did. -/
def fnFlexSizesBaseSpec : ChangeSpec := { name := "fnFlexSizesBase", fn := fun _ => fun
  | [d] => { results := [.lit (.bool true)], args := [d] }
  | _ => none }
def fnFlexSizesBaseRow : OpenClaim := { program := "ytpemgcpnabaojaa", sum := "9c2fd3105f94d8c94788515dd8d42a48885851bed6684ac4766be964b52f375a", func := "loop.example/flexlayout/laws.FnFlexSizesBase", spec := "fnFlexSizesBase", unfollowed := true, recurses := true, apart := false }
def FnFlexSizesBaseSaid : Prop := fnFlexSizesBaseRow.holds Try.pinned (OpenSpec.ofChange fnFlexSizesBaseSpec)

/-- ITS FALSE NEIGHBOUR: 'it returns false'. Refute it at one input. -/
def fnFlexSizesBaseWrong : ChangeSpec := { name := "fnFlexSizesBase", fn := fun _ => fun
  | [d] => { results := [.lit (.bool false)], args := [d] }
  | _ => none }
def FnFlexSizesBaseWrongFalsely : Prop := fnFlexSizesBaseRow.holds Try.pinned (OpenSpec.ofChange fnFlexSizesBaseWrong)

/-- 'laws.FnFlexSizesFill': WHATEVER THE INPUT: true; the input reads as it did. -/
def fnFlexSizesFillSpec : ChangeSpec := { name := "fnFlexSizesFill", fn := fun _ => fun
  | [d] => { results := [.lit (.bool true)], args := [d] }
  | _ => none }
def fnFlexSizesFillRow : OpenClaim := { program := "ytpemgcpnabaojaa", sum := "9c2fd3105f94d8c94788515dd8d42a48885851bed6684ac4766be964b52f375a", func := "loop.example/flexlayout/laws.FnFlexSizesFill", spec := "fnFlexSizesFill", unfollowed := true, recurses := true, apart := false }
def FnFlexSizesFillSaid : Prop := fnFlexSizesFillRow.holds Try.pinned (OpenSpec.ofChange fnFlexSizesFillSpec)

/-- ITS FALSE NEIGHBOUR: 'it returns false'. Refute it at one input. -/
def fnFlexSizesFillWrong : ChangeSpec := { name := "fnFlexSizesFill", fn := fun _ => fun
  | [d] => { results := [.lit (.bool false)], args := [d] }
  | _ => none }
def FnFlexSizesFillWrongFalsely : Prop := fnFlexSizesFillRow.holds Try.pinned (OpenSpec.ofChange fnFlexSizesFillWrong)

/-- 'laws.FnFlexSizesMore': WHATEVER THE INPUT: true; the input reads as it did. -/
def fnFlexSizesMoreSpec : ChangeSpec := { name := "fnFlexSizesMore", fn := fun _ => fun
  | [d] => { results := [.lit (.bool true)], args := [d] }
  | _ => none }
def fnFlexSizesMoreRow : OpenClaim := { program := "ytpemgcpnabaojaa", sum := "9c2fd3105f94d8c94788515dd8d42a48885851bed6684ac4766be964b52f375a", func := "loop.example/flexlayout/laws.FnFlexSizesMore", spec := "fnFlexSizesMore", unfollowed := true, recurses := true, apart := false }
def FnFlexSizesMoreSaid : Prop := fnFlexSizesMoreRow.holds Try.pinned (OpenSpec.ofChange fnFlexSizesMoreSpec)

/-- ITS FALSE NEIGHBOUR: 'it returns false'. Refute it at one input. -/
def fnFlexSizesMoreWrong : ChangeSpec := { name := "fnFlexSizesMore", fn := fun _ => fun
  | [d] => { results := [.lit (.bool false)], args := [d] }
  | _ => none }
def FnFlexSizesMoreWrongFalsely : Prop := fnFlexSizesMoreRow.holds Try.pinned (OpenSpec.ofChange fnFlexSizesMoreWrong)

/-- 'laws.FnExactFlexSizes': WHATEVER THE INPUT: true; the input reads as it did. -/
def fnExactFlexSizesSpec : ChangeSpec := { name := "fnExactFlexSizes", fn := fun _ => fun
  | [d1, d2] => { results := [.lit (.bool true)], args := [d1, d2] }
  | _ => none }
def fnExactFlexSizesRow : OpenClaim := { program := "ytpemgcpnabaojaa", sum := "9c2fd3105f94d8c94788515dd8d42a48885851bed6684ac4766be964b52f375a", func := "loop.example/flexlayout/laws.FnExactFlexSizes", spec := "fnExactFlexSizes", unfollowed := true, recurses := true, apart := false }
def FnExactFlexSizesSaid : Prop := fnExactFlexSizesRow.holds Try.pinned (OpenSpec.ofChange fnExactFlexSizesSpec)

/-- ITS FALSE NEIGHBOUR: 'it returns false'. Refute it at one input. -/
def fnExactFlexSizesWrong : ChangeSpec := { name := "fnExactFlexSizes", fn := fun _ => fun
  | [d1, d2] => { results := [.lit (.bool false)], args := [d1, d2] }
  | _ => none }
def FnExactFlexSizesWrongFalsely : Prop := fnExactFlexSizesRow.holds Try.pinned (OpenSpec.ofChange fnExactFlexSizesWrong)

/- THE SECOND FORM. 'bulk': how many values and letters a reading holds, each counted each time it is reached (what is shared counts as often as it is met; a slice's spare places count too). A statement '..UptoSaid' is the law's where the arguments, and the package variables that the reading takes, are together of bulk at most 1048576: NARROWER than '..Said'. Prove '..Said' where nothing that the law and all that it calls make is longer than what came in: it says more and counts as full. Else prove '..UptoSaid'. A law counts once. -/
mutual
def uptoBulk {H : Type} : DataW H → Nat
  | .lit (.string bytes) => bytes.length + 1
  | .lit _ => 1
  | .nil => 1
  | .ptr d => uptoBulk d + 1
  | .slice elems spare => uptoBulkAll elems + uptoBulkAll spare + 1
  | .agg parts => uptoBulkAll parts + 1
  | .iface _ d => uptoBulk d + 1
  | .map entries => uptoBulkEntries entries + 1
  | .held _ => 1
def uptoBulkAll {H : Type} : List (DataW H) → Nat
  | [] => 0
  | d :: r => uptoBulk d + uptoBulkAll r
def uptoBulkEntries {H : Type} : List (Lit × DataW H) → Nat
  | [] => 0
  | x :: r => uptoBulkEntry x + uptoBulkEntries r
def uptoBulkEntry {H : Type} : Lit × DataW H → Nat
  | (.string bytes, d) => bytes.length + uptoBulk d + 1
  | (_, d) => uptoBulk d + 1
 end
def uptoSmall : (H : Type) → List (DataW H) → Bool := fun _ ds => decide (uptoBulkAll ds ≤ 1048576)
def OpenSpec.upto (s : _root_.Go.ChangeSpec) : _root_.Go.OpenSpec := { _root_.Go.OpenSpec.ofChange s with cond := some uptoSmall }

/-- 'laws.FnLeftOverGrow', WHERE WHAT IT READS IS OF BULK AT MOST 1048576: true; the input reads as it did. -/
def fnLeftOverGrowUptoRow : OpenClaim := { program := "ytpemgcpnabaojaa", sum := "9c2fd3105f94d8c94788515dd8d42a48885851bed6684ac4766be964b52f375a", func := "loop.example/flexlayout/laws.FnLeftOverGrow", spec := "fnLeftOverGrow", unfollowed := true, recurses := true, apart := false, narrowed := true }
def FnLeftOverGrowUptoSaid : Prop := fnLeftOverGrowUptoRow.holds Try.pinned (OpenSpec.upto fnLeftOverGrowSpec)

/-- 'laws.FnExactLeftOver', WHERE WHAT IT READS IS OF BULK AT MOST 1048576: true; the input reads as it did. -/
def fnExactLeftOverUptoRow : OpenClaim := { program := "ytpemgcpnabaojaa", sum := "9c2fd3105f94d8c94788515dd8d42a48885851bed6684ac4766be964b52f375a", func := "loop.example/flexlayout/laws.FnExactLeftOver", spec := "fnExactLeftOver", unfollowed := true, recurses := true, apart := false, narrowed := true }
def FnExactLeftOverUptoSaid : Prop := fnExactLeftOverUptoRow.holds Try.pinned (OpenSpec.upto fnExactLeftOverSpec)

/-- 'laws.FnFlexSizes', WHERE WHAT IT READS IS OF BULK AT MOST 1048576: true; the input reads as it did. -/
def fnFlexSizesUptoRow : OpenClaim := { program := "ytpemgcpnabaojaa", sum := "9c2fd3105f94d8c94788515dd8d42a48885851bed6684ac4766be964b52f375a", func := "loop.example/flexlayout/laws.FnFlexSizes", spec := "fnFlexSizes", unfollowed := true, recurses := true, apart := false, narrowed := true }
def FnFlexSizesUptoSaid : Prop := fnFlexSizesUptoRow.holds Try.pinned (OpenSpec.upto fnFlexSizesSpec)

/-- 'laws.FnFlexSizesOne', WHERE WHAT IT READS IS OF BULK AT MOST 1048576: true; the input reads as it did. -/
def fnFlexSizesOneUptoRow : OpenClaim := { program := "ytpemgcpnabaojaa", sum := "9c2fd3105f94d8c94788515dd8d42a48885851bed6684ac4766be964b52f375a", func := "loop.example/flexlayout/laws.FnFlexSizesOne", spec := "fnFlexSizesOne", unfollowed := true, recurses := true, apart := false, narrowed := true }
def FnFlexSizesOneUptoSaid : Prop := fnFlexSizesOneUptoRow.holds Try.pinned (OpenSpec.upto fnFlexSizesOneSpec)

/-- 'laws.FnFlexSizesStiff', WHERE WHAT IT READS IS OF BULK AT MOST 1048576: true; the input reads as it did. -/
def fnFlexSizesStiffUptoRow : OpenClaim := { program := "ytpemgcpnabaojaa", sum := "9c2fd3105f94d8c94788515dd8d42a48885851bed6684ac4766be964b52f375a", func := "loop.example/flexlayout/laws.FnFlexSizesStiff", spec := "fnFlexSizesStiff", unfollowed := true, recurses := true, apart := false, narrowed := true }
def FnFlexSizesStiffUptoSaid : Prop := fnFlexSizesStiffUptoRow.holds Try.pinned (OpenSpec.upto fnFlexSizesStiffSpec)

/-- 'laws.FnLeftOver', WHERE WHAT IT READS IS OF BULK AT MOST 1048576: true; the input reads as it did. -/
def fnLeftOverUptoRow : OpenClaim := { program := "ytpemgcpnabaojaa", sum := "9c2fd3105f94d8c94788515dd8d42a48885851bed6684ac4766be964b52f375a", func := "loop.example/flexlayout/laws.FnLeftOver", spec := "fnLeftOver", unfollowed := true, recurses := true, apart := false, narrowed := true }
def FnLeftOverUptoSaid : Prop := fnLeftOverUptoRow.holds Try.pinned (OpenSpec.upto fnLeftOverSpec)

/-- 'laws.FnFlexSizesBase', WHERE WHAT IT READS IS OF BULK AT MOST 1048576: true; the input reads as it did. -/
def fnFlexSizesBaseUptoRow : OpenClaim := { program := "ytpemgcpnabaojaa", sum := "9c2fd3105f94d8c94788515dd8d42a48885851bed6684ac4766be964b52f375a", func := "loop.example/flexlayout/laws.FnFlexSizesBase", spec := "fnFlexSizesBase", unfollowed := true, recurses := true, apart := false, narrowed := true }
def FnFlexSizesBaseUptoSaid : Prop := fnFlexSizesBaseUptoRow.holds Try.pinned (OpenSpec.upto fnFlexSizesBaseSpec)

/-- 'laws.FnFlexSizesFill', WHERE WHAT IT READS IS OF BULK AT MOST 1048576: true; the input reads as it did. -/
def fnFlexSizesFillUptoRow : OpenClaim := { program := "ytpemgcpnabaojaa", sum := "9c2fd3105f94d8c94788515dd8d42a48885851bed6684ac4766be964b52f375a", func := "loop.example/flexlayout/laws.FnFlexSizesFill", spec := "fnFlexSizesFill", unfollowed := true, recurses := true, apart := false, narrowed := true }
def FnFlexSizesFillUptoSaid : Prop := fnFlexSizesFillUptoRow.holds Try.pinned (OpenSpec.upto fnFlexSizesFillSpec)

/-- 'laws.FnFlexSizesMore', WHERE WHAT IT READS IS OF BULK AT MOST 1048576: true; the input reads as it did. -/
def fnFlexSizesMoreUptoRow : OpenClaim := { program := "ytpemgcpnabaojaa", sum := "9c2fd3105f94d8c94788515dd8d42a48885851bed6684ac4766be964b52f375a", func := "loop.example/flexlayout/laws.FnFlexSizesMore", spec := "fnFlexSizesMore", unfollowed := true, recurses := true, apart := false, narrowed := true }
def FnFlexSizesMoreUptoSaid : Prop := fnFlexSizesMoreUptoRow.holds Try.pinned (OpenSpec.upto fnFlexSizesMoreSpec)

/-- 'laws.FnExactFlexSizes', WHERE WHAT IT READS IS OF BULK AT MOST 1048576: true; the input reads as it did. -/
def fnExactFlexSizesUptoRow : OpenClaim := { program := "ytpemgcpnabaojaa", sum := "9c2fd3105f94d8c94788515dd8d42a48885851bed6684ac4766be964b52f375a", func := "loop.example/flexlayout/laws.FnExactFlexSizes", spec := "fnExactFlexSizes", unfollowed := true, recurses := true, apart := false, narrowed := true }
def FnExactFlexSizesUptoSaid : Prop := fnExactFlexSizesUptoRow.holds Try.pinned (OpenSpec.upto fnExactFlexSizesSpec)

end Rows
end Go.Proofs.Ytpemgcpnabaojaa
