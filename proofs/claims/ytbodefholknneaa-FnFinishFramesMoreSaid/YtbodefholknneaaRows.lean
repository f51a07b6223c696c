/-
  No cell of these rows narrows 'for every input' (looked for: loops, veiled, ifaces, maps, wideKeys, modest, calm, conditions, laid).
  DERIVED. THE GIVEN ROWS OF THIS SEAT. 11 by the template 'for every input the law returns true; each argument reads behind the call as it read before'; 0 by the template 'total and deterministic' (their statements: YtbodefholknneaaTotals.lean).
  GIVEN WITH THE SEED: the statements are not yours to turn. If you find one false, say at which input.
  Laid BY PROGRAM, IN A SANDBOX (cutbox-rows.mjs): the forced cells as the released guide's own fill.sh prints them over the translation ef8fbb1d4e819bcd… (all of the seat's roots in one cut). By AI agents, Wed Nov 11 2026. No macro, syntax, notation, axiom, sorry.
-/
import Derived.Test.YtbodefholknneaaChecked
import GoSem.Claim
import GoSem.ClaimJoined
import GoSem.ClaimMapViews
import Derived.JoinedTies
import Derived.KernelRfl
namespace Go.Proofs.Ytbodefholknneaa
/- THE CELL 'sum', in the pinned program and in every row, IS THE sha256 OF THE DUMP (.gsa) THAT YtbodefholknneaaProg.lean LOADS. Nothing in Lean hashes anything: it is a label: what it is worth is what the hold of that sum in a sandbox is worth. -/
noncomputable def Try.pinned : Pinned := { name := "ytbodefholknneaa", sum := "ef8fbb1d4e819bcdead93bcb94fbe5e53369332513d1e9e6473fba6c68321415", checked := Try.checked }
namespace Rows
def none {H : Type} : Left H := { results := [], args := [] }

/-- 'laws.FnExactFramesNeeded': WHATEVER THE INPUT: true; the input reads as it did. -/
def fnExactFramesNeededSpec : ChangeSpec := { name := "fnExactFramesNeeded", fn := fun _ => fun
  | [d1, d2] => { results := [.lit (.bool true)], args := [d1, d2] }
  | _ => none }
def fnExactFramesNeededRow : OpenClaim := { program := "ytbodefholknneaa", sum := "ef8fbb1d4e819bcdead93bcb94fbe5e53369332513d1e9e6473fba6c68321415", func := "loop.example/flexlayout/laws.FnExactFramesNeeded", spec := "fnExactFramesNeeded", unfollowed := true, recurses := true, apart := false }
def FnExactFramesNeededSaid : Prop := fnExactFramesNeededRow.holds Try.pinned (OpenSpec.ofChange fnExactFramesNeededSpec)

/-- ITS FALSE NEIGHBOUR: 'it returns false'. Refute it at one input. -/
def fnExactFramesNeededWrong : ChangeSpec := { name := "fnExactFramesNeeded", fn := fun _ => fun
  | [d1, d2] => { results := [.lit (.bool false)], args := [d1, d2] }
  | _ => none }
def FnExactFramesNeededWrongFalsely : Prop := fnExactFramesNeededRow.holds Try.pinned (OpenSpec.ofChange fnExactFramesNeededWrong)

/-- 'laws.FnExactIdleTime': WHATEVER THE INPUT: true; the input reads as it did. -/
def fnExactIdleTimeSpec : ChangeSpec := { name := "fnExactIdleTime", fn := fun _ => fun
  | [d1, d2] => { results := [.lit (.bool true)], args := [d1, d2] }
  | _ => none }
def fnExactIdleTimeRow : OpenClaim := { program := "ytbodefholknneaa", sum := "ef8fbb1d4e819bcdead93bcb94fbe5e53369332513d1e9e6473fba6c68321415", func := "loop.example/flexlayout/laws.FnExactIdleTime", spec := "fnExactIdleTime", unfollowed := true, recurses := true, apart := false }
def FnExactIdleTimeSaid : Prop := fnExactIdleTimeRow.holds Try.pinned (OpenSpec.ofChange fnExactIdleTimeSpec)

/-- ITS FALSE NEIGHBOUR: 'it returns false'. Refute it at one input. -/
def fnExactIdleTimeWrong : ChangeSpec := { name := "fnExactIdleTime", fn := fun _ => fun
  | [d1, d2] => { results := [.lit (.bool false)], args := [d1, d2] }
  | _ => none }
def FnExactIdleTimeWrongFalsely : Prop := fnExactIdleTimeRow.holds Try.pinned (OpenSpec.ofChange fnExactIdleTimeWrong)

/-- 'laws.FnExactWorkLeft': WHATEVER THE INPUT: true; the input reads as it did. -/
def fnExactWorkLeftSpec : ChangeSpec := { name := "fnExactWorkLeft", fn := fun _ => fun
  | [d1, d2] => { results := [.lit (.bool true)], args := [d1, d2] }
  | _ => none }
def fnExactWorkLeftRow : OpenClaim := { program := "ytbodefholknneaa", sum := "ef8fbb1d4e819bcdead93bcb94fbe5e53369332513d1e9e6473fba6c68321415", func := "loop.example/flexlayout/laws.FnExactWorkLeft", spec := "fnExactWorkLeft", unfollowed := true, recurses := true, apart := false }
def FnExactWorkLeftSaid : Prop := fnExactWorkLeftRow.holds Try.pinned (OpenSpec.ofChange fnExactWorkLeftSpec)

/-- ITS FALSE NEIGHBOUR: 'it returns false'. Refute it at one input. -/
def fnExactWorkLeftWrong : ChangeSpec := { name := "fnExactWorkLeft", fn := fun _ => fun
  | [d1, d2] => { results := [.lit (.bool false)], args := [d1, d2] }
  | _ => none }
def FnExactWorkLeftWrongFalsely : Prop := fnExactWorkLeftRow.holds Try.pinned (OpenSpec.ofChange fnExactWorkLeftWrong)

/-- 'laws.FnExactFinishFrames': WHATEVER THE INPUT: true; the input reads as it did. -/
def fnExactFinishFramesSpec : ChangeSpec := { name := "fnExactFinishFrames", fn := fun _ => fun
  | [d1, d2] => { results := [.lit (.bool true)], args := [d1, d2] }
  | _ => none }
def fnExactFinishFramesRow : OpenClaim := { program := "ytbodefholknneaa", sum := "ef8fbb1d4e819bcdead93bcb94fbe5e53369332513d1e9e6473fba6c68321415", func := "loop.example/flexlayout/laws.FnExactFinishFrames", spec := "fnExactFinishFrames", unfollowed := true, recurses := true, apart := false }
def FnExactFinishFramesSaid : Prop := fnExactFinishFramesRow.holds Try.pinned (OpenSpec.ofChange fnExactFinishFramesSpec)

/-- ITS FALSE NEIGHBOUR: 'it returns false'. Refute it at one input. -/
def fnExactFinishFramesWrong : ChangeSpec := { name := "fnExactFinishFrames", fn := fun _ => fun
  | [d1, d2] => { results := [.lit (.bool false)], args := [d1, d2] }
  | _ => none }
def FnExactFinishFramesWrongFalsely : Prop := fnExactFinishFramesRow.holds Try.pinned (OpenSpec.ofChange fnExactFinishFramesWrong)

/-- 'laws.FnFramesNeededMore': WHATEVER THE INPUT: true; the input reads as it did. -/
def fnFramesNeededMoreSpec : ChangeSpec := { name := "fnFramesNeededMore", fn := fun _ => fun
  | [d] => { results := [.lit (.bool true)], args := [d] }
  | _ => none }
def fnFramesNeededMoreRow : OpenClaim := { program := "ytbodefholknneaa", sum := "ef8fbb1d4e819bcdead93bcb94fbe5e53369332513d1e9e6473fba6c68321415", func := "loop.example/flexlayout/laws.FnFramesNeededMore", spec := "fnFramesNeededMore", unfollowed := true, recurses := true, apart := false }
def FnFramesNeededMoreSaid : Prop := fnFramesNeededMoreRow.holds Try.pinned (OpenSpec.ofChange fnFramesNeededMoreSpec)

/-- ITS FALSE NEIGHBOUR: 'it returns false'. Refute it at one input. -/
def fnFramesNeededMoreWrong : ChangeSpec := { name := "fnFramesNeededMore", fn := fun _ => fun
  | [d] => { results := [.lit (.bool false)], args := [d] }
  | _ => none }
def FnFramesNeededMoreWrongFalsely : Prop := fnFramesNeededMoreRow.holds Try.pinned (OpenSpec.ofChange fnFramesNeededMoreWrong)

/-- 'laws.FnFramesNeeded': WHATEVER THE INPUT: true; the input reads as it did. -/
def fnFramesNeededSpec : ChangeSpec := { name := "fnFramesNeeded", fn := fun _ => fun
  | [d] => { results := [.lit (.bool true)], args := [d] }
  | _ => none }
def fnFramesNeededRow : OpenClaim := { program := "ytbodefholknneaa", sum := "ef8fbb1d4e819bcdead93bcb94fbe5e53369332513d1e9e6473fba6c68321415", func := "loop.example/flexlayout/laws.FnFramesNeeded", spec := "fnFramesNeeded", unfollowed := true, recurses := true, apart := false }
def FnFramesNeededSaid : Prop := fnFramesNeededRow.holds Try.pinned (OpenSpec.ofChange fnFramesNeededSpec)

/-- ITS FALSE NEIGHBOUR: 'it returns false'. Refute it at one input. -/
def fnFramesNeededWrong : ChangeSpec := { name := "fnFramesNeeded", fn := fun _ => fun
  | [d] => { results := [.lit (.bool false)], args := [d] }
  | _ => none }
def FnFramesNeededWrongFalsely : Prop := fnFramesNeededRow.holds Try.pinned (OpenSpec.ofChange fnFramesNeededWrong)

/-- 'laws.FnIdleTime': WHATEVER THE INPUT: true; the input reads as it did. -/
def fnIdleTimeSpec : ChangeSpec := { name := "fnIdleTime", fn := fun _ => fun
  | [d] => { results := [.lit (.bool true)], args := [d] }
  | _ => none }
def fnIdleTimeRow : OpenClaim := { program := "ytbodefholknneaa", sum := "ef8fbb1d4e819bcdead93bcb94fbe5e53369332513d1e9e6473fba6c68321415", func := "loop.example/flexlayout/laws.FnIdleTime", spec := "fnIdleTime", unfollowed := true, recurses := true, apart := false }
def FnIdleTimeSaid : Prop := fnIdleTimeRow.holds Try.pinned (OpenSpec.ofChange fnIdleTimeSpec)

/-- ITS FALSE NEIGHBOUR: 'it returns false'. Refute it at one input. -/
def fnIdleTimeWrong : ChangeSpec := { name := "fnIdleTime", fn := fun _ => fun
  | [d] => { results := [.lit (.bool false)], args := [d] }
  | _ => none }
def FnIdleTimeWrongFalsely : Prop := fnIdleTimeRow.holds Try.pinned (OpenSpec.ofChange fnIdleTimeWrong)

/-- 'laws.FnIdleTimeLeft': WHATEVER THE INPUT: true; the input reads as it did. -/
def fnIdleTimeLeftSpec : ChangeSpec := { name := "fnIdleTimeLeft", fn := fun _ => fun
  | [d] => { results := [.lit (.bool true)], args := [d] }
  | _ => none }
def fnIdleTimeLeftRow : OpenClaim := { program := "ytbodefholknneaa", sum := "ef8fbb1d4e819bcdead93bcb94fbe5e53369332513d1e9e6473fba6c68321415", func := "loop.example/flexlayout/laws.FnIdleTimeLeft", spec := "fnIdleTimeLeft", unfollowed := true, recurses := true, apart := false }
def FnIdleTimeLeftSaid : Prop := fnIdleTimeLeftRow.holds Try.pinned (OpenSpec.ofChange fnIdleTimeLeftSpec)

/-- ITS FALSE NEIGHBOUR: 'it returns false'. Refute it at one input. -/
def fnIdleTimeLeftWrong : ChangeSpec := { name := "fnIdleTimeLeft", fn := fun _ => fun
  | [d] => { results := [.lit (.bool false)], args := [d] }
  | _ => none }
def FnIdleTimeLeftWrongFalsely : Prop := fnIdleTimeLeftRow.holds Try.pinned (OpenSpec.ofChange fnIdleTimeLeftWrong)

/-- 'laws.FnWorkLeftResume': WHATEVER THE INPUT: true; the input reads as it did. -/
def fnWorkLeftResumeSpec : ChangeSpec := { name := "fnWorkLeftResume", fn := fun _ => fun
  | [d] => { results := [.lit (.bool true)], args := [d] }
  | _ => none }
def fnWorkLeftResumeRow : OpenClaim := { program := "ytbodefholknneaa", sum := "ef8fbb1d4e819bcdead93bcb94fbe5e53369332513d1e9e6473fba6c68321415", func := "loop.example/flexlayout/laws.FnWorkLeftResume", spec := "fnWorkLeftResume", unfollowed := true, recurses := true, apart := false }
def FnWorkLeftResumeSaid : Prop := fnWorkLeftResumeRow.holds Try.pinned (OpenSpec.ofChange fnWorkLeftResumeSpec)

/-- ITS FALSE NEIGHBOUR: 'it returns false'. Refute it at one input. -/
def fnWorkLeftResumeWrong : ChangeSpec := { name := "fnWorkLeftResume", fn := fun _ => fun
  | [d] => { results := [.lit (.bool false)], args := [d] }
  | _ => none }
def FnWorkLeftResumeWrongFalsely : Prop := fnWorkLeftResumeRow.holds Try.pinned (OpenSpec.ofChange fnWorkLeftResumeWrong)

/-- 'laws.FnFinishFrames': WHATEVER THE INPUT: true; the input reads as it did. -/
def fnFinishFramesSpec : ChangeSpec := { name := "fnFinishFrames", fn := fun _ => fun
  | [d] => { results := [.lit (.bool true)], args := [d] }
  | _ => none }
def fnFinishFramesRow : OpenClaim := { program := "ytbodefholknneaa", sum := "ef8fbb1d4e819bcdead93bcb94fbe5e53369332513d1e9e6473fba6c68321415", func := "loop.example/flexlayout/laws.FnFinishFrames", spec := "fnFinishFrames", unfollowed := true, recurses := true, apart := false }
def FnFinishFramesSaid : Prop := fnFinishFramesRow.holds Try.pinned (OpenSpec.ofChange fnFinishFramesSpec)

/-- ITS FALSE NEIGHBOUR: 'it returns false'. Refute it at one input. -/
def fnFinishFramesWrong : ChangeSpec := { name := "fnFinishFrames", fn := fun _ => fun
  | [d] => { results := [.lit (.bool false)], args := [d] }
  | _ => none }
def FnFinishFramesWrongFalsely : Prop := fnFinishFramesRow.holds Try.pinned (OpenSpec.ofChange fnFinishFramesWrong)

/-- 'laws.FnFinishFramesMore': WHATEVER THE INPUT: true; the input reads as it did. -/
def fnFinishFramesMoreSpec : ChangeSpec := { name := "fnFinishFramesMore", fn := fun _ => fun
  | [d] => { results := [.lit (.bool true)], args := [d] }
  | _ => none }
def fnFinishFramesMoreRow : OpenClaim := { program := "ytbodefholknneaa", sum := "ef8fbb1d4e819bcdead93bcb94fbe5e53369332513d1e9e6473fba6c68321415", func := "loop.example/flexlayout/laws.FnFinishFramesMore", spec := "fnFinishFramesMore", unfollowed := true, recurses := true, apart := false }
def FnFinishFramesMoreSaid : Prop := fnFinishFramesMoreRow.holds Try.pinned (OpenSpec.ofChange fnFinishFramesMoreSpec)

/-- ITS FALSE NEIGHBOUR: 'it returns false'. Refute it at one input. -/
def fnFinishFramesMoreWrong : ChangeSpec := { name := "fnFinishFramesMore", fn := fun _ => fun
  | [d] => { results := [.lit (.bool false)], args := [d] }
  | _ => none }
def FnFinishFramesMoreWrongFalsely : Prop := fnFinishFramesMoreRow.holds Try.pinned (OpenSpec.ofChange fnFinishFramesMoreWrong)

/- THE SECOND FORM. 'bulk': how many values and letters a reading holds, each counted each time it is reached (what is shared counts as often as it is met; a slice's spare places count too). A statement '..UptoSaid' is the law's where the arguments, and the package variables that the reading takes, are together of bulk at most 1048576: NARROWER than '..Said'. Prove '..Said' where nothing that the law and all that it calls make is longer than what came in: it says more and counts as full. Else prove '..UptoSaid'. A law counts once. -/
mutual
def uptoBulk {H : Type} : DataW H → Nat
  | .lit (.string bytes) => bytes.length + 1
  | .lit _ => 1
  | .nil => 1
  | .ptr d => uptoBulk d + 1
  | .slice elems spare => uptoBulkAll elems + uptoBulkAll spare + 1
  | .agg parts => uptoBulkAll parts + 1
  | .iface _ d => uptoBulk d + 1
  | .map entries => uptoBulkEntries entries + 1
  | .held _ => 1
def uptoBulkAll {H : Type} : List (DataW H) → Nat
  | [] => 0
  | d :: r => uptoBulk d + uptoBulkAll r
def uptoBulkEntries {H : Type} : List (Lit × DataW H) → Nat
  | [] => 0
  | x :: r => uptoBulkEntry x + uptoBulkEntries r
def uptoBulkEntry {H : Type} : Lit × DataW H → Nat
  | (.string bytes, d) => bytes.length + uptoBulk d + 1
  | (_, d) => uptoBulk d + 1
 end
def uptoSmall : (H : Type) → List (DataW H) → Bool := fun _ ds => decide (uptoBulkAll ds ≤ 1048576)
def OpenSpec.upto (s : _root_.Go.ChangeSpec) : _root_.Go.OpenSpec := { _root_.Go.OpenSpec.ofChange s with cond := some uptoSmall }

/-- 'laws.FnExactFramesNeeded', WHERE WHAT IT READS IS OF BULK AT MOST 1048576: true; the input reads as it did. -/
def fnExactFramesNeededUptoRow : OpenClaim := { program := "ytbodefholknneaa", sum := "ef8fbb1d4e819bcdead93bcb94fbe5e53369332513d1e9e6473fba6c68321415", func := "loop.example/flexlayout/laws.FnExactFramesNeeded", spec := "fnExactFramesNeeded", unfollowed := true, recurses := true, apart := false, narrowed := true }
def FnExactFramesNeededUptoSaid : Prop := fnExactFramesNeededUptoRow.holds Try.pinned (OpenSpec.upto fnExactFramesNeededSpec)

/-- 'laws.FnExactIdleTime', WHERE WHAT IT READS IS OF BULK AT MOST 1048576: true; the input reads as it did. -/
def fnExactIdleTimeUptoRow : OpenClaim := { program := "ytbodefholknneaa", sum := "ef8fbb1d4e819bcdead93bcb94fbe5e53369332513d1e9e6473fba6c68321415", func := "loop.example/flexlayout/laws.FnExactIdleTime", spec := "fnExactIdleTime", unfollowed := true, recurses := true, apart := false, narrowed := true }
def FnExactIdleTimeUptoSaid : Prop := fnExactIdleTimeUptoRow.holds Try.pinned (OpenSpec.upto fnExactIdleTimeSpec)

/-- 'laws.FnExactWorkLeft', WHERE WHAT IT READS IS OF BULK AT MOST 1048576: true; the input reads as it did. -/
def fnExactWorkLeftUptoRow : OpenClaim := { program := "ytbodefholknneaa", sum := "ef8fbb1d4e819bcdead93bcb94fbe5e53369332513d1e9e6473fba6c68321415", func := "loop.example/flexlayout/laws.FnExactWorkLeft", spec := "fnExactWorkLeft", unfollowed := true, recurses := true, apart := false, narrowed := true }
def FnExactWorkLeftUptoSaid : Prop := fnExactWorkLeftUptoRow.holds Try.pinned (OpenSpec.upto fnExactWorkLeftSpec)

/-- 'laws.FnExactFinishFrames', WHERE WHAT IT READS IS OF BULK AT MOST 1048576: true; the input reads as it did. -/
def fnExactFinishFramesUptoRow : OpenClaim := { program := "ytbodefholknneaa", sum := "ef8fbb1d4e819bcdead93bcb94fbe5e53369332513d1e9e6473fba6c68321415", func := "loop.example/flexlayout/laws.FnExactFinishFrames", spec := "fnExactFinishFrames", unfollowed := true, recurses := true, apart := false, narrowed := true }
def FnExactFinishFramesUptoSaid : Prop := fnExactFinishFramesUptoRow.holds Try.pinned (OpenSpec.upto fnExactFinishFramesSpec)

/-- 'laws.FnFramesNeededMore', WHERE WHAT IT READS IS OF BULK AT MOST 1048576: true; the input reads as it did. -/
def fnFramesNeededMoreUptoRow : OpenClaim := { program := "ytbodefholknneaa", sum := "ef8fbb1d4e819bcdead93bcb94fbe5e53369332513d1e9e6473fba6c68321415", func := "loop.example/flexlayout/laws.FnFramesNeededMore", spec := "fnFramesNeededMore", unfollowed := true, recurses := true, apart := false, narrowed := true }
def FnFramesNeededMoreUptoSaid : Prop := fnFramesNeededMoreUptoRow.holds Try.pinned (OpenSpec.upto fnFramesNeededMoreSpec)

/-- 'laws.FnFramesNeeded', WHERE WHAT IT READS IS OF BULK AT MOST 1048576: true; the input reads as it did. -/
def fnFramesNeededUptoRow : OpenClaim := { program := "ytbodefholknneaa", sum := "ef8fbb1d4e819bcdead93bcb94fbe5e53369332513d1e9e6473fba6c68321415", func := "loop.example/flexlayout/laws.FnFramesNeeded", spec := "fnFramesNeeded", unfollowed := true, recurses := true, apart := false, narrowed := true }
def FnFramesNeededUptoSaid : Prop := fnFramesNeededUptoRow.holds Try.pinned (OpenSpec.upto fnFramesNeededSpec)

/-- 'laws.FnIdleTime', WHERE WHAT IT READS IS OF BULK AT MOST 1048576: true; the input reads as it did. -/
def fnIdleTimeUptoRow : OpenClaim := { program := "ytbodefholknneaa", sum := "ef8fbb1d4e819bcdead93bcb94fbe5e53369332513d1e9e6473fba6c68321415", func := "loop.example/flexlayout/laws.FnIdleTime", spec := "fnIdleTime", unfollowed := true, recurses := true, apart := false, narrowed := true }
def FnIdleTimeUptoSaid : Prop := fnIdleTimeUptoRow.holds Try.pinned (OpenSpec.upto fnIdleTimeSpec)

/-- 'laws.FnIdleTimeLeft', WHERE WHAT IT READS IS OF BULK AT MOST 1048576: true; the input reads as it did. -/
def fnIdleTimeLeftUptoRow : OpenClaim := { program := "ytbodefholknneaa", sum := "ef8fbb1d4e819bcdead93bcb94fbe5e53369332513d1e9e6473fba6c68321415", func := "loop.example/flexlayout/laws.FnIdleTimeLeft", spec := "fnIdleTimeLeft", unfollowed := true, recurses := true, apart := false, narrowed := true }
def FnIdleTimeLeftUptoSaid : Prop := fnIdleTimeLeftUptoRow.holds Try.pinned (OpenSpec.upto fnIdleTimeLeftSpec)

/-- 'laws.FnWorkLeftResume', WHERE WHAT IT READS IS OF BULK AT MOST 1048576: true; the input reads as it did. -/
def fnWorkLeftResumeUptoRow : OpenClaim := { program := "ytbodefholknneaa", sum := "ef8fbb1d4e819bcdead93bcb94fbe5e53369332513d1e9e6473fba6c68321415", func := "loop.example/flexlayout/laws.FnWorkLeftResume", spec := "fnWorkLeftResume", unfollowed := true, recurses := true, apart := false, narrowed := true }
def FnWorkLeftResumeUptoSaid : Prop := fnWorkLeftResumeUptoRow.holds Try.pinned (OpenSpec.upto fnWorkLeftResumeSpec)

/-- 'laws.FnFinishFrames', WHERE WHAT IT READS IS OF BULK AT MOST 1048576: true; the input reads as it did. -/
def fnFinishFramesUptoRow : OpenClaim := { program := "ytbodefholknneaa", sum := "ef8fbb1d4e819bcdead93bcb94fbe5e53369332513d1e9e6473fba6c68321415", func := "loop.example/flexlayout/laws.FnFinishFrames", spec := "fnFinishFrames", unfollowed := true, recurses := true, apart := false, narrowed := true }
def FnFinishFramesUptoSaid : Prop := fnFinishFramesUptoRow.holds Try.pinned (OpenSpec.upto fnFinishFramesSpec)

/-- 'laws.FnFinishFramesMore', WHERE WHAT IT READS IS OF BULK AT MOST 1048576: true; the input reads as it did. -/
def fnFinishFramesMoreUptoRow : OpenClaim := { program := "ytbodefholknneaa", sum := "ef8fbb1d4e819bcdead93bcb94fbe5e53369332513d1e9e6473fba6c68321415", func := "loop.example/flexlayout/laws.FnFinishFramesMore", spec := "fnFinishFramesMore", unfollowed := true, recurses := true, apart := false, narrowed := true }
def FnFinishFramesMoreUptoSaid : Prop := fnFinishFramesMoreUptoRow.holds Try.pinned (OpenSpec.upto fnFinishFramesMoreSpec)

end Rows
end Go.Proofs.Ytbodefholknneaa
