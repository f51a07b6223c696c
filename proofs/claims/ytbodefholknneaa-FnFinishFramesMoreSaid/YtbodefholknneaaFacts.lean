/- The facts on the head of the translation that each row asks, from the letters of that head as numbers. -/
import Derived.Test.YtbodefholknneaaRows
import Derived.WalkKit
import Derived.ProofKit
namespace Go.Proofs.Ytbodefholknneaa
theorem and_t {a b : Bool} (h : a = true) (k : b = true) : (a && b) = true := by rw [h, k]; rfl
def headNums : List Nat := [
  104, 97, 114, 110, 101, 115, 115, 32, 98, 52, 99, 49, 102, 97, 52, 56, 56, 98, 101, 54, 100, 99, 101, 100, 55, 53, 101, 56, 52, 51, 48, 57, 100, 98, 48, 99, 98, 56, 54, 51,
  49, 56, 100, 99, 98, 98, 50, 54, 100, 99, 99, 55, 54, 49, 54, 51, 101, 56, 57, 50, 54, 102, 55, 98, 100, 49, 99, 99, 51, 51, 50, 101, 32, 99, 117, 116, 32, 97, 116, 32,
  108, 111, 111, 112, 46, 101, 120, 97, 109, 112, 108, 101, 47, 102, 108, 101, 120, 108, 97, 121, 111, 117, 116, 47, 108, 97, 119, 115, 46, 70, 110, 69, 120, 97, 99, 116, 70, 114, 97, 109,
  101, 115, 78, 101, 101, 100, 101, 100, 32, 108, 111, 111, 112, 46, 101, 120, 97, 109, 112, 108, 101, 47, 102, 108, 101, 120, 108, 97, 121, 111, 117, 116, 47, 108, 97, 119, 115, 46, 70, 110,
  69, 120, 97, 99, 116, 73, 100, 108, 101, 84, 105, 109, 101, 32, 108, 111, 111, 112, 46, 101, 120, 97, 109, 112, 108, 101, 47, 102, 108, 101, 120, 108, 97, 121, 111, 117, 116, 47, 108, 97,
  119, 115, 46, 70, 110, 69, 120, 97, 99, 116, 87, 111, 114, 107, 76, 101, 102, 116, 32, 108, 111, 111, 112, 46, 101, 120, 97, 109, 112, 108, 101, 47, 102, 108, 101, 120, 108, 97, 121, 111,
  117, 116, 47, 108, 97, 119, 115, 46, 70, 110, 69, 120, 97, 99, 116, 70, 105, 110, 105, 115, 104, 70, 114, 97, 109, 101, 115, 32, 108, 111, 111, 112, 46, 101, 120, 97, 109, 112, 108, 101,
  47, 102, 108, 101, 120, 108, 97, 121, 111, 117, 116, 47, 108, 97, 119, 115, 46, 70, 110, 70, 114, 97, 109, 101, 115, 78, 101, 101, 100, 101, 100, 77, 111, 114, 101, 32, 108, 111, 111, 112,
  46, 101, 120, 97, 109, 112, 108, 101, 47, 102, 108, 101, 120, 108, 97, 121, 111, 117, 116, 47, 108, 97, 119, 115, 46, 70, 110, 70, 114, 97, 109, 101, 115, 78, 101, 101, 100, 101, 100, 32,
  108, 111, 111, 112, 46, 101, 120, 97, 109, 112, 108, 101, 47, 102, 108, 101, 120, 108, 97, 121, 111, 117, 116, 47, 108, 97, 119, 115, 46, 70, 110, 73, 100, 108, 101, 84, 105, 109, 101, 32,
  108, 111, 111, 112, 46, 101, 120, 97, 109, 112, 108, 101, 47, 102, 108, 101, 120, 108, 97, 121, 111, 117, 116, 47, 108, 97, 119, 115, 46, 70, 110, 73, 100, 108, 101, 84, 105, 109, 101, 76,
  101, 102, 116, 32, 108, 111, 111, 112, 46, 101, 120, 97, 109, 112, 108, 101, 47, 102, 108, 101, 120, 108, 97, 121, 111, 117, 116, 47, 108, 97, 119, 115, 46, 70, 110, 87, 111, 114, 107, 76,
  101, 102, 116, 82, 101, 115, 117, 109, 101, 32, 108, 111, 111, 112, 46, 101, 120, 97, 109, 112, 108, 101, 47, 102, 108, 101, 120, 108, 97, 121, 111, 117, 116, 47, 108, 97, 119, 115, 46, 70,
  110, 70, 105, 110, 105, 115, 104, 70, 114, 97, 109, 101, 115, 32, 108, 111, 111, 112, 46, 101, 120, 97, 109, 112, 108, 101, 47, 102, 108, 101, 120, 108, 97, 121, 111, 117, 116, 47, 108, 97,
  119, 115, 46, 70, 110, 70, 105, 110, 105, 115, 104, 70, 114, 97, 109, 101, 115, 77, 111, 114, 101]
def headSigns : List Char := headNums.map Char.ofNat
theorem head_of : Try.prog.initOrder = String.ofList headSigns := by kernel_rfl
theorem head_toList : Try.prog.initOrder.toList = headSigns := by rw [head_of, String.toList_ofList]
theorem make_of (P : Program) (h : P.initOrder.toList = headSigns) : P.make = some Make.cut := by unfold Program.make; rw [h]; kernel_rfl
theorem lifts_of (P : Program) (h : P.initOrder.toList = headSigns) : P.liftsFinal = false := by unfold Program.liftsFinal Program.headLifts; rw [h]; kernel_rfl
theorem head_cut : behindMainWord (wordsSigns headSigns) = "cut".toList :: (behindMainWord (wordsSigns headSigns)).tail := by kernel_rfl
theorem strip_cut (r : List (List Char)) : stripLifts liftWords ("cut".toList :: r) = ([], "cut".toList :: r) := by kernel_rfl
theorem mayEnter_of (P : Program) (h : P.initOrder.toList = headSigns) (h1 : P.laysLater = false) (h2 : P.bearsReflect = false) (h3 : P.doorFits [] = true) : P.mayEnter = true := by
  unfold Program.mayEnter
  rw [h, head_cut]
  dsimp only
  rw [strip_cut, h1, h2, h3]
  kernel_rfl
theorem head_mayEnter : Try.prog.mayEnter = true := mayEnter_of _ head_toList (by kernel_rfl) (by kernel_rfl) (by kernel_rfl)
theorem head_make : (Try.prog.make == some Make.cut) = true := by rw [make_of _ head_toList]; rfl
theorem head_lifts : (false == Try.prog.liftsFinal) = true := by rw [lifts_of _ head_toList]; rfl
theorem pin_mayEnter : Try.pinned.checked.prog.mayEnter = true := head_mayEnter
theorem pin_make : (Try.pinned.checked.prog.make == some Make.cut) = true := head_make
theorem pin_lifts : (false == Try.pinned.checked.prog.liftsFinal) = true := head_lifts
end Go.Proofs.Ytbodefholknneaa
