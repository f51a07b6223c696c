/- The facts on the head of the translation that each row asks, from the letters of that head as numbers. -/
import Derived.Test.YtjaecgobgpfbdaaRows
import Derived.WalkKit
import Derived.ProofKit
namespace Go.Proofs.Ytjaecgobgpfbdaa
theorem and_t {a b : Bool} (h : a = true) (k : b = true) : (a && b) = true := by rw [h, k]; rfl
def headNums : List Nat := [
  104, 97, 114, 110, 101, 115, 115, 32, 51, 51, 54, 54, 55, 98, 54, 102, 100, 101, 55, 100, 57, 99, 97, 50, 52, 57, 101, 51, 97, 49, 101, 57, 97, 49, 57, 53, 54, 54, 100, 56,
  51, 100, 52, 49, 53, 50, 98, 56, 50, 98, 99, 98, 100, 53, 56, 56, 97, 50, 99, 100, 52, 51, 53, 55, 51, 53, 97, 48, 102, 54, 57, 98, 32, 99, 117, 116, 32, 97, 116, 32,
  108, 111, 111, 112, 46, 101, 120, 97, 109, 112, 108, 101, 47, 102, 108, 101, 120, 108, 97, 121, 111, 117, 116, 47, 108, 97, 119, 115, 46, 70, 110, 69, 120, 97, 99, 116, 82, 101, 99, 116,
  79, 102, 32, 108, 111, 111, 112, 46, 101, 120, 97, 109, 112, 108, 101, 47, 102, 108, 101, 120, 108, 97, 121, 111, 117, 116, 47, 108, 97, 119, 115, 46, 70, 110, 69, 120, 97, 99, 116, 83,
  112, 105, 108, 108, 105, 110, 103, 32, 108, 111, 111, 112, 46, 101, 120, 97, 109, 112, 108, 101, 47, 102, 108, 101, 120, 108, 97, 121, 111, 117, 116, 47, 108, 97, 119, 115, 46, 70, 110, 69,
  120, 97, 99, 116, 76, 97, 121, 111, 117, 116, 84, 114, 101, 101, 32, 108, 111, 111, 112, 46, 101, 120, 97, 109, 112, 108, 101, 47, 102, 108, 101, 120, 108, 97, 121, 111, 117, 116, 47, 108,
  97, 119, 115, 46, 70, 110, 69, 120, 97, 99, 116, 86, 97, 108, 105, 100, 84, 114, 101, 101, 32, 108, 111, 111, 112, 46, 101, 120, 97, 109, 112, 108, 101, 47, 102, 108, 101, 120, 108, 97,
  121, 111, 117, 116, 47, 108, 97, 119, 115, 46, 70, 110, 69, 120, 97, 99, 116, 68, 101, 112, 116, 104, 79, 102, 32, 108, 111, 111, 112, 46, 101, 120, 97, 109, 112, 108, 101, 47, 102, 108,
  101, 120, 108, 97, 121, 111, 117, 116, 47, 108, 97, 119, 115, 46, 70, 110, 69, 120, 97, 99, 116, 73, 115, 65, 114, 111, 117, 110, 100, 32, 108, 111, 111, 112, 46, 101, 120, 97, 109, 112,
  108, 101, 47, 102, 108, 101, 120, 108, 97, 121, 111, 117, 116, 47, 108, 97, 119, 115, 46, 70, 110, 69, 120, 97, 99, 116, 70, 105, 116, 115, 73, 110, 32, 108, 111, 111, 112, 46, 101, 120,
  97, 109, 112, 108, 101, 47, 102, 108, 101, 120, 108, 97, 121, 111, 117, 116, 47, 108, 97, 119, 115, 46, 70, 110, 69, 120, 97, 99, 116, 78, 97, 116, 117, 114, 97, 108, 83, 105, 122, 101,
  32, 108, 111, 111, 112, 46, 101, 120, 97, 109, 112, 108, 101, 47, 102, 108, 101, 120, 108, 97, 121, 111, 117, 116, 47, 108, 97, 119, 115, 46, 70, 110, 69, 120, 97, 99, 116, 75, 105, 100,
  115, 79, 102, 32, 108, 111, 111, 112, 46, 101, 120, 97, 109, 112, 108, 101, 47, 102, 108, 101, 120, 108, 97, 121, 111, 117, 116, 47, 108, 97, 119, 115, 46, 70, 110, 69, 120, 97, 99, 116,
  87, 105, 100, 101, 115, 116, 75, 105, 100, 32, 108, 111, 111, 112, 46, 101, 120, 97, 109, 112, 108, 101, 47, 102, 108, 101, 120, 108, 97, 121, 111, 117, 116, 47, 108, 97, 119, 115, 46, 70,
  110, 69, 120, 97, 99, 116, 83, 116, 121, 108, 101, 66, 111, 120]
def headSigns : List Char := headNums.map Char.ofNat
theorem head_of : Try.prog.initOrder = String.ofList headSigns := by kernel_rfl
theorem head_toList : Try.prog.initOrder.toList = headSigns := by rw [head_of, String.toList_ofList]
theorem make_of (P : Program) (h : P.initOrder.toList = headSigns) : P.make = some Make.cut := by unfold Program.make; rw [h]; kernel_rfl
theorem lifts_of (P : Program) (h : P.initOrder.toList = headSigns) : P.liftsFinal = false := by unfold Program.liftsFinal Program.headLifts; rw [h]; kernel_rfl
theorem head_cut : behindMainWord (wordsSigns headSigns) = "cut".toList :: (behindMainWord (wordsSigns headSigns)).tail := by kernel_rfl
theorem strip_cut (r : List (List Char)) : stripLifts liftWords ("cut".toList :: r) = ([], "cut".toList :: r) := by kernel_rfl
theorem mayEnter_of (P : Program) (h : P.initOrder.toList = headSigns) (h1 : P.laysLater = false) (h2 : P.bearsReflect = false) (h3 : P.doorFits [] = true) : P.mayEnter = true := by
  unfold Program.mayEnter
  rw [h, head_cut]
  dsimp only
  rw [strip_cut, h1, h2, h3]
  kernel_rfl
theorem head_mayEnter : Try.prog.mayEnter = true := mayEnter_of _ head_toList (by kernel_rfl) (by kernel_rfl) (by kernel_rfl)
theorem head_make : (Try.prog.make == some Make.cut) = true := by rw [make_of _ head_toList]; rfl
theorem head_lifts : (false == Try.prog.liftsFinal) = true := by rw [lifts_of _ head_toList]; rfl
theorem pin_mayEnter : Try.pinned.checked.prog.mayEnter = true := head_mayEnter
theorem pin_make : (Try.pinned.checked.prog.make == some Make.cut) = true := head_make
theorem pin_lifts : (false == Try.pinned.checked.prog.liftsFinal) = true := head_lifts
end Go.Proofs.Ytjaecgobgpfbdaa
