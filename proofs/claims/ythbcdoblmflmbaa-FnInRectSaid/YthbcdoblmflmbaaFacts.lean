/- The facts on the head of the translation that each row asks, from the letters of that head as numbers. -/
import Derived.Test.YthbcdoblmflmbaaRows
import Derived.WalkKit
import Derived.ProofKit
namespace Go.Proofs.Ythbcdoblmflmbaa
theorem and_t {a b : Bool} (h : a = true) (k : b = true) : (a && b) = true := by rw [h, k]; rfl
def headNums : List Nat := [
  104, 97, 114, 110, 101, 115, 115, 32, 99, 57, 102, 101, 100, 51, 57, 53, 98, 56, 101, 102, 55, 51, 50, 99, 102, 51, 54, 53, 57, 102, 52, 54, 55, 54, 57, 100, 100, 97, 54, 51,
  49, 48, 100, 54, 53, 49, 97, 101, 57, 49, 102, 54, 57, 102, 53, 98, 54, 56, 54, 57, 51, 52, 54, 57, 54, 98, 98, 51, 99, 55, 98, 57, 32, 99, 117, 116, 32, 97, 116, 32,
  108, 111, 111, 112, 46, 101, 120, 97, 109, 112, 108, 101, 47, 102, 108, 101, 120, 108, 97, 121, 111, 117, 116, 47, 108, 97, 119, 115, 46, 70, 110, 73, 110, 82, 101, 99, 116, 32, 108, 111,
  111, 112, 46, 101, 120, 97, 109, 112, 108, 101, 47, 102, 108, 101, 120, 108, 97, 121, 111, 117, 116, 47, 108, 97, 119, 115, 46, 70, 110, 73, 110, 82, 101, 99, 116, 77, 111, 118, 101]
def headSigns : List Char := headNums.map Char.ofNat
theorem head_of : Try.prog.initOrder = String.ofList headSigns := by kernel_rfl
theorem head_toList : Try.prog.initOrder.toList = headSigns := by rw [head_of, String.toList_ofList]
theorem make_of (P : Program) (h : P.initOrder.toList = headSigns) : P.make = some Make.cut := by unfold Program.make; rw [h]; kernel_rfl
theorem lifts_of (P : Program) (h : P.initOrder.toList = headSigns) : P.liftsFinal = false := by unfold Program.liftsFinal Program.headLifts; rw [h]; kernel_rfl
theorem head_cut : behindMainWord (wordsSigns headSigns) = "cut".toList :: (behindMainWord (wordsSigns headSigns)).tail := by kernel_rfl
theorem strip_cut (r : List (List Char)) : stripLifts liftWords ("cut".toList :: r) = ([], "cut".toList :: r) := by kernel_rfl
theorem mayEnter_of (P : Program) (h : P.initOrder.toList = headSigns) (h1 : P.laysLater = false) (h2 : P.bearsReflect = false) (h3 : P.doorFits [] = true) : P.mayEnter = true := by
  unfold Program.mayEnter
  rw [h, head_cut]
  dsimp only
  rw [strip_cut, h1, h2, h3]
  kernel_rfl
theorem head_mayEnter : Try.prog.mayEnter = true := mayEnter_of _ head_toList (by kernel_rfl) (by kernel_rfl) (by kernel_rfl)
theorem head_make : (Try.prog.make == some Make.cut) = true := by rw [make_of _ head_toList]; rfl
theorem head_lifts : (false == Try.prog.liftsFinal) = true := by rw [lifts_of _ head_toList]; rfl
theorem pin_mayEnter : Try.pinned.checked.prog.mayEnter = true := head_mayEnter
theorem pin_make : (Try.pinned.checked.prog.make == some Make.cut) = true := head_make
theorem pin_lifts : (false == Try.pinned.checked.prog.liftsFinal) = true := head_lifts
end Go.Proofs.Ythbcdoblmflmbaa
