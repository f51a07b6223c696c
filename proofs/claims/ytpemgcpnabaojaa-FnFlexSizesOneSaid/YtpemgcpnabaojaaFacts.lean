/- The facts on the head of the translation that each row asks, from the letters of that head as numbers. -/
import Derived.Test.YtpemgcpnabaojaaRows
import Derived.WalkKit
import Derived.ProofKit
namespace Go.Proofs.Ytpemgcpnabaojaa
theorem and_t {a b : Bool} (h : a = true) (k : b = true) : (a && b) = true := by rw [h, k]; rfl
def headNums : List Nat := [
  104, 97, 114, 110, 101, 115, 115, 32, 101, 101, 102, 48, 52, 57, 53, 49, 101, 52, 57, 97, 100, 50, 98, 49, 51, 98, 50, 57, 50, 53, 100, 100, 100, 97, 101, 56, 52, 102, 102, 48,
  50, 99, 101, 49, 55, 55, 55, 50, 53, 100, 54, 97, 50, 102, 97, 100, 100, 54, 98, 102, 50, 49, 51, 54, 102, 100, 51, 52, 98, 98, 49, 102, 32, 99, 117, 116, 32, 97, 116, 32,
  108, 111, 111, 112, 46, 101, 120, 97, 109, 112, 108, 101, 47, 102, 108, 101, 120, 108, 97, 121, 111, 117, 116, 47, 108, 97, 119, 115, 46, 70, 110, 76, 101, 102, 116, 79, 118, 101, 114, 71,
  114, 111, 119, 32, 108, 111, 111, 112, 46, 101, 120, 97, 109, 112, 108, 101, 47, 102, 108, 101, 120, 108, 97, 121, 111, 117, 116, 47, 108, 97, 119, 115, 46, 70, 110, 69, 120, 97, 99, 116,
  76, 101, 102, 116, 79, 118, 101, 114, 32, 108, 111, 111, 112, 46, 101, 120, 97, 109, 112, 108, 101, 47, 102, 108, 101, 120, 108, 97, 121, 111, 117, 116, 47, 108, 97, 119, 115, 46, 70, 110,
  70, 108, 101, 120, 83, 105, 122, 101, 115, 32, 108, 111, 111, 112, 46, 101, 120, 97, 109, 112, 108, 101, 47, 102, 108, 101, 120, 108, 97, 121, 111, 117, 116, 47, 108, 97, 119, 115, 46, 70,
  110, 70, 108, 101, 120, 83, 105, 122, 101, 115, 79, 110, 101, 32, 108, 111, 111, 112, 46, 101, 120, 97, 109, 112, 108, 101, 47, 102, 108, 101, 120, 108, 97, 121, 111, 117, 116, 47, 108, 97,
  119, 115, 46, 70, 110, 70, 108, 101, 120, 83, 105, 122, 101, 115, 83, 116, 105, 102, 102, 32, 108, 111, 111, 112, 46, 101, 120, 97, 109, 112, 108, 101, 47, 102, 108, 101, 120, 108, 97, 121,
  111, 117, 116, 47, 108, 97, 119, 115, 46, 70, 110, 76, 101, 102, 116, 79, 118, 101, 114, 32, 108, 111, 111, 112, 46, 101, 120, 97, 109, 112, 108, 101, 47, 102, 108, 101, 120, 108, 97, 121,
  111, 117, 116, 47, 108, 97, 119, 115, 46, 70, 110, 70, 108, 101, 120, 83, 105, 122, 101, 115, 66, 97, 115, 101, 32, 108, 111, 111, 112, 46, 101, 120, 97, 109, 112, 108, 101, 47, 102, 108,
  101, 120, 108, 97, 121, 111, 117, 116, 47, 108, 97, 119, 115, 46, 70, 110, 70, 108, 101, 120, 83, 105, 122, 101, 115, 70, 105, 108, 108, 32, 108, 111, 111, 112, 46, 101, 120, 97, 109, 112,
  108, 101, 47, 102, 108, 101, 120, 108, 97, 121, 111, 117, 116, 47, 108, 97, 119, 115, 46, 70, 110, 70, 108, 101, 120, 83, 105, 122, 101, 115, 77, 111, 114, 101, 32, 108, 111, 111, 112, 46,
  101, 120, 97, 109, 112, 108, 101, 47, 102, 108, 101, 120, 108, 97, 121, 111, 117, 116, 47, 108, 97, 119, 115, 46, 70, 110, 69, 120, 97, 99, 116, 70, 108, 101, 120, 83, 105, 122, 101, 115]
def headSigns : List Char := headNums.map Char.ofNat
theorem head_of : Try.prog.initOrder = String.ofList headSigns := by kernel_rfl
theorem head_toList : Try.prog.initOrder.toList = headSigns := by rw [head_of, String.toList_ofList]
theorem make_of (P : Program) (h : P.initOrder.toList = headSigns) : P.make = some Make.cut := by unfold Program.make; rw [h]; kernel_rfl
theorem lifts_of (P : Program) (h : P.initOrder.toList = headSigns) : P.liftsFinal = false := by unfold Program.liftsFinal Program.headLifts; rw [h]; kernel_rfl
theorem head_cut : behindMainWord (wordsSigns headSigns) = "cut".toList :: (behindMainWord (wordsSigns headSigns)).tail := by kernel_rfl
theorem strip_cut (r : List (List Char)) : stripLifts liftWords ("cut".toList :: r) = ([], "cut".toList :: r) := by kernel_rfl
theorem mayEnter_of (P : Program) (h : P.initOrder.toList = headSigns) (h1 : P.laysLater = false) (h2 : P.bearsReflect = false) (h3 : P.doorFits [] = true) : P.mayEnter = true := by
  unfold Program.mayEnter
  rw [h, head_cut]
  dsimp only
  rw [strip_cut, h1, h2, h3]
  kernel_rfl
theorem head_mayEnter : Try.prog.mayEnter = true := mayEnter_of _ head_toList (by kernel_rfl) (by kernel_rfl) (by kernel_rfl)
theorem head_make : (Try.prog.make == some Make.cut) = true := by rw [make_of _ head_toList]; rfl
theorem head_lifts : (false == Try.prog.liftsFinal) = true := by rw [lifts_of _ head_toList]; rfl
theorem pin_mayEnter : Try.pinned.checked.prog.mayEnter = true := head_mayEnter
theorem pin_make : (Try.pinned.checked.prog.make == some Make.cut) = true := head_make
theorem pin_lifts : (false == Try.pinned.checked.prog.liftsFinal) = true := head_lifts
end Go.Proofs.Ytpemgcpnabaojaa
