
/- Valid flexible sizes, by the program and by the reference. -/
import Derived.Test.YtjaecgobgpfbdaaFA
namespace Go.Proofs.Ytjaecgobgpfbdaa
open Go.RowKit

def fxB (x0 x1 x2 x3 x4 : Int) : Bool := (((inB x1 0 10000 && inB x2 x1 10000) && inB x0 x1 x2) && inB x3 0 10) && inB x4 0 10
theorem fxB_iff {x0 x1 x2 x3 x4 : Int} : fxB x0 x1 x2 x3 x4 = true ↔ 0 ≤ x1 ∧ x1 ≤ x0 ∧ x0 ≤ x2 ∧ x2 ≤ 10000 ∧ (0 ≤ x3 ∧ x3 ≤ 10) ∧ 0 ≤ x4 ∧ x4 ≤ 10 := by
  unfold fxB; simp only [Bool.and_eq_true, inB_iff]; omega
def fx (zs : List Int) (k : Nat) : Bool := fxB (zs.getD (5 * k) 0) (zs.getD (5 * k + 1) 0) (zs.getD (5 * k + 2) 0) (zs.getD (5 * k + 3) 0) (zs.getD (5 * k + 4) 0)
def okF (zs : List Int) (n : Nat) : Bool := (List.range n).all fun k => fx zs k
theorem okF_iff {zs : List Int} {n : Nat} : okF zs n = true ↔ ∀ k, k < n → fx zs k = true := by unfold okF; simp
theorem okF_false {zs : List Int} {n k : Nat} (hk : k < n) (h : fx zs k = false) : okF zs n = false := by
  rw [Bool.eq_false_iff]
  intro h2
  rw [okF_iff.1 h2 k hk] at h
  cases h
def vF (zs : List Int) (n : Nat) : Bool := inB (n : Int) 1 8 && okF zs n
theorem vF_iff {zs : List Int} {n : Nat} : vF zs n = true ↔ (1 ≤ n ∧ n ≤ 8) ∧ ∀ k, k < n → fx zs k = true := by
  unfold vF; simp only [Bool.and_eq_true, inB_iff, okF_iff]
  constructor
  · rintro ⟨h1, h2⟩; exact ⟨by omega, h2⟩
  · rintro ⟨h1, h2⟩; exact ⟨by omega, h2⟩
def FstBadF (zs : List Int) (n : Nat) (w : World) (e : Ending) (w' : World) : Prop := ∃ r : Int, e = .returned (.int .i64 r) ∧ -1 ≤ r ∧ decide (0 ≤ r) = !okF zs n ∧ Below w.heap.size w w'
end Go.Proofs.Ytjaecgobgpfbdaa
