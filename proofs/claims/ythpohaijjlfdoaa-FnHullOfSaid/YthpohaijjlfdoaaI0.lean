/- Contract of inside. -/
import Derived.Test.YthpohaijjlfdoaaA
namespace Go.Proofs.Ythpohaijjlfdoaa
open Go.RowKit

def insB (x y a b p q c d : Int) : Bool := decide (p ≤ x) && (decide (q ≤ y) && (decide (x + a ≤ p + c) && decide (y + b ≤ q + d)))
def Sm (x : Int) : Prop := -2000000 ≤ x ∧ x ≤ 2000000
set_option maxHeartbeats 1000000 in
theorem inside_any (x y a b p q c d : Int) (w : World) (h1 : Sm x) (h2 : Sm y) (h3 : Sm a) (h4 : Sm b) (h5 : Sm p) (h6 : Sm q) (h7 : Sm c) (h8 : Sm d) :
    Calls Try.prog 38 #[.agg #[.int .i64 x, .int .i64 y, .int .i64 a, .int .i64 b], .agg #[.int .i64 p, .int .i64 q, .int .i64 c, .int .i64 d]] w fun e w' => e = .returned (.bool (insB x y a b p q c d)) ∧ Below w.heap.size w w' := by
  obtain ⟨h1, i1⟩ := h1
  obtain ⟨h2, i2⟩ := h2
  obtain ⟨h3, i3⟩ := h3
  obtain ⟨h4, i4⟩ := h4
  obtain ⟨h5, i5⟩ := h5
  obtain ⟨h6, i6⟩ := h6
  obtain ⟨h7, i7⟩ := h7
  obtain ⟨h8, i8⟩ := h8
  go_enter Try.func38, Try.ntmps38
  go_wp2
  all_goals go_ret
  all_goals exact ⟨ret_bool (by unfold insB; rw [Bool.eq_iff_iff]; simp; omega), (by repeat (first | (with_reducible exact Below.refl _ _) | (with_reducible refine Below.drew ?_) | (with_reducible refine below_drewN ?_ _) | ((with_reducible refine Below.setCell ?_ ?_ _); rotate_left; (focus (dsimp only; omega))) | ((with_reducible refine Below.alloc ?_ ?_ _); rotate_left; (focus ((try simp only [World.size_alloc]); (first | omega | ((try simp); (try omega); done))))) | ((refine Below.trans ?_ (Below.mono (by assumption) ?_)); rotate_left; (focus ((try simp only [World.size_alloc]); (first | omega | ((try simp); (try omega); done)))))))⟩
end Go.Proofs.Ythpohaijjlfdoaa
