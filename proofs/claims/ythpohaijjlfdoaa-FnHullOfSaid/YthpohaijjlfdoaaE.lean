/- The exact laws of rectangles: the walks. -/
import Derived.Test.YthpohaijjlfdoaaB
import Derived.Test.YthpohaijjlfdoaaC
import Derived.Test.YthpohaijjlfdoaaD
namespace Go.Proofs.Ythpohaijjlfdoaa
open Go.RowKit

set_option maxHeartbeats 400000 in
theorem walkFnExactConstants (w : World) : Calls Try.prog 3 #[] w fun e w' => e = .returned (.bool true) ∧ Below w.heap.size w w' := by
  go_enter Try.func3, Try.ntmps3
  go_wp2
  go_ret
  exact ⟨rfl, Below.refl _ _⟩
set_option maxHeartbeats 400000 in
theorem eqRect_any (x y a b p q c d : Int) (w : World) :
    Calls Try.prog 29 #[.agg #[.int .i64 x, .int .i64 y, .int .i64 a, .int .i64 b], .agg #[.int .i64 p, .int .i64 q, .int .i64 c, .int .i64 d]] w fun e w' => e = .returned (.bool (decide (x = p ∧ y = q ∧ a = c ∧ b = d))) ∧ Below w.heap.size w w' := by
  go_enter Try.func29, Try.ntmps29
  go_wp2
  all_goals go_ret
  all_goals exact ⟨ret_bool (by simp_all), (by repeat (first | (with_reducible exact Below.refl _ _) | (with_reducible refine Below.drew ?_) | (with_reducible refine below_drewN ?_ _) | ((with_reducible refine Below.setCell ?_ ?_ _); rotate_left; (focus (dsimp only; omega))) | ((with_reducible refine Below.alloc ?_ ?_ _); rotate_left; (focus ((try simp only [World.size_alloc]); (first | omega | ((try simp); (try omega); done))))) | ((refine Below.trans ?_ (Below.mono (by assumption) ?_)); rotate_left; (focus ((try simp only [World.size_alloc]); (first | omega | ((try simp); (try omega); done)))))))⟩
theorem eqRect_same (x y a b : Int) (w : World) :
    Calls Try.prog 29 #[.agg #[.int .i64 x, .int .i64 y, .int .i64 a, .int .i64 b], .agg #[.int .i64 x, .int .i64 y, .int .i64 a, .int .i64 b]] w fun e w' => e = .returned (.bool true) ∧ Below w.heap.size w w' :=
  (eqRect_any x y a b x y a b w).mono fun _ _ ⟨he, hw⟩ => ⟨by rw [he]; simp, hw⟩
set_option maxHeartbeats 1000000 in
theorem walkFnExactValidRect (x y a b : Int) (w : World) (_ : (Lit.int .i64 x).wf = true) (_ : (Lit.int .i64 y).wf = true) (_ : (Lit.int .i64 a).wf = true) (_ : (Lit.int .i64 b).wf = true) :
    Calls Try.prog 4 #[.agg #[.int .i64 x, .int .i64 y, .int .i64 a, .int .i64 b]] w fun e w' => e = .returned (.bool true) ∧ Below w.heap.size w w' := by
  go_enter Try.func4, Try.ntmps4
  go_wp2_with (first
    | (go_at_call 22; refine (toRect_any _ _ _ _ _).mono ?_; rintro e w1 ⟨rfl, hb1⟩; obtain ⟨hchb1, hfhb1⟩ := bcell hb1; have hzhb1 := hb1.size; (try simp at hzhb1); (try have z0hb1 : w.heap.size < w1.heap.size := (by omega)); (try have z1hb1 : w.heap.size + 1 < w1.heap.size := (by omega)); (try have z2hb1 : w.heap.size + 1 + 1 < w1.heap.size := (by omega)); (try have z3hb1 : w.heap.size + 1 + 1 + 1 < w1.heap.size := (by omega)); (try have z4hb1 : w.heap.size + 1 + 1 + 1 + 1 < w1.heap.size := (by omega)); (try have z5hb1 : w.heap.size + 1 + 1 + 1 + 1 + 1 < w1.heap.size := (by omega)); (try have y0hb1 : w0.heap.size < w1.heap.size := (by omega)); (try have hqhb1 := Nat.lt_of_succ_le hzhb1); skip)
    | (go_at_call 21; refine (sValidRect_any _ _ _ _ _).mono ?_; rintro e w2 ⟨rfl, hb2⟩; obtain ⟨hchb2, hfhb2⟩ := bcell hb2; have hzhb2 := hb2.size; (try simp at hzhb2); (try have z0hb2 : w.heap.size < w2.heap.size := (by omega)); (try have z1hb2 : w.heap.size + 1 < w2.heap.size := (by omega)); (try have z2hb2 : w.heap.size + 1 + 1 < w2.heap.size := (by omega)); (try have z3hb2 : w.heap.size + 1 + 1 + 1 < w2.heap.size := (by omega)); (try have z4hb2 : w.heap.size + 1 + 1 + 1 + 1 < w2.heap.size := (by omega)); (try have z5hb2 : w.heap.size + 1 + 1 + 1 + 1 + 1 < w2.heap.size := (by omega)); (try have y0hb2 : w0.heap.size < w2.heap.size := (by omega)); (try have hqhb2 := Nat.lt_of_succ_le hzhb2); skip)
    | (go_at_call 23; refine (iValidRect_any _ _ _ _ _).mono ?_; rintro e w3 ⟨rfl, hb3⟩; obtain ⟨hchb3, hfhb3⟩ := bcell hb3; have hzhb3 := hb3.size; (try simp at hzhb3); (try have z0hb3 : w.heap.size < w3.heap.size := (by omega)); (try have z1hb3 : w.heap.size + 1 < w3.heap.size := (by omega)); (try have z2hb3 : w.heap.size + 1 + 1 < w3.heap.size := (by omega)); (try have z3hb3 : w.heap.size + 1 + 1 + 1 < w3.heap.size := (by omega)); (try have z4hb3 : w.heap.size + 1 + 1 + 1 + 1 < w3.heap.size := (by omega)); (try have z5hb3 : w.heap.size + 1 + 1 + 1 + 1 + 1 < w3.heap.size := (by omega)); (try have y0hb3 : w0.heap.size < w3.heap.size := (by omega)); (try have hqhb3 := Nat.lt_of_succ_le hzhb3); skip))
  all_goals go_ret
  all_goals exact ⟨rfl, (by repeat (first | (with_reducible exact Below.refl _ _) | (with_reducible refine Below.drew ?_) | (with_reducible refine below_drewN ?_ _) | ((with_reducible refine Below.setCell ?_ ?_ _); rotate_left; (focus (dsimp only; omega))) | ((with_reducible refine Below.alloc ?_ ?_ _); rotate_left; (focus ((try simp only [World.size_alloc]); (first | omega | ((try simp); (try omega); done))))) | ((refine Below.trans ?_ (Below.mono (by assumption) ?_)); rotate_left; (focus ((try simp only [World.size_alloc]); (first | omega | ((try simp); (try omega); done)))))))⟩
set_option maxHeartbeats 1000000 in
theorem walkFnExactInRect (x y a b p q : Int) (w : World) (_ : (Lit.int .i64 x).wf = true) (_ : (Lit.int .i64 y).wf = true) (_ : (Lit.int .i64 a).wf = true) (_ : (Lit.int .i64 b).wf = true) (_ : (Lit.int .i64 p).wf = true) (_ : (Lit.int .i64 q).wf = true) :
    Calls Try.prog 5 #[.agg #[.int .i64 x, .int .i64 y, .int .i64 a, .int .i64 b], .int .i64 p, .int .i64 q] w fun e w' => e = .returned (.bool true) ∧ Below w.heap.size w w' := by
  go_enter Try.func5, Try.ntmps5
  go_wp2_with (first
    | (go_at_call 22; refine (toRect_any _ _ _ _ _).mono ?_; rintro e w1 ⟨rfl, hb1⟩; obtain ⟨hchb1, hfhb1⟩ := bcell hb1; have hzhb1 := hb1.size; (try simp at hzhb1); (try have z0hb1 : w.heap.size < w1.heap.size := (by omega)); (try have z1hb1 : w.heap.size + 1 < w1.heap.size := (by omega)); (try have z2hb1 : w.heap.size + 1 + 1 < w1.heap.size := (by omega)); (try have z3hb1 : w.heap.size + 1 + 1 + 1 < w1.heap.size := (by omega)); (try have z4hb1 : w.heap.size + 1 + 1 + 1 + 1 < w1.heap.size := (by omega)); (try have z5hb1 : w.heap.size + 1 + 1 + 1 + 1 + 1 < w1.heap.size := (by omega)); (try have y0hb1 : w0.heap.size < w1.heap.size := (by omega)); (try have hqhb1 := Nat.lt_of_succ_le hzhb1); skip)
    | (go_at_call 24; refine (sInRect_any _ _ _ _ _ _ _).mono ?_; rintro e w2 ⟨rfl, hb2⟩; obtain ⟨hchb2, hfhb2⟩ := bcell hb2; have hzhb2 := hb2.size; (try simp at hzhb2); (try have z0hb2 : w.heap.size < w2.heap.size := (by omega)); (try have z1hb2 : w.heap.size + 1 < w2.heap.size := (by omega)); (try have z2hb2 : w.heap.size + 1 + 1 < w2.heap.size := (by omega)); (try have z3hb2 : w.heap.size + 1 + 1 + 1 < w2.heap.size := (by omega)); (try have z4hb2 : w.heap.size + 1 + 1 + 1 + 1 < w2.heap.size := (by omega)); (try have z5hb2 : w.heap.size + 1 + 1 + 1 + 1 + 1 < w2.heap.size := (by omega)); (try have y0hb2 : w0.heap.size < w2.heap.size := (by omega)); (try have hqhb2 := Nat.lt_of_succ_le hzhb2); skip)
    | (go_at_call 25; refine (iInRect_any _ _ _ _ _ _ _).mono ?_; rintro e w3 ⟨rfl, hb3⟩; obtain ⟨hchb3, hfhb3⟩ := bcell hb3; have hzhb3 := hb3.size; (try simp at hzhb3); (try have z0hb3 : w.heap.size < w3.heap.size := (by omega)); (try have z1hb3 : w.heap.size + 1 < w3.heap.size := (by omega)); (try have z2hb3 : w.heap.size + 1 + 1 < w3.heap.size := (by omega)); (try have z3hb3 : w.heap.size + 1 + 1 + 1 < w3.heap.size := (by omega)); (try have z4hb3 : w.heap.size + 1 + 1 + 1 + 1 < w3.heap.size := (by omega)); (try have z5hb3 : w.heap.size + 1 + 1 + 1 + 1 + 1 < w3.heap.size := (by omega)); (try have y0hb3 : w0.heap.size < w3.heap.size := (by omega)); (try have hqhb3 := Nat.lt_of_succ_le hzhb3); skip))
  all_goals go_ret
  all_goals exact ⟨rfl, (by repeat (first | (with_reducible exact Below.refl _ _) | (with_reducible refine Below.drew ?_) | (with_reducible refine below_drewN ?_ _) | ((with_reducible refine Below.setCell ?_ ?_ _); rotate_left; (focus (dsimp only; omega))) | ((with_reducible refine Below.alloc ?_ ?_ _); rotate_left; (focus ((try simp only [World.size_alloc]); (first | omega | ((try simp); (try omega); done))))) | ((refine Below.trans ?_ (Below.mono (by assumption) ?_)); rotate_left; (focus ((try simp only [World.size_alloc]); (first | omega | ((try simp); (try omega); done)))))))⟩
end Go.Proofs.Ythpohaijjlfdoaa
