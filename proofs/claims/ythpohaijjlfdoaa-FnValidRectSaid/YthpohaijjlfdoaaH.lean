/- The law of valid rectangles (P1): the walk. -/
import Derived.Test.YthpohaijjlfdoaaE
import Derived.Test.YthpohaijjlfdoaaG
namespace Go.Proofs.Ythpohaijjlfdoaa
open Go.RowKit

theorem plain_ValidRect {x y a b : Int} (h : vR x y a b = true) : vR x y 0 b = true ∧ inR x y 0 b x y = false := by
  obtain ⟨h1, h2, h3, h4⟩ := vR_iff.1 h
  refine ⟨vR_iff.2 ⟨h1, h2, ⟨by omega, by omega⟩, h4⟩, ?_⟩
  unfold inR hasB
  simp
set_option maxHeartbeats 1000000 in
theorem walkFnValidRect (A : Option Addr) (n c : Nat) (zs : List Int) (w : World) (h : IsRow .u8 w A n c zs) :
    Calls Try.prog 6 #[.slice A n c] w fun e w' => e = .returned (.bool true) ∧ Below w.heap.size w w' := by
  have H := Lib.hid h
  have hn : (n : Int) ≤ 9223372036854775807 := by obtain ⟨h1, h2, _⟩ := bytes_of_row h; unfold maxLen at h2; omega
  clear h
  have P : Hid (∀ x y a b : Int, vR x y a b = true → vR x y 0 b = true ∧ inR x y 0 b x y = false) := fun x y a b h => plain_ValidRect h
  go_enter Try.func6, Try.ntmps6
  go_wp2_with (first
    | (go_at_call 26; refine (DrawValidRect_any _ _ _ _ _ H.out).mono ?_; rintro e w1 ⟨x, y, a, b, rfl, ⟨x0, x1⟩, ⟨y0, y1⟩, ⟨a0, a1⟩, ⟨b0, b1⟩, hb1⟩; obtain ⟨hchb1, hfhb1⟩ := bcell hb1; have hz1 := hb1.size)
    | (go_at_call 23; refine (iValidRect_any _ _ _ _ _).mono ?_; rintro e w2 ⟨rfl, hb2⟩; obtain ⟨hchb2, hfhb2⟩ := bcell hb2; have hzhb2 := hb2.size; (try simp at hzhb2); (try have z0hb2 : w.heap.size < w2.heap.size := (by omega)); (try have z1hb2 : w.heap.size + 1 < w2.heap.size := (by omega)); (try have z2hb2 : w.heap.size + 1 + 1 < w2.heap.size := (by omega)); (try have z3hb2 : w.heap.size + 1 + 1 + 1 < w2.heap.size := (by omega)); (try have z4hb2 : w.heap.size + 1 + 1 + 1 + 1 < w2.heap.size := (by omega)); (try have z5hb2 : w.heap.size + 1 + 1 + 1 + 1 + 1 < w2.heap.size := (by omega)); (try have y0hb2 : w0.heap.size < w2.heap.size := (by omega)); (try have hqhb2 := Nat.lt_of_succ_le hzhb2); (try have yyw1hb2 : w1.heap.size < w2.heap.size := (by omega)); (try have yyw3hb2 : w3.heap.size < w2.heap.size := (by omega)); skip)
    | (go_at_call 21; refine (sValidRect_any _ _ _ _ _).mono ?_; rintro e w3 ⟨rfl, hb3⟩; obtain ⟨hchb3, hfhb3⟩ := bcell hb3; have hzhb3 := hb3.size; (try simp at hzhb3); (try have z0hb3 : w.heap.size < w3.heap.size := (by omega)); (try have z1hb3 : w.heap.size + 1 < w3.heap.size := (by omega)); (try have z2hb3 : w.heap.size + 1 + 1 < w3.heap.size := (by omega)); (try have z3hb3 : w.heap.size + 1 + 1 + 1 < w3.heap.size := (by omega)); (try have z4hb3 : w.heap.size + 1 + 1 + 1 + 1 < w3.heap.size := (by omega)); (try have z5hb3 : w.heap.size + 1 + 1 + 1 + 1 + 1 < w3.heap.size := (by omega)); (try have y0hb3 : w0.heap.size < w3.heap.size := (by omega)); (try have hqhb3 := Nat.lt_of_succ_le hzhb3); (try have yyw1hb3 : w1.heap.size < w3.heap.size := (by omega)); (try have yyw2hb3 : w2.heap.size < w3.heap.size := (by omega)); skip)
    | (go_at_call 25; refine (iInRect_any _ _ _ _ _ _ _).mono ?_; rintro e w4 ⟨rfl, hb4⟩; obtain ⟨hchb4, hfhb4⟩ := bcell hb4; have hzhb4 := hb4.size; (try simp at hzhb4); (try have z0hb4 : w.heap.size < w4.heap.size := (by omega)); (try have z1hb4 : w.heap.size + 1 < w4.heap.size := (by omega)); (try have z2hb4 : w.heap.size + 1 + 1 < w4.heap.size := (by omega)); (try have z3hb4 : w.heap.size + 1 + 1 + 1 < w4.heap.size := (by omega)); (try have z4hb4 : w.heap.size + 1 + 1 + 1 + 1 < w4.heap.size := (by omega)); (try have z5hb4 : w.heap.size + 1 + 1 + 1 + 1 + 1 < w4.heap.size := (by omega)); (try have y0hb4 : w0.heap.size < w4.heap.size := (by omega)); (try have hqhb4 := Nat.lt_of_succ_le hzhb4); (try have yyw1hb4 : w1.heap.size < w4.heap.size := (by omega)); (try have yyw2hb4 : w2.heap.size < w4.heap.size := (by omega)); (try have yyw3hb4 : w3.heap.size < w4.heap.size := (by omega)); skip))
  all_goals go_ret
  all_goals (refine ⟨?_, (by repeat (first | (with_reducible exact Below.refl _ _) | (with_reducible refine Below.drew ?_) | (with_reducible refine below_drewN ?_ _) | ((with_reducible refine Below.setCell ?_ ?_ _); rotate_left; (focus (dsimp only; omega))) | ((with_reducible refine Below.alloc ?_ ?_ _); rotate_left; (focus ((try simp only [World.size_alloc]); (first | omega | ((try simp); (try omega); done))))) | ((refine Below.trans ?_ (Below.mono (by assumption) ?_)); rotate_left; (focus ((try simp only [World.size_alloc]); (first | omega | ((try simp); (try omega); done)))))))⟩)
  · rfl
  · rfl
  · have q := P.out x y a b (by simp_all)
    exact ret_bool (by rw [q.2]; rfl)
  · have q := P.out x y a b (by simp_all)
    exact absurd q.1 ‹_›
end Go.Proofs.Ythpohaijjlfdoaa
