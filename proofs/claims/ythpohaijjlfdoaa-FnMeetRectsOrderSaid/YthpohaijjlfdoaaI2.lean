/- MeetRectsOrder: the walk. -/
import Derived.Test.YthpohaijjlfdoaaE
import Derived.Test.YthpohaijjlfdoaaG2
namespace Go.Proofs.Ythpohaijjlfdoaa
open Go.RowKit

attribute [local go_sem] sel_t
theorem mt_comm {x y a b p q c d : Int} : mtOk p q c d x y a b = mtOk x y a b p q c d := by
  have e1 : mn (p + c) (x + a) = mn (x + a) (p + c) := by unfold mn; omega
  have e2 : mn (q + d) (y + b) = mn (y + b) (q + d) := by unfold mn; omega
  have e3 : mx p x = mx x p := by unfold mx; omega
  have e4 : mx q y = mx y q := by unfold mx; omega
  unfold mtOk
  rw [e1, e2, e3, e4, Bool.and_comm (vR p q c d)]
theorem mt_aa {x y a b : Int} (h : (!vR x y a b) = false) : mtOk x y a b x y a b = (decide (0 < a) && decide (0 < b)) := by
  have h : vR x y a b = true := by simpa using h
  unfold mtOk
  rw [h]
  simp only [mn, mx, Bool.true_and]
  rw [Bool.eq_iff_iff]
  simp
  omega
set_option maxHeartbeats 4000000 in
theorem walkFnMeetRectsOrder (A : Option Addr) (n c : Nat) (zs : List Int) (w : World) (h : IsRow .u8 w A n c zs) :
    Calls Try.prog 15 #[.slice A n c] w fun e w' => e = .returned (.bool true) ∧ Below w.heap.size w w' := by
  have H := Lib.hid h
  have hn : (n : Int) ≤ 9223372036854775807 := by obtain ⟨h1, h2, _⟩ := bytes_of_row h; unfold maxLen at h2; omega
  clear h
  go_enter Try.func15, Try.ntmps15
  go_wp2_with (first
    | (go_at_call 37; refine (DrawMeetRects_any _ _ _ _ _ H.out).mono ?_; rintro e w1 ⟨x, y, a, b, p, q, c2, d, rfl, ⟨⟨x0, x1⟩, ⟨y0, y1⟩, ⟨a0, a1⟩, ⟨b0, b1⟩⟩, ⟨⟨p0, p1⟩, ⟨q0, q1⟩, ⟨c0, c1⟩, ⟨d0, d1⟩⟩, hb1⟩; obtain ⟨hchb1, hfhb1⟩ := bcell hb1; have hz1 := hb1.size; have g1 : mtOk p q c2 d x y a b = mtOk x y a b p q c2 d := mt_comm; have g2 := @mt_aa x y a b; have ex : mx p x = mx x p := (by unfold mx; omega); have efx : mx x x = x := (by unfold mx; omega); have ey : mx q y = mx y q := (by unfold mx; omega); have efy : mx y y = y := (by unfold mx; omega); have mx : mn (p + c2) (x + a) = mn (x + a) (p + c2) := (by unfold mn; omega); have mfx : mn (x + a) (x + a) = x + a := (by unfold mn; omega); have my : mn (q + d) (y + b) = mn (y + b) (q + d) := (by unfold mn; omega); have mfy : mn (y + b) (y + b) = y + b := (by unfold mn; omega))
    | (go_at_call 34; ((with_reducible refine (iMeetRects_any x y a b p q c2 d _).mono ?_); (rintro e w2 ⟨rfl, hb2⟩; obtain ⟨hchb2, hfhb2⟩ := bcell hb2; have hzhb2 := hb2.size; (try simp at hzhb2); (try have hqhb2 := Nat.lt_of_succ_le hzhb2); (try have yyw1_0hb2 : w1.heap.size < w2.heap.size := (by omega)); (try have yyw1_1hb2 : w1.heap.size + 1 < w2.heap.size := (by omega)); (try have yyw3_0hb2 : w3.heap.size < w2.heap.size := (by omega)); (try have yyw4_0hb2 : w4.heap.size < w2.heap.size := (by omega)); (try have yyw5_0hb2 : w5.heap.size < w2.heap.size := (by omega)); (try have yyw6_0hb2 : w6.heap.size < w2.heap.size := (by omega)); (try have yyw7_0hb2 : w7.heap.size < w2.heap.size := (by omega)); (try have yyw8_0hb2 : w8.heap.size < w2.heap.size := (by omega)); skip)))
    | (go_at_call 34; ((with_reducible refine (iMeetRects_any p q c2 d x y a b _).mono ?_); (rintro e w4 ⟨rfl, hb4⟩; obtain ⟨hchb4, hfhb4⟩ := bcell hb4; have hzhb4 := hb4.size; (try simp at hzhb4); (try have hqhb4 := Nat.lt_of_succ_le hzhb4); (try have yyw1_0hb4 : w1.heap.size < w4.heap.size := (by omega)); (try have yyw1_1hb4 : w1.heap.size + 1 < w4.heap.size := (by omega)); (try have yyw2_0hb4 : w2.heap.size < w4.heap.size := (by omega)); (try have yyw3_0hb4 : w3.heap.size < w4.heap.size := (by omega)); (try have yyw5_0hb4 : w5.heap.size < w4.heap.size := (by omega)); (try have yyw6_0hb4 : w6.heap.size < w4.heap.size := (by omega)); (try have yyw7_0hb4 : w7.heap.size < w4.heap.size := (by omega)); (try have yyw8_0hb4 : w8.heap.size < w4.heap.size := (by omega)); skip)))
    | (go_at_call 34; ((with_reducible refine (iMeetRects_any x y a b x y a b _).mono ?_); (rintro e w6 ⟨rfl, hb6⟩; obtain ⟨hchb6, hfhb6⟩ := bcell hb6; have hzhb6 := hb6.size; (try simp at hzhb6); (try have hqhb6 := Nat.lt_of_succ_le hzhb6); (try have yyw1_0hb6 : w1.heap.size < w6.heap.size := (by omega)); (try have yyw1_1hb6 : w1.heap.size + 1 < w6.heap.size := (by omega)); (try have yyw2_0hb6 : w2.heap.size < w6.heap.size := (by omega)); (try have yyw3_0hb6 : w3.heap.size < w6.heap.size := (by omega)); (try have yyw4_0hb6 : w4.heap.size < w6.heap.size := (by omega)); (try have yyw5_0hb6 : w5.heap.size < w6.heap.size := (by omega)); (try have yyw7_0hb6 : w7.heap.size < w6.heap.size := (by omega)); (try have yyw8_0hb6 : w8.heap.size < w6.heap.size := (by omega)); skip)))
    | (go_at_call 33; ((with_reducible refine (sMeetRects_any x y a b p q c2 d _).mono ?_); (rintro e w3 ⟨rfl, hb3⟩; obtain ⟨hchb3, hfhb3⟩ := bcell hb3; have hzhb3 := hb3.size; (try simp at hzhb3); (try have hqhb3 := Nat.lt_of_succ_le hzhb3); (try have yyw1_0hb3 : w1.heap.size < w3.heap.size := (by omega)); (try have yyw1_1hb3 : w1.heap.size + 1 < w3.heap.size := (by omega)); (try have yyw2_0hb3 : w2.heap.size < w3.heap.size := (by omega)); (try have yyw4_0hb3 : w4.heap.size < w3.heap.size := (by omega)); (try have yyw5_0hb3 : w5.heap.size < w3.heap.size := (by omega)); (try have yyw6_0hb3 : w6.heap.size < w3.heap.size := (by omega)); (try have yyw7_0hb3 : w7.heap.size < w3.heap.size := (by omega)); (try have yyw8_0hb3 : w8.heap.size < w3.heap.size := (by omega)); skip)))
    | (go_at_call 23; ((with_reducible refine (iValidRect_any _ _ _ _ _).mono ?_); (rintro e w7 ⟨rfl, hb7⟩; obtain ⟨hchb7, hfhb7⟩ := bcell hb7; have hzhb7 := hb7.size; (try simp at hzhb7); (try have hqhb7 := Nat.lt_of_succ_le hzhb7); (try have yyw1_0hb7 : w1.heap.size < w7.heap.size := (by omega)); (try have yyw1_1hb7 : w1.heap.size + 1 < w7.heap.size := (by omega)); (try have yyw2_0hb7 : w2.heap.size < w7.heap.size := (by omega)); (try have yyw3_0hb7 : w3.heap.size < w7.heap.size := (by omega)); (try have yyw4_0hb7 : w4.heap.size < w7.heap.size := (by omega)); (try have yyw5_0hb7 : w5.heap.size < w7.heap.size := (by omega)); (try have yyw6_0hb7 : w6.heap.size < w7.heap.size := (by omega)); (try have yyw8_0hb7 : w8.heap.size < w7.heap.size := (by omega)); skip))))
  all_goals go_ret
  all_goals (refine ⟨?_, (by repeat (first | (with_reducible exact Below.refl _ _) | (with_reducible refine Below.drew ?_) | (with_reducible refine below_drewN ?_ _) | ((with_reducible refine Below.setCell ?_ ?_ _); rotate_left; (focus (dsimp only; omega))) | ((with_reducible refine Below.alloc ?_ ?_ _); rotate_left; (focus ((try simp only [World.size_alloc]); (first | omega | ((try simp); (try omega); done))))) | ((refine Below.trans ?_ (Below.mono (by assumption) ?_)); rotate_left; (focus ((try simp only [World.size_alloc]); (first | omega | ((try simp); (try omega); done)))))))⟩)
  all_goals first | rfl | exact ret_bool (by simp_all)
end Go.Proofs.Ythpohaijjlfdoaa
