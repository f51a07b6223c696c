/- Contracts of meet and MeetRects, over the rectangle seat's program. -/
import Derived.Test.YthpohaijjlfdoaaA
namespace Go.Proofs.Ythpohaijjlfdoaa
open Go.RowKit

def mtIn (x y a b p q c d : Int) : Bool := decide (0 < mn (x + a) (p + c) - mx x p) && decide (0 < mn (y + b) (q + d) - mx y q)
set_option maxHeartbeats 4000000 in
theorem meet_any (x y a b p q c d : Int) (w : World) (hv : vR x y a b = true) (hu : vR p q c d = true) :
    Calls Try.prog 54 #[.agg #[.int .i64 x, .int .i64 y, .int .i64 a, .int .i64 b], .agg #[.int .i64 p, .int .i64 q, .int .i64 c, .int .i64 d]] w fun e w' => e = .returned (.tuple #[.agg #[.int .i64 (mx x p), .int .i64 (mx y q), .int .i64 (mn (x + a) (p + c) - mx x p), .int .i64 (mn (y + b) (q + d) - mx y q)], .bool (mtIn x y a b p q c d)]) ∧ Below w.heap.size w w' := by
  obtain ⟨⟨h1, h2⟩, ⟨h3, h4⟩, ⟨h5, h6⟩, h7, h8⟩ := vR_iff.1 hv
  obtain ⟨⟨g1, g2⟩, ⟨g3, g4⟩, ⟨g5, g6⟩, g7, g8⟩ := vR_iff.1 hu
  clear hv hu
  go_enter Try.func54, Try.ntmps54
  go_wp2_with (first | (go_at_call 59; refine (between_var _ _ _ _ _ (by omega) (by omega) (by omega) (by omega) (by omega) (by omega) (by omega) (by omega)).mono ?_; rintro e w1 ⟨wv, hv, rfl, hh, hb⟩; obtain ⟨hchb, hfhb⟩ := bcell hb; have hzhb := hb.size; simp at hzhb; have z2hb : w.heap.size + 1 + 1 < w1.heap.size := (by omega)))
  by_cases c1 : 0 < wv <;> by_cases c2 : 0 < hv
  all_goals go_region
  all_goals go_wp2
  all_goals
    refine bodyPost_ret (v := .tuple #[.agg #[.int .i64 (max x p), .int .i64 (max y q), .int .i64 wv, .int .i64 hv], .bool (decide (0 < wv) && decide (0 < hv))]) (by simp [results, Try.results54, go_sem, *]) rfl ⟨?_, (by repeat (first | (with_reducible exact Below.refl _ _) | (with_reducible refine Below.drew ?_) | (with_reducible refine below_drewN ?_ _) | ((with_reducible refine Below.setCell ?_ ?_ _); rotate_left; (focus (dsimp only; omega))) | ((with_reducible refine Below.alloc ?_ ?_ _); rotate_left; (focus ((try simp only [World.size_alloc]); (first | omega | ((try simp); (try omega); done))))) | ((refine Below.trans ?_ (Below.mono (by assumption) ?_)); rotate_left; (focus ((try simp only [World.size_alloc]); (first | omega | ((try simp); (try omega); done)))))))⟩
    exact ret_agg4b rfl rfl hh.out.1 hh.out.2 (by unfold mtIn mn mx; rw [hh.out.1, hh.out.2])
set_option maxHeartbeats 4000000 in
theorem smeet_any (x y a b p q c d : Int) (w : World) (hv : vR x y a b = true) (hu : vR p q c d = true) :
    Calls Try.prog 53 #[.agg #[.int .i64 x, .int .i64 y, .int .i64 a, .int .i64 b], .agg #[.int .i64 p, .int .i64 q, .int .i64 c, .int .i64 d]] w fun e w' => e = .returned (.tuple #[.agg #[.int .i64 (mx x p), .int .i64 (mx y q), .int .i64 (mn (x + a) (p + c) - mx x p), .int .i64 (mn (y + b) (q + d) - mx y q)], .bool (mtIn x y a b p q c d)]) ∧ Below w.heap.size w w' := by
  obtain ⟨⟨h1, h2⟩, ⟨h3, h4⟩, ⟨h5, h6⟩, h7, h8⟩ := vR_iff.1 hv
  obtain ⟨⟨g1, g2⟩, ⟨g3, g4⟩, ⟨g5, g6⟩, g7, g8⟩ := vR_iff.1 hu
  clear hv hu
  go_enter Try.func53, Try.ntmps53
  go_wp2
  all_goals
    refine bodyPost_ret (v := .tuple #[.agg #[.int .i64 (mx x p), .int .i64 (mx y q), .int .i64 (mn (x + a) (p + c) - mx x p), .int .i64 (mn (y + b) (q + d) - mx y q)], .bool (mtIn x y a b p q c d)]) (by simp [results, Try.results53, go_sem, mtIn, mn, mx]; try omega) rfl ⟨rfl, (by repeat (first | (with_reducible exact Below.refl _ _) | (with_reducible refine Below.drew ?_) | (with_reducible refine below_drewN ?_ _) | ((with_reducible refine Below.setCell ?_ ?_ _); rotate_left; (focus (dsimp only; omega))) | ((with_reducible refine Below.alloc ?_ ?_ _); rotate_left; (focus ((try simp only [World.size_alloc]); (first | omega | ((try simp); (try omega); done))))) | ((refine Below.trans ?_ (Below.mono (by assumption) ?_)); rotate_left; (focus ((try simp only [World.size_alloc]); (first | omega | ((try simp); (try omega); done)))))))⟩
theorem mtOk_eq (x y a b p q c d : Int) : mtOk x y a b p q c d = (vR x y a b && vR p q c d && mtIn x y a b p q c d) := rfl
set_option maxHeartbeats 1000000 in
theorem iMeetRects_any (x y a b p q c d : Int) (w : World) :
    Calls Try.prog 34 #[.agg #[.int .i64 x, .int .i64 y, .int .i64 a, .int .i64 b], .agg #[.int .i64 p, .int .i64 q, .int .i64 c, .int .i64 d]] w fun e w' => e = .returned (.tuple #[.agg #[.int .i64 (sel (mtOk x y a b p q c d) (mx x p)), .int .i64 (sel (mtOk x y a b p q c d) (mx y q)), .int .i64 (sel (mtOk x y a b p q c d) (mn (x + a) (p + c) - mx x p)), .int .i64 (sel (mtOk x y a b p q c d) (mn (y + b) (q + d) - mx y q))], .bool (mtOk x y a b p q c d)]) ∧ Below w.heap.size w w' := by
  by_cases hv : vR x y a b = true <;> by_cases hu : vR p q c d = true
  all_goals
    by_cases hm : mtIn x y a b p q c d = true
  all_goals
    go_enter Try.func34, Try.ntmps34
    go_wp2_with (first
      | (go_at_call 40; refine (rvalid_any _ _ _ _ _).mono ?_; rintro e w1 ⟨rfl, hb⟩; obtain ⟨hchb, hfhb⟩ := bcell hb; have hzhb := hb.size; (try simp at hzhb); (try have z0hb : w.heap.size < w1.heap.size := (by omega)); (try have z1hb : w.heap.size + 1 < w1.heap.size := (by omega)); (try have z2hb : w.heap.size + 1 + 1 < w1.heap.size := (by omega)); (try have z3hb : w.heap.size + 1 + 1 + 1 < w1.heap.size := (by omega)); (try have z4hb : w.heap.size + 1 + 1 + 1 + 1 < w1.heap.size := (by omega)); (try have z5hb : w.heap.size + 1 + 1 + 1 + 1 + 1 < w1.heap.size := (by omega)); (try have y0hb : w0.heap.size < w1.heap.size := (by omega)); (try have hqhb := Nat.lt_of_succ_le hzhb); skip)
      | (go_at_call 54; refine (meet_any _ _ _ _ _ _ _ _ _ hv hu).mono ?_; rintro e w2 ⟨rfl, hb2⟩; obtain ⟨hchb2, hfhb2⟩ := bcell hb2; have hzhb2 := hb2.size; (try simp at hzhb2); (try have z0hb2 : w.heap.size < w2.heap.size := (by omega)); (try have z1hb2 : w.heap.size + 1 < w2.heap.size := (by omega)); (try have z2hb2 : w.heap.size + 1 + 1 < w2.heap.size := (by omega)); (try have z3hb2 : w.heap.size + 1 + 1 + 1 < w2.heap.size := (by omega)); (try have z4hb2 : w.heap.size + 1 + 1 + 1 + 1 < w2.heap.size := (by omega)); (try have z5hb2 : w.heap.size + 1 + 1 + 1 + 1 + 1 < w2.heap.size := (by omega)); (try have y0hb2 : w0.heap.size < w2.heap.size := (by omega)); (try have hqhb2 := Nat.lt_of_succ_le hzhb2); skip))
  all_goals
    refine bodyPost_ret (v := .tuple #[.agg #[.int .i64 (sel (mtOk x y a b p q c d) (mx x p)), .int .i64 (sel (mtOk x y a b p q c d) (mx y q)), .int .i64 (sel (mtOk x y a b p q c d) (mn (x + a) (p + c) - mx x p)), .int .i64 (sel (mtOk x y a b p q c d) (mn (y + b) (q + d) - mx y q))], .bool (mtOk x y a b p q c d)]) (by simp [results, Try.results34, go_sem, mtOk_eq, sel, *]) rfl ⟨rfl, (by repeat (first | (with_reducible exact Below.refl _ _) | (with_reducible refine Below.drew ?_) | (with_reducible refine below_drewN ?_ _) | ((with_reducible refine Below.setCell ?_ ?_ _); rotate_left; (focus (dsimp only; omega))) | ((with_reducible refine Below.alloc ?_ ?_ _); rotate_left; (focus ((try simp only [World.size_alloc]); (first | omega | ((try simp); (try omega); done))))) | ((refine Below.trans ?_ (Below.mono (by assumption) ?_)); rotate_left; (focus ((try simp only [World.size_alloc]); (first | omega | ((try simp); (try omega); done)))))))⟩
set_option maxHeartbeats 1000000 in
theorem sMeetRects_any (x y a b p q c d : Int) (w : World) :
    Calls Try.prog 33 #[.agg #[.int .i64 x, .int .i64 y, .int .i64 a, .int .i64 b], .agg #[.int .i64 p, .int .i64 q, .int .i64 c, .int .i64 d]] w fun e w' => e = .returned (.tuple #[.agg #[.int .i64 (sel (mtOk x y a b p q c d) (mx x p)), .int .i64 (sel (mtOk x y a b p q c d) (mx y q)), .int .i64 (sel (mtOk x y a b p q c d) (mn (x + a) (p + c) - mx x p)), .int .i64 (sel (mtOk x y a b p q c d) (mn (y + b) (q + d) - mx y q))], .bool (mtOk x y a b p q c d)]) ∧ Below w.heap.size w w' := by
  by_cases hv : vR x y a b = true <;> by_cases hu : vR p q c d = true
  all_goals
    by_cases hm : mtIn x y a b p q c d = true
  all_goals
    go_enter Try.func33, Try.ntmps33
    go_wp2_with (first
      | (go_at_call 39; refine (svalidRect_any _ _ _ _ _).mono ?_; rintro e w1 ⟨rfl, hb⟩; obtain ⟨hchb, hfhb⟩ := bcell hb; have hzhb := hb.size; (try simp at hzhb); (try have z0hb : w.heap.size < w1.heap.size := (by omega)); (try have z1hb : w.heap.size + 1 < w1.heap.size := (by omega)); (try have z2hb : w.heap.size + 1 + 1 < w1.heap.size := (by omega)); (try have z3hb : w.heap.size + 1 + 1 + 1 < w1.heap.size := (by omega)); (try have z4hb : w.heap.size + 1 + 1 + 1 + 1 < w1.heap.size := (by omega)); (try have z5hb : w.heap.size + 1 + 1 + 1 + 1 + 1 < w1.heap.size := (by omega)); (try have y0hb : w0.heap.size < w1.heap.size := (by omega)); (try have hqhb := Nat.lt_of_succ_le hzhb); skip)
      | (go_at_call 53; refine (smeet_any _ _ _ _ _ _ _ _ _ hv hu).mono ?_; rintro e w2 ⟨rfl, hb2⟩; obtain ⟨hchb2, hfhb2⟩ := bcell hb2; have hzhb2 := hb2.size; (try simp at hzhb2); (try have z0hb2 : w.heap.size < w2.heap.size := (by omega)); (try have z1hb2 : w.heap.size + 1 < w2.heap.size := (by omega)); (try have z2hb2 : w.heap.size + 1 + 1 < w2.heap.size := (by omega)); (try have z3hb2 : w.heap.size + 1 + 1 + 1 < w2.heap.size := (by omega)); (try have z4hb2 : w.heap.size + 1 + 1 + 1 + 1 < w2.heap.size := (by omega)); (try have z5hb2 : w.heap.size + 1 + 1 + 1 + 1 + 1 < w2.heap.size := (by omega)); (try have y0hb2 : w0.heap.size < w2.heap.size := (by omega)); (try have hqhb2 := Nat.lt_of_succ_le hzhb2); skip))
  all_goals
    refine bodyPost_ret (v := .tuple #[.agg #[.int .i64 (sel (mtOk x y a b p q c d) (mx x p)), .int .i64 (sel (mtOk x y a b p q c d) (mx y q)), .int .i64 (sel (mtOk x y a b p q c d) (mn (x + a) (p + c) - mx x p)), .int .i64 (sel (mtOk x y a b p q c d) (mn (y + b) (q + d) - mx y q))], .bool (mtOk x y a b p q c d)]) (by simp [results, Try.results33, go_sem, mtOk_eq, sel, *]) rfl ⟨rfl, (by repeat (first | (with_reducible exact Below.refl _ _) | (with_reducible refine Below.drew ?_) | (with_reducible refine below_drewN ?_ _) | ((with_reducible refine Below.setCell ?_ ?_ _); rotate_left; (focus (dsimp only; omega))) | ((with_reducible refine Below.alloc ?_ ?_ _); rotate_left; (focus ((try simp only [World.size_alloc]); (first | omega | ((try simp); (try omega); done))))) | ((refine Below.trans ?_ (Below.mono (by assumption) ?_)); rotate_left; (focus ((try simp only [World.size_alloc]); (first | omega | ((try simp); (try omega); done)))))))⟩
end Go.Proofs.Ythpohaijjlfdoaa
