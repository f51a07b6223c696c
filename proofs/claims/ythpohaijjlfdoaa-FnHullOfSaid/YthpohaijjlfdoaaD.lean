/- Contracts of inset and InsetRect, eqRect, over the rectangle seat's program. -/
import Derived.Test.YthpohaijjlfdoaaB
namespace Go.Proofs.Ythpohaijjlfdoaa
open Go.RowKit

set_option maxHeartbeats 4000000 in
theorem iinset_any (x y a b k : Int) (w : World) (hv : vR x y a b = true) (hk : inB k 0 50 = true) :
    Calls Try.prog 52 #[.agg #[.int .i64 x, .int .i64 y, .int .i64 a, .int .i64 b], .int .i64 k] w fun e w' => e = .returned (.agg #[.int .i64 (isX x a k), .int .i64 (isX y b k), .int .i64 (isW a k), .int .i64 (isW b k)]) ∧ Below w.heap.size w w' := by
  obtain ⟨⟨h1, h2⟩, ⟨h3, h4⟩, ⟨h5, h6⟩, h7, h8⟩ := vR_iff.1 hv
  obtain ⟨g1, g2⟩ := inB_iff.1 hk
  clear hv hk
  go_enter Try.func52, Try.ntmps52
  go_wp2
  go_quiet (fail)
  go_wp2
  all_goals
    refine bodyPost_ret (v := .agg #[.int .i64 (isX x a k), .int .i64 (isX y b k), .int .i64 (isW a k), .int .i64 (isW b k)]) (by simp [results, Try.results52, go_sem]; unfold isX isW; omega) rfl ⟨rfl, (by repeat (first | (with_reducible exact Below.refl _ _) | (with_reducible refine Below.drew ?_) | (with_reducible refine below_drewN ?_ _) | ((with_reducible refine Below.setCell ?_ ?_ _); rotate_left; (focus (dsimp only; omega))) | ((with_reducible refine Below.alloc ?_ ?_ _); rotate_left; (focus ((try simp only [World.size_alloc]); (first | omega | ((try simp); (try omega); done))))) | ((refine Below.trans ?_ (Below.mono (by assumption) ?_)); rotate_left; (focus ((try simp only [World.size_alloc]); (first | omega | ((try simp); (try omega); done)))))))⟩
set_option maxHeartbeats 2000000 in
theorem iInsetRect_any (x y a b k : Int) (w : World) :
    Calls Try.prog 32 #[.agg #[.int .i64 x, .int .i64 y, .int .i64 a, .int .i64 b], .int .i64 k] w fun e w' => e = .returned (.tuple #[.agg #[.int .i64 (sel (isOk x y a b k) (isX x a k)), .int .i64 (sel (isOk x y a b k) (isX y b k)), .int .i64 (sel (isOk x y a b k) (isW a k)), .int .i64 (sel (isOk x y a b k) (isW b k))], .bool (isOk x y a b k)]) ∧ Below w.heap.size w w' := by
  by_cases hv : vR x y a b = true <;> by_cases hk : inB k 0 50 = true
  all_goals
    by_cases hm : vR (isX x a k) (isX y b k) (isW a k) (isW b k) = true
  all_goals
    go_enter Try.func32, Try.ntmps32
    go_wp2_with (first
      | (go_at_call 40; refine (rvalid_any _ _ _ _ _).mono ?_; rintro e w1 ⟨rfl, hb⟩; obtain ⟨hchb, hfhb⟩ := bcell hb; have hzhb := hb.size; (try simp at hzhb); (try have z0hb : w.heap.size < w1.heap.size := (by omega)); (try have z1hb : w.heap.size + 1 < w1.heap.size := (by omega)); (try have z2hb : w.heap.size + 1 + 1 < w1.heap.size := (by omega)); (try have z3hb : w.heap.size + 1 + 1 + 1 < w1.heap.size := (by omega)); (try have z4hb : w.heap.size + 1 + 1 + 1 + 1 < w1.heap.size := (by omega)); (try have z5hb : w.heap.size + 1 + 1 + 1 + 1 + 1 < w1.heap.size := (by omega)); (try have y0hb : w0.heap.size < w1.heap.size := (by omega)); (try have hqhb := Nat.lt_of_succ_le hzhb); skip)
      | (go_at_call 51; refine (edgeOk_any _ _).mono ?_; rintro e w_ ⟨rfl, rfl⟩)
      | (go_at_call 52; refine (iinset_any _ _ _ _ _ _ hv hk).mono ?_; rintro e w2 ⟨rfl, hb2⟩; obtain ⟨hchb2, hfhb2⟩ := bcell hb2; have hzhb2 := hb2.size; (try simp at hzhb2); (try have z0hb2 : w.heap.size < w2.heap.size := (by omega)); (try have z1hb2 : w.heap.size + 1 < w2.heap.size := (by omega)); (try have z2hb2 : w.heap.size + 1 + 1 < w2.heap.size := (by omega)); (try have z3hb2 : w.heap.size + 1 + 1 + 1 < w2.heap.size := (by omega)); (try have z4hb2 : w.heap.size + 1 + 1 + 1 + 1 < w2.heap.size := (by omega)); (try have z5hb2 : w.heap.size + 1 + 1 + 1 + 1 + 1 < w2.heap.size := (by omega)); (try have y0hb2 : w0.heap.size < w2.heap.size := (by omega)); (try have hqhb2 := Nat.lt_of_succ_le hzhb2); skip)
      | (go_at_call 47; refine (made_any _ _ _ _ _).mono ?_; rintro e w3 ⟨rfl, hb3⟩; obtain ⟨hchb3, hfhb3⟩ := bcell hb3; have hzhb3 := hb3.size; (try simp at hzhb3); (try have z0hb3 : w.heap.size < w3.heap.size := (by omega)); (try have z1hb3 : w.heap.size + 1 < w3.heap.size := (by omega)); (try have z2hb3 : w.heap.size + 1 + 1 < w3.heap.size := (by omega)); (try have z3hb3 : w.heap.size + 1 + 1 + 1 < w3.heap.size := (by omega)); (try have z4hb3 : w.heap.size + 1 + 1 + 1 + 1 < w3.heap.size := (by omega)); (try have z5hb3 : w.heap.size + 1 + 1 + 1 + 1 + 1 < w3.heap.size := (by omega)); (try have y0hb3 : w0.heap.size < w3.heap.size := (by omega)); (try have hqhb3 := Nat.lt_of_succ_le hzhb3); skip))
  all_goals
    refine bodyPost_ret (v := .tuple #[.agg #[.int .i64 (sel (isOk x y a b k) (isX x a k)), .int .i64 (sel (isOk x y a b k) (isX y b k)), .int .i64 (sel (isOk x y a b k) (isW a k)), .int .i64 (sel (isOk x y a b k) (isW b k))], .bool (isOk x y a b k)]) (by simp [results, Try.results32, go_sem, isOk, sel, *]) rfl ⟨rfl, (by repeat (first | (with_reducible exact Below.refl _ _) | (with_reducible refine Below.drew ?_) | (with_reducible refine below_drewN ?_ _) | ((with_reducible refine Below.setCell ?_ ?_ _); rotate_left; (focus (dsimp only; omega))) | ((with_reducible refine Below.alloc ?_ ?_ _); rotate_left; (focus ((try simp only [World.size_alloc]); (first | omega | ((try simp); (try omega); done))))) | ((refine Below.trans ?_ (Below.mono (by assumption) ?_)); rotate_left; (focus ((try simp only [World.size_alloc]); (first | omega | ((try simp); (try omega); done)))))))⟩
set_option maxHeartbeats 4000000 in
theorem sinset_any (x y a b k : Int) (w : World) (hv : vR x y a b = true) (hk : inB k 0 50 = true) :
    Calls Try.prog 50 #[.agg #[.int .i64 x, .int .i64 y, .int .i64 a, .int .i64 b], .int .i64 k] w fun e w' => e = .returned (.agg #[.int .i64 (isX x a k), .int .i64 (isX y b k), .int .i64 (isW a k), .int .i64 (isW b k)]) ∧ Below w.heap.size w w' := by
  obtain ⟨⟨h1, h2⟩, ⟨h3, h4⟩, ⟨h5, h6⟩, h7, h8⟩ := vR_iff.1 hv
  obtain ⟨g1, g2⟩ := inB_iff.1 hk
  clear hv hk
  go_enter Try.func50, Try.ntmps50
  go_wp2
  all_goals
    refine bodyPost_ret (v := .agg #[.int .i64 (isX x a k), .int .i64 (isX y b k), .int .i64 (isW a k), .int .i64 (isW b k)]) (by simp [results, Try.results50, go_sem]; unfold isX isW; omega) rfl ⟨rfl, (by repeat (first | (with_reducible exact Below.refl _ _) | (with_reducible refine Below.drew ?_) | (with_reducible refine below_drewN ?_ _) | ((with_reducible refine Below.setCell ?_ ?_ _); rotate_left; (focus (dsimp only; omega))) | ((with_reducible refine Below.alloc ?_ ?_ _); rotate_left; (focus ((try simp only [World.size_alloc]); (first | omega | ((try simp); (try omega); done))))) | ((refine Below.trans ?_ (Below.mono (by assumption) ?_)); rotate_left; (focus ((try simp only [World.size_alloc]); (first | omega | ((try simp); (try omega); done)))))))⟩
set_option maxHeartbeats 2000000 in
theorem sInsetRect_any (x y a b k : Int) (w : World) :
    Calls Try.prog 31 #[.agg #[.int .i64 x, .int .i64 y, .int .i64 a, .int .i64 b], .int .i64 k] w fun e w' => e = .returned (.tuple #[.agg #[.int .i64 (sel (isOk x y a b k) (isX x a k)), .int .i64 (sel (isOk x y a b k) (isX y b k)), .int .i64 (sel (isOk x y a b k) (isW a k)), .int .i64 (sel (isOk x y a b k) (isW b k))], .bool (isOk x y a b k)]) ∧ Below w.heap.size w w' := by
  by_cases hv : vR x y a b = true <;> by_cases hk : inB k 0 50 = true
  all_goals
    by_cases hm : vR (isX x a k) (isX y b k) (isW a k) (isW b k) = true
  all_goals
    go_enter Try.func31, Try.ntmps31
    go_wp2_with (first
      | (go_at_call 39; refine (svalidRect_any _ _ _ _ _).mono ?_; rintro e w1 ⟨rfl, hb⟩; obtain ⟨hchb, hfhb⟩ := bcell hb; have hzhb := hb.size; (try simp at hzhb); (try have z0hb : w.heap.size < w1.heap.size := (by omega)); (try have z1hb : w.heap.size + 1 < w1.heap.size := (by omega)); (try have z2hb : w.heap.size + 1 + 1 < w1.heap.size := (by omega)); (try have z3hb : w.heap.size + 1 + 1 + 1 < w1.heap.size := (by omega)); (try have z4hb : w.heap.size + 1 + 1 + 1 + 1 < w1.heap.size := (by omega)); (try have z5hb : w.heap.size + 1 + 1 + 1 + 1 + 1 < w1.heap.size := (by omega)); (try have y0hb : w0.heap.size < w1.heap.size := (by omega)); (try have hqhb := Nat.lt_of_succ_le hzhb); skip)
      | (go_at_call 49; refine (inRange_any _ _ _ _).mono ?_; rintro e w_ ⟨rfl, rfl⟩)
      | (go_at_call 50; refine (sinset_any _ _ _ _ _ _ hv hk).mono ?_; rintro e w2 ⟨rfl, hb2⟩; obtain ⟨hchb2, hfhb2⟩ := bcell hb2; have hzhb2 := hb2.size; (try simp at hzhb2); (try have z0hb2 : w.heap.size < w2.heap.size := (by omega)); (try have z1hb2 : w.heap.size + 1 < w2.heap.size := (by omega)); (try have z2hb2 : w.heap.size + 1 + 1 < w2.heap.size := (by omega)); (try have z3hb2 : w.heap.size + 1 + 1 + 1 < w2.heap.size := (by omega)); (try have z4hb2 : w.heap.size + 1 + 1 + 1 + 1 < w2.heap.size := (by omega)); (try have z5hb2 : w.heap.size + 1 + 1 + 1 + 1 + 1 < w2.heap.size := (by omega)); (try have y0hb2 : w0.heap.size < w2.heap.size := (by omega)); (try have hqhb2 := Nat.lt_of_succ_le hzhb2); skip))
  all_goals
    refine bodyPost_ret (v := .tuple #[.agg #[.int .i64 (sel (isOk x y a b k) (isX x a k)), .int .i64 (sel (isOk x y a b k) (isX y b k)), .int .i64 (sel (isOk x y a b k) (isW a k)), .int .i64 (sel (isOk x y a b k) (isW b k))], .bool (isOk x y a b k)]) (by simp [results, Try.results31, go_sem, isOk, sel, *]) rfl ⟨rfl, (by repeat (first | (with_reducible exact Below.refl _ _) | (with_reducible refine Below.drew ?_) | (with_reducible refine below_drewN ?_ _) | ((with_reducible refine Below.setCell ?_ ?_ _); rotate_left; (focus (dsimp only; omega))) | ((with_reducible refine Below.alloc ?_ ?_ _); rotate_left; (focus ((try simp only [World.size_alloc]); (first | omega | ((try simp); (try omega); done))))) | ((refine Below.trans ?_ (Below.mono (by assumption) ?_)); rotate_left; (focus ((try simp only [World.size_alloc]); (first | omega | ((try simp); (try omega); done)))))))⟩
end Go.Proofs.Ythpohaijjlfdoaa
