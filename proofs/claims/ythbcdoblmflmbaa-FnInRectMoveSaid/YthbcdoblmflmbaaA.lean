
/- Contracts of the rectangle functions of the program and of the reference, as plain Lean functions of their numbers. -/
import Derived.Test.YthbcdoblmflmbaaProg
import Derived.WalkKit
import Derived.WalkSpells
import Derived.WalkLawsBesides
import Derived.Lib.Hide
import Derived.Lib.MinMax
import Derived.Deep.QuietTactic
import Derived.BigQuiet
import Derived.RegionTactic
import Derived.ChangeAlike
import Derived.BigRegion
namespace Go.Proofs.Ythbcdoblmflmbaa
open Go.RowKit

theorem ret_bool {a b : Bool} (h : a = b) : Ending.returned (.bool a) = .returned (.bool b) := by rw [h]
theorem ret_int {k : IntKind} {a b : Int} (h : a = b) : Ending.returned (.int k a) = .returned (.int k b) := by rw [h]
def inB (n lo hi : Int) : Bool := decide (lo ≤ n) && decide (n ≤ hi)
theorem inB_iff {n lo hi : Int} : inB n lo hi = true ↔ lo ≤ n ∧ n ≤ hi := by unfold inB; simp
theorem inB_not {n lo hi : Int} : inB n lo hi = false ↔ ¬ (lo ≤ n ∧ n ≤ hi) := by rw [← inB_iff]; simp

set_option maxHeartbeats 400000 in
theorem within_any (n lo hi : Int) (w : World) :
    Calls Try.prog 18 #[.int .i64 n, .int .i64 lo, .int .i64 hi] w fun e w' => e = .returned (.bool (inB n lo hi)) ∧ w = w' := by
  go_enter Try.func18, Try.ntmps18
  go_wp2
  all_goals go_ret
  all_goals exact ⟨ret_bool (by unfold inB; rw [Bool.eq_iff_iff]; simp; omega), rfl⟩
set_option maxHeartbeats 400000 in
theorem inRange_any (n lo hi : Int) (w : World) :
    Calls Try.prog 20 #[.int .i64 n, .int .i64 lo, .int .i64 hi] w fun e w' => e = .returned (.bool (inB n lo hi)) ∧ w = w' := by
  go_enter Try.func20, Try.ntmps20
  go_wp2
  all_goals go_ret
  all_goals exact ⟨ret_bool (by unfold inB; rw [Bool.eq_iff_iff]; simp; omega), rfl⟩
set_option maxHeartbeats 400000 in
theorem sizeOk_any (n : Int) (w : World) :
    Calls Try.prog 19 #[.int .i64 n] w fun e w' => e = .returned (.bool (inB n 0 200000)) ∧ w = w' := by
  go_enter Try.func19, Try.ntmps19
  go_wp2_with (go_at_call 18; refine (within_any _ _ _ _).mono ?_; rintro e w' ⟨rfl, rfl⟩)
  go_ret
  exact ⟨rfl, rfl⟩
def vR (x y a b : Int) : Bool := inB x (-100000) 100000 && inB y (-100000) 100000 && inB a 0 200000 && inB b 0 200000
theorem vR_iff {x y a b : Int} : vR x y a b = true ↔ (-100000 ≤ x ∧ x ≤ 100000) ∧ (-100000 ≤ y ∧ y ≤ 100000) ∧ (0 ≤ a ∧ a ≤ 200000) ∧ (0 ≤ b ∧ b ≤ 200000) := by
  unfold vR; simp [inB_iff]; omega
set_option maxHeartbeats 400000 in
theorem rvalid_any (x y a b : Int) (w : World) :
    Calls Try.prog 12 #[.agg #[.int .i64 x, .int .i64 y, .int .i64 a, .int .i64 b]] w fun e w' => e = .returned (.bool (vR x y a b)) ∧ Below w.heap.size w w' := by
  go_enter Try.func12, Try.ntmps12
  go_wp2_with (first | (go_at_call 18; refine (within_any _ _ _ _).mono ?_; rintro e w' ⟨rfl, rfl⟩) | (go_at_call 19; refine (sizeOk_any _ _).mono ?_; rintro e w' ⟨rfl, rfl⟩))
  all_goals go_ret
  all_goals exact ⟨ret_bool (by simp_all [vR]), (Below.refl _ _).alloc (Nat.le_refl _) _⟩
set_option maxHeartbeats 400000 in
theorem svalidRect_any (x y a b : Int) (w : World) :
    Calls Try.prog 14 #[.agg #[.int .i64 x, .int .i64 y, .int .i64 a, .int .i64 b]] w fun e w' => e = .returned (.bool (vR x y a b)) ∧ Below w.heap.size w w' := by
  go_enter Try.func14, Try.ntmps14
  go_wp2_with (first | (go_at_call 20; refine (inRange_any _ _ _ _).mono ?_; rintro e w' ⟨rfl, rfl⟩))
  all_goals go_ret
  all_goals exact ⟨ret_bool (by simp_all [vR]), (Below.refl _ _).alloc (Nat.le_refl _) _⟩
set_option maxHeartbeats 400000 in
theorem iValidRect_any (x y a b : Int) (w : World) :
    Calls Try.prog 8 #[.agg #[.int .i64 x, .int .i64 y, .int .i64 a, .int .i64 b]] w fun e w' => e = .returned (.bool (vR x y a b)) ∧ Below w.heap.size w w' := by
  go_enter Try.func8, Try.ntmps8
  go_wp2_with (first | (go_at_call 12; refine (rvalid_any _ _ _ _ _).mono ?_; rintro e w' ⟨rfl, hb⟩))
  go_ret
  exact ⟨rfl, ((Below.refl _ _).alloc (Nat.le_refl _) _).trans (hb.mono (by simp))⟩
theorem bcell {W w1 : World} (hb : Below W.heap.size W w1) : (∀ b o, b < W.heap.size → w1.cell? ⟨b, o, none⟩ = W.cell? ⟨b, o, none⟩) ∧ (∀ b o, b < W.heap.size → w1.frozen? ⟨b, o, none⟩ = W.frozen? ⟨b, o, none⟩) :=
  ⟨fun b o h => hb.cell (p := ⟨b, o, none⟩) h, fun b o h => hb.frozen (p := ⟨b, o, none⟩) h⟩

theorem keep_far (w : World) (p : Addr) (u : Value) (b o : Nat) (h : b ≠ p.block) : (w.setCell p u).cell? ⟨b, o, none⟩ = w.cell? ⟨b, o, none⟩ := World.cell?_of_block (Below.heap_setCell w p u b h)
theorem keep_alloc (w : World) (x : Obj) (b o : Nat) (h : b < w.heap.size) : (w.alloc x).cell? ⟨b, o, none⟩ = w.cell? ⟨b, o, none⟩ := World.cell?_of_block (Below.heap_alloc w x b h)
theorem keep_back {w : World} {x : Obj} {b o : Nat} {v : Option Value} (hm : (w.alloc x).cell? ⟨b, o, none⟩ = v) (h : b < w.heap.size) : w.cell? ⟨b, o, none⟩ = v := (keep_alloc w x b o h).symm.trans hm
def hasB (x y a b p q : Int) : Bool := decide (x ≤ p) && decide (p < x + a) && decide (y ≤ q) && decide (q < y + b)
set_option maxHeartbeats 400000 in
theorem has_any (x y a b p q : Int) (w : World) (hv : vR x y a b = true) :
    Calls Try.prog 13 #[.agg #[.int .i64 x, .int .i64 y, .int .i64 a, .int .i64 b], .int .i64 p, .int .i64 q] w fun e w' => e = .returned (.bool (hasB x y a b p q)) ∧ Below w.heap.size w w' := by
  obtain ⟨⟨h1, h2⟩, ⟨h3, h4⟩, ⟨h5, h6⟩, h7, h8⟩ := vR_iff.1 hv
  clear hv
  go_enter Try.func13, Try.ntmps13
  go_wp2
  all_goals go_ret
  all_goals exact ⟨ret_bool (by unfold hasB; rw [Bool.eq_iff_iff]; simp; omega), (Below.refl _ _).alloc (Nat.le_refl _) _⟩
set_option maxHeartbeats 400000 in
theorem sinRect_any (x y a b p q : Int) (w : World) (hv : vR x y a b = true) :
    Calls Try.prog 15 #[.agg #[.int .i64 x, .int .i64 y, .int .i64 a, .int .i64 b], .int .i64 p, .int .i64 q] w fun e w' => e = .returned (.bool (hasB x y a b p q)) ∧ Below w.heap.size w w' := by
  obtain ⟨⟨h1, h2⟩, ⟨h3, h4⟩, ⟨h5, h6⟩, h7, h8⟩ := vR_iff.1 hv
  clear hv
  go_enter Try.func15, Try.ntmps15
  go_wp2
  all_goals go_ret
  all_goals exact ⟨ret_bool (by unfold hasB; rw [Bool.eq_iff_iff]; simp; omega), (Below.refl _ _).alloc (Nat.le_refl _) _⟩
def inR (x y a b p q : Int) : Bool := vR x y a b && hasB x y a b p q
set_option maxHeartbeats 400000 in
theorem iInRect_any (x y a b p q : Int) (w : World) :
    Calls Try.prog 6 #[.agg #[.int .i64 x, .int .i64 y, .int .i64 a, .int .i64 b], .int .i64 p, .int .i64 q] w fun e w' => e = .returned (.bool (inR x y a b p q)) ∧ Below w.heap.size w w' := by
  by_cases hv : vR x y a b = true
  all_goals
    go_enter Try.func6, Try.ntmps6
    go_wp2_with (first | (go_at_call 12; refine (rvalid_any _ _ _ _ _).mono ?_; rintro e w1 ⟨rfl, hb⟩; obtain ⟨hchb, hfhb⟩ := bcell hb; have hzhb := hb.size; (try simp at hzhb); (try have z0hb : w.heap.size < w1.heap.size := (by omega)); (try have z1hb : w.heap.size + 1 < w1.heap.size := (by omega)); (try have z2hb : w.heap.size + 1 + 1 < w1.heap.size := (by omega)); (try have z3hb : w.heap.size + 1 + 1 + 1 < w1.heap.size := (by omega)); (try have z4hb : w.heap.size + 1 + 1 + 1 + 1 < w1.heap.size := (by omega)); (try have z5hb : w.heap.size + 1 + 1 + 1 + 1 + 1 < w1.heap.size := (by omega)); (try have y0hb : w0.heap.size < w1.heap.size := (by omega)); (try have hqhb := Nat.lt_of_succ_le hzhb); (try have yyw2hb : w2.heap.size < w1.heap.size := (by omega)); (try have yyw3hb : w3.heap.size < w1.heap.size := (by omega)); skip) | (go_at_call 13; refine (has_any _ _ _ _ _ _ _ hv).mono ?_; rintro e w2 ⟨rfl, hb2⟩; obtain ⟨hchb2, hfhb2⟩ := bcell hb2; have hzhb2 := hb2.size; (try simp at hzhb2); (try have z0hb2 : w.heap.size < w2.heap.size := (by omega)); (try have z1hb2 : w.heap.size + 1 < w2.heap.size := (by omega)); (try have z2hb2 : w.heap.size + 1 + 1 < w2.heap.size := (by omega)); (try have z3hb2 : w.heap.size + 1 + 1 + 1 < w2.heap.size := (by omega)); (try have z4hb2 : w.heap.size + 1 + 1 + 1 + 1 < w2.heap.size := (by omega)); (try have z5hb2 : w.heap.size + 1 + 1 + 1 + 1 + 1 < w2.heap.size := (by omega)); (try have y0hb2 : w0.heap.size < w2.heap.size := (by omega)); (try have hqhb2 := Nat.lt_of_succ_le hzhb2); (try have yyw1hb2 : w1.heap.size < w2.heap.size := (by omega)); (try have yyw3hb2 : w3.heap.size < w2.heap.size := (by omega)); skip))
    go_ret
    exact ⟨ret_bool (by simp [inR, hv]), (by repeat (first | (with_reducible exact Below.refl _ _) | (with_reducible refine Below.drew ?_) | (with_reducible refine below_drewN ?_ _) | ((with_reducible refine Below.setCell ?_ ?_ _); rotate_left; (focus (dsimp only; omega))) | ((with_reducible refine Below.alloc ?_ ?_ _); rotate_left; (focus ((try simp only [World.size_alloc]); (first | omega | ((try simp); (try omega); done))))) | ((refine Below.trans ?_ (Below.mono (by assumption) ?_)); rotate_left; (focus ((try simp only [World.size_alloc]); (first | omega | ((try simp); (try omega); done)))))))⟩
set_option maxHeartbeats 400000 in
theorem sInRect_any (x y a b p q : Int) (w : World) :
    Calls Try.prog 7 #[.agg #[.int .i64 x, .int .i64 y, .int .i64 a, .int .i64 b], .int .i64 p, .int .i64 q] w fun e w' => e = .returned (.bool (inR x y a b p q)) ∧ Below w.heap.size w w' := by
  by_cases hv : vR x y a b = true
  all_goals
    go_enter Try.func7, Try.ntmps7
    go_wp2_with (first | (go_at_call 14; refine (svalidRect_any _ _ _ _ _).mono ?_; rintro e w1 ⟨rfl, hb⟩; obtain ⟨hchb, hfhb⟩ := bcell hb; have hzhb := hb.size; (try simp at hzhb); (try have z0hb : w.heap.size < w1.heap.size := (by omega)); (try have z1hb : w.heap.size + 1 < w1.heap.size := (by omega)); (try have z2hb : w.heap.size + 1 + 1 < w1.heap.size := (by omega)); (try have z3hb : w.heap.size + 1 + 1 + 1 < w1.heap.size := (by omega)); (try have z4hb : w.heap.size + 1 + 1 + 1 + 1 < w1.heap.size := (by omega)); (try have z5hb : w.heap.size + 1 + 1 + 1 + 1 + 1 < w1.heap.size := (by omega)); (try have y0hb : w0.heap.size < w1.heap.size := (by omega)); (try have hqhb := Nat.lt_of_succ_le hzhb); (try have yyw2hb : w2.heap.size < w1.heap.size := (by omega)); (try have yyw3hb : w3.heap.size < w1.heap.size := (by omega)); skip) | (go_at_call 15; refine (sinRect_any _ _ _ _ _ _ _ hv).mono ?_; rintro e w2 ⟨rfl, hb2⟩; obtain ⟨hchb2, hfhb2⟩ := bcell hb2; have hzhb2 := hb2.size; (try simp at hzhb2); (try have z0hb2 : w.heap.size < w2.heap.size := (by omega)); (try have z1hb2 : w.heap.size + 1 < w2.heap.size := (by omega)); (try have z2hb2 : w.heap.size + 1 + 1 < w2.heap.size := (by omega)); (try have z3hb2 : w.heap.size + 1 + 1 + 1 < w2.heap.size := (by omega)); (try have z4hb2 : w.heap.size + 1 + 1 + 1 + 1 < w2.heap.size := (by omega)); (try have z5hb2 : w.heap.size + 1 + 1 + 1 + 1 + 1 < w2.heap.size := (by omega)); (try have y0hb2 : w0.heap.size < w2.heap.size := (by omega)); (try have hqhb2 := Nat.lt_of_succ_le hzhb2); (try have yyw1hb2 : w1.heap.size < w2.heap.size := (by omega)); (try have yyw3hb2 : w3.heap.size < w2.heap.size := (by omega)); skip))
    go_ret
    exact ⟨ret_bool (by simp [inR, hv]), (by repeat (first | (with_reducible exact Below.refl _ _) | (with_reducible refine Below.drew ?_) | (with_reducible refine below_drewN ?_ _) | ((with_reducible refine Below.setCell ?_ ?_ _); rotate_left; (focus (dsimp only; omega))) | ((with_reducible refine Below.alloc ?_ ?_ _); rotate_left; (focus ((try simp only [World.size_alloc]); (first | omega | ((try simp); (try omega); done))))) | ((refine Below.trans ?_ (Below.mono (by assumption) ?_)); rotate_left; (focus ((try simp only [World.size_alloc]); (first | omega | ((try simp); (try omega); done)))))))⟩
def mn (a b : Int) : Int := min a b
def mx (a b : Int) : Int := max a b
theorem ret_agg4 {a b c d a' b' c' d' : Int} (h1 : a = a') (h2 : b = b') (h3 : c = c') (h4 : d = d') : Ending.returned (.agg #[.int .i64 a, .int .i64 b, .int .i64 c, .int .i64 d]) = Ending.returned (.agg #[.int .i64 a', .int .i64 b', .int .i64 c', .int .i64 d']) := by rw [h1, h2, h3, h4]
theorem ret_agg4b {a b c d a' b' c' d' : Int} {o o' : Bool} (h1 : a = a') (h2 : b = b') (h3 : c = c') (h4 : d = d') (h5 : o = o') : Ending.returned (.tuple #[.agg #[.int .i64 a, .int .i64 b, .int .i64 c, .int .i64 d], .bool o]) = Ending.returned (.tuple #[.agg #[.int .i64 a', .int .i64 b', .int .i64 c', .int .i64 d'], .bool o']) := by rw [h1, h2, h3, h4, h5]
def mtOk (x y a b p q c d : Int) : Bool := vR x y a b && vR p q c d && (decide (0 < mn (x + a) (p + c) - mx x p) && decide (0 < mn (y + b) (q + d) - mx y q))
def sel (o : Bool) (v : Int) : Int := if o then v else 0
theorem sel_t (v : Int) : sel true v = v := rfl
theorem sel_f (v : Int) : sel false v = 0 := rfl
def hlOk (x y a b p q c d : Int) : Bool := vR x y a b && vR p q c d && vR (mn x p) (mn y q) (mx (x + a) (p + c) - mn x p) (mx (y + b) (q + d) - mn y q)
def isW (a k : Int) : Int := max (a - 2 * k) 0
def isX (x a k : Int) : Int := x + min k (a / 2)
def isOk (x y a b k : Int) : Bool := vR x y a b && inB k 0 50 && vR (isX x a k) (isX y b k) (isW a k) (isW b k)
end Go.Proofs.Ythbcdoblmflmbaa
