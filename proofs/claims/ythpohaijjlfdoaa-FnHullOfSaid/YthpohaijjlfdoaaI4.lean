/- The law of hulls that have both rectangles inside (P6): the walk. -/
import Derived.Test.YthpohaijjlfdoaaE
import Derived.Test.YthpohaijjlfdoaaG2
import Derived.Test.YthpohaijjlfdoaaI0
import Derived.Test.YthpohaijjlfdoaaK
import Derived.Deep.DeepCutAuto
namespace Go.Proofs.Ythpohaijjlfdoaa
open Go.RowKit

theorem hlx_iff {x y a b p q c d : Int} : hlOk x y a b p q c d = true ↔ vR x y a b = true ∧ vR p q c d = true ∧ vR (mn x p) (mn y q) (mx (x + a) (p + c) - mn x p) (mx (y + b) (q + d) - mn y q) = true := by
  unfold hlOk; simp [and_assoc]
theorem bool2 {X x p : Int} (h : X = x ∨ X = p) : (X == x) = true ∨ ((X == x) = false ∧ (X == p) = true) := by
  by_cases h1 : X = x
  · exact .inl (by simp [h1])
  · exact .inr ⟨by simp [h1], by simp; exact h.resolve_left h1⟩
/- The hull by four numbers of which the walk is told no more than it needs. -/
def HullIs (x a p c X W : Int) : Prop := (X = x ∨ X = p) ∧ (X + W = x + a ∨ X + W = p + c) ∧ X ≤ x ∧ X ≤ p ∧ x + a ≤ X + W ∧ p + c ≤ X + W
theorem hullIs (x a p c : Int) : HullIs x a p c (mn x p) (mx (x + a) (p + c) - mn x p) := by unfold HullIs mn mx; omega
def HullGot (x y a b p q c d : Int) (w : World) (e : Ending) (w' : World) : Prop :=
  e = .returned (.tuple #[.agg #[.int .i64 (mn x p), .int .i64 (mn y q), .int .i64 (mx (x + a) (p + c) - mn x p), .int .i64 (mx (y + b) (q + d) - mn y q)], .bool true]) ∧ Below w.heap.size w w'
theorem iHullOf_t (x y a b p q c d : Int) (w : World) (h : hlOk x y a b p q c d = true) :
    Calls Try.prog 28 #[.agg #[.int .i64 x, .int .i64 y, .int .i64 a, .int .i64 b], .agg #[.int .i64 p, .int .i64 q, .int .i64 c, .int .i64 d]] w (HullGot x y a b p q c d w) :=
  (iHullOf_any x y a b p q c d w).mono fun _ _ ⟨he, hb⟩ => ⟨by rw [he, h]; rfl, hb⟩
theorem sHullOf_t (x y a b p q c d : Int) (w : World) (h : hlOk x y a b p q c d = true) :
    Calls Try.prog 27 #[.agg #[.int .i64 x, .int .i64 y, .int .i64 a, .int .i64 b], .agg #[.int .i64 p, .int .i64 q, .int .i64 c, .int .i64 d]] w (HullGot x y a b p q c d w) :=
  (sHullOf_any x y a b p q c d w).mono fun _ _ ⟨he, hb⟩ => ⟨by rw [he, h]; rfl, hb⟩
theorem iHullOf_f (x y a b p q c d : Int) (w : World) (h : hlOk x y a b p q c d = false) :
    Calls Try.prog 28 #[.agg #[.int .i64 x, .int .i64 y, .int .i64 a, .int .i64 b], .agg #[.int .i64 p, .int .i64 q, .int .i64 c, .int .i64 d]] w fun e w' => e = .returned (.tuple #[.agg #[.int .i64 0, .int .i64 0, .int .i64 0, .int .i64 0], .bool false]) ∧ Below w.heap.size w w' :=
  (iHullOf_any x y a b p q c d w).mono fun _ _ ⟨he, hb⟩ => ⟨by rw [he, h]; rfl, hb⟩
theorem sHullOf_f (x y a b p q c d : Int) (w : World) (h : hlOk x y a b p q c d = false) :
    Calls Try.prog 27 #[.agg #[.int .i64 x, .int .i64 y, .int .i64 a, .int .i64 b], .agg #[.int .i64 p, .int .i64 q, .int .i64 c, .int .i64 d]] w fun e w' => e = .returned (.tuple #[.agg #[.int .i64 0, .int .i64 0, .int .i64 0, .int .i64 0], .bool false]) ∧ Below w.heap.size w w' :=
  (sHullOf_any x y a b p q c d w).mono fun _ _ ⟨he, hb⟩ => ⟨by rw [he, h]; rfl, hb⟩
/- The same at numbers X, Y, W, H of which only their place is known. -/
theorem iHullOf_n (x y a b p q c d : Int) (w : World) (X Y W H : Int) (h : hlOk x y a b p q c d = true) (e1 : Hid (mn x p = X)) (e2 : Hid (mn y q = Y)) (e3 : Hid (mx (x + a) (p + c) - mn x p = W)) (e4 : Hid (mx (y + b) (q + d) - mn y q = H)) :
    Calls Try.prog 28 #[.agg #[.int .i64 x, .int .i64 y, .int .i64 a, .int .i64 b], .agg #[.int .i64 p, .int .i64 q, .int .i64 c, .int .i64 d]] w fun e w' => e = .returned (.tuple #[.agg #[.int .i64 X, .int .i64 Y, .int .i64 W, .int .i64 H], .bool true]) ∧ Below w.heap.size w w' :=
  (iHullOf_t x y a b p q c d w h).mono fun _ _ ⟨he, hb⟩ => ⟨by rw [he, e3.out, e4.out, e1.out, e2.out], hb⟩
theorem sHullOf_n (x y a b p q c d : Int) (w : World) (X Y W H : Int) (h : hlOk x y a b p q c d = true) (e1 : Hid (mn x p = X)) (e2 : Hid (mn y q = Y)) (e3 : Hid (mx (x + a) (p + c) - mn x p = W)) (e4 : Hid (mx (y + b) (q + d) - mn y q = H)) :
    Calls Try.prog 27 #[.agg #[.int .i64 x, .int .i64 y, .int .i64 a, .int .i64 b], .agg #[.int .i64 p, .int .i64 q, .int .i64 c, .int .i64 d]] w fun e w' => e = .returned (.tuple #[.agg #[.int .i64 X, .int .i64 Y, .int .i64 W, .int .i64 H], .bool true]) ∧ Below w.heap.size w w' :=
  (sHullOf_t x y a b p q c d w h).mono fun _ _ ⟨he, hb⟩ => ⟨by rw [he, e3.out, e4.out, e1.out, e2.out], hb⟩
theorem inside_t (x y a b p q c d : Int) (w : World) (h1 : Sm x) (h2 : Sm y) (h3 : Sm a) (h4 : Sm b) (h5 : Sm p) (h6 : Sm q) (h7 : Sm c) (h8 : Sm d) (h : insB x y a b p q c d = true) :
    Calls Try.prog 38 #[.agg #[.int .i64 x, .int .i64 y, .int .i64 a, .int .i64 b], .agg #[.int .i64 p, .int .i64 q, .int .i64 c, .int .i64 d]] w fun e w' => e = .returned (.bool true) ∧ Below w.heap.size w w' :=
  (inside_any x y a b p q c d w h1 h2 h3 h4 h5 h6 h7 h8).mono fun _ _ ⟨he, hb⟩ => ⟨by rw [he, h], hb⟩
/- A rectangle in a block of its own. -/
def RC (w : World) (g : Nat) (x y a b : Int) : Prop :=
  g < w.heap.size ∧ w.cell? ⟨g, 0, none⟩ = some (.int .i64 x) ∧ w.cell? ⟨g, 1, none⟩ = some (.int .i64 y) ∧ w.cell? ⟨g, 2, none⟩ = some (.int .i64 a) ∧ w.cell? ⟨g, 3, none⟩ = some (.int .i64 b)
theorem RC.new (w : World) (t : TypeId) (x y a b : Int) : RC (w.alloc (.cells #[.int .i64 x, .int .i64 y, .int .i64 a, .int .i64 b] t)) w.heap.size x y a b := by
  refine ⟨by simp, ?_, ?_, ?_, ?_⟩ <;> simp [go_sem]
theorem RC.new' (w : World) (t : TypeId) (x y a b : Int) {g : Nat} (hg : w.heap.size = g) : RC (w.alloc (.cells #[.int .i64 x, .int .i64 y, .int .i64 a, .int .i64 b] t)) g x y a b := hg ▸ RC.new w t x y a b
theorem RC.below {w w' : World} {g : Nat} {x y a b : Int} (h : RC w g x y a b) (hb : Below w.heap.size w w') : RC w' g x y a b := by
  obtain ⟨h0, h1, h2, h3, h4⟩ := h
  have hc := (bcell hb).1
  exact ⟨Nat.lt_of_lt_of_le h0 hb.size, (hc _ _ h0).trans h1, (hc _ _ h0).trans h2, (hc _ _ h0).trans h3, (hc _ _ h0).trans h4⟩
theorem RC.alloc {w : World} {g : Nat} {x y a b : Int} (h : RC w g x y a b) (o : Obj) : RC (w.alloc o) g x y a b := h.below ((Below.refl _ _).alloc (Nat.le_refl _) o)
def H3 (w : World) (g3 g4 g5 : Nat) (x y a b p q c2 d X Y U V : Int) (wr : World) : Prop :=
  RC wr g3 x y a b ∧ RC wr g4 p q c2 d ∧ RC wr g5 X Y U V ∧ Below w.heap.size w wr
theorem H3.below {w : World} {g3 g4 g5 : Nat} {x y a b p q c2 d X Y U V : Int} {wr W : World} (h : H3 w g3 g4 g5 x y a b p q c2 d X Y U V wr) (hb : Below wr.heap.size wr W) : H3 w g3 g4 g5 x y a b p q c2 d X Y U V W :=
  ⟨h.1.below hb, h.2.1.below hb, h.2.2.1.below hb, h.2.2.2.trans (hb.mono h.2.2.2.size)⟩
set_option maxHeartbeats 4000000 in
theorem walkFnHullOf (A : Option Addr) (n c : Nat) (zs : List Int) (w : World) (h : IsRow .u8 w A n c zs) :
    Calls Try.prog 16 #[.slice A n c] w fun e w' => e = .returned (.bool true) ∧ Below w.heap.size w w' := by
  have H := Lib.hid h
  have hn : (n : Int) ≤ 9223372036854775807 := by obtain ⟨h1, h2, _⟩ := bytes_of_row h; unfold maxLen at h2; omega
  clear h
  by_cases hl : (1048576 : Int) < n
  · go_enter Try.func16, Try.ntmps16
    go_wp2
    go_ret
    exact ⟨rfl, Below.refl _ _⟩
  go_enter Try.func16, Try.ntmps16
  go_wp2_with fail
  refine (DrawHullOf_any _ _ _ _ _ H.out).mono ?_
  rintro e w1 ⟨x, y, a, b, p, q, c2, d, rfl, ⟨⟨x0, x1⟩, ⟨y0, y1⟩, ⟨a0, a1⟩, ⟨b0, b1⟩⟩, ⟨⟨p0, p1⟩, ⟨q0, q1⟩, ⟨c0, c1⟩, ⟨d0, d1⟩⟩, hb1⟩
  obtain ⟨hchb1, hfhb1⟩ := bcell hb1
  have hz1 := hb1.size
  cases hk : hlOk x y a b p q c2 d
  · go_wp2_with (first | (go_at_call 28; ((with_reducible refine (iHullOf_f x y a b p q c2 d _ hk).mono ?_); (rintro e w2 ⟨rfl, hb2⟩; obtain ⟨hchb2, hfhb2⟩ := bcell hb2; have hzhb2 := hb2.size; (try simp at hzhb2); (try have hqhb2 := Nat.lt_of_succ_le hzhb2); (try have yyw1_0_0hb2 : w1.heap.size < w2.heap.size := (by omega)); (try have yyw1_0_1hb2 : w1.heap.size < w2.heap.size + 1 := (by omega)); (try have yyw1_0_2hb2 : w1.heap.size < w2.heap.size + 1 + 1 := (by omega)); (try have yyw1_1_0hb2 : w1.heap.size + 1 < w2.heap.size := (by omega)); (try have yyw1_1_1hb2 : w1.heap.size + 1 < w2.heap.size + 1 := (by omega)); (try have yyw1_1_2hb2 : w1.heap.size + 1 < w2.heap.size + 1 + 1 := (by omega)); (try have yyw3_0_0hb2 : w3.heap.size < w2.heap.size := (by omega)); (try have yyw3_0_1hb2 : w3.heap.size < w2.heap.size + 1 := (by omega)); (try have yyw3_0_2hb2 : w3.heap.size < w2.heap.size + 1 + 1 := (by omega)); (try have yyw4_0_0hb2 : w4.heap.size < w2.heap.size := (by omega)); (try have yyw4_0_1hb2 : w4.heap.size < w2.heap.size + 1 := (by omega)); (try have yyw4_0_2hb2 : w4.heap.size < w2.heap.size + 1 + 1 := (by omega)); (try have yyw5_0_0hb2 : w5.heap.size < w2.heap.size := (by omega)); (try have yyw5_0_1hb2 : w5.heap.size < w2.heap.size + 1 := (by omega)); (try have yyw5_0_2hb2 : w5.heap.size < w2.heap.size + 1 + 1 := (by omega)); (try have yyw6_0_0hb2 : w6.heap.size < w2.heap.size := (by omega)); (try have yyw6_0_1hb2 : w6.heap.size < w2.heap.size + 1 := (by omega)); (try have yyw6_0_2hb2 : w6.heap.size < w2.heap.size + 1 + 1 := (by omega)); (try have yyw7_0_0hb2 : w7.heap.size < w2.heap.size := (by omega)); (try have yyw7_0_1hb2 : w7.heap.size < w2.heap.size + 1 := (by omega)); (try have yyw7_0_2hb2 : w7.heap.size < w2.heap.size + 1 + 1 := (by omega)); (try have yyw8_0_0hb2 : w8.heap.size < w2.heap.size := (by omega)); (try have yyw8_0_1hb2 : w8.heap.size < w2.heap.size + 1 := (by omega)); (try have yyw8_0_2hb2 : w8.heap.size < w2.heap.size + 1 + 1 := (by omega)); skip))) | (go_at_call 27; ((with_reducible refine (sHullOf_f x y a b p q c2 d _ hk).mono ?_); (rintro e w3 ⟨rfl, hb3⟩; obtain ⟨hchb3, hfhb3⟩ := bcell hb3; have hzhb3 := hb3.size; (try simp at hzhb3); (try have hqhb3 := Nat.lt_of_succ_le hzhb3); (try have yyw1_0_0hb3 : w1.heap.size < w3.heap.size := (by omega)); (try have yyw1_0_1hb3 : w1.heap.size < w3.heap.size + 1 := (by omega)); (try have yyw1_0_2hb3 : w1.heap.size < w3.heap.size + 1 + 1 := (by omega)); (try have yyw1_1_0hb3 : w1.heap.size + 1 < w3.heap.size := (by omega)); (try have yyw1_1_1hb3 : w1.heap.size + 1 < w3.heap.size + 1 := (by omega)); (try have yyw1_1_2hb3 : w1.heap.size + 1 < w3.heap.size + 1 + 1 := (by omega)); (try have yyw2_0_0hb3 : w2.heap.size < w3.heap.size := (by omega)); (try have yyw2_0_1hb3 : w2.heap.size < w3.heap.size + 1 := (by omega)); (try have yyw2_0_2hb3 : w2.heap.size < w3.heap.size + 1 + 1 := (by omega)); (try have yyw4_0_0hb3 : w4.heap.size < w3.heap.size := (by omega)); (try have yyw4_0_1hb3 : w4.heap.size < w3.heap.size + 1 := (by omega)); (try have yyw4_0_2hb3 : w4.heap.size < w3.heap.size + 1 + 1 := (by omega)); (try have yyw5_0_0hb3 : w5.heap.size < w3.heap.size := (by omega)); (try have yyw5_0_1hb3 : w5.heap.size < w3.heap.size + 1 := (by omega)); (try have yyw5_0_2hb3 : w5.heap.size < w3.heap.size + 1 + 1 := (by omega)); (try have yyw6_0_0hb3 : w6.heap.size < w3.heap.size := (by omega)); (try have yyw6_0_1hb3 : w6.heap.size < w3.heap.size + 1 := (by omega)); (try have yyw6_0_2hb3 : w6.heap.size < w3.heap.size + 1 + 1 := (by omega)); (try have yyw7_0_0hb3 : w7.heap.size < w3.heap.size := (by omega)); (try have yyw7_0_1hb3 : w7.heap.size < w3.heap.size + 1 := (by omega)); (try have yyw7_0_2hb3 : w7.heap.size < w3.heap.size + 1 + 1 := (by omega)); (try have yyw8_0_0hb3 : w8.heap.size < w3.heap.size := (by omega)); (try have yyw8_0_1hb3 : w8.heap.size < w3.heap.size + 1 := (by omega)); (try have yyw8_0_2hb3 : w8.heap.size < w3.heap.size + 1 + 1 := (by omega)); skip))))
    all_goals go_ret
    all_goals exact ⟨rfl, (by repeat (first | (with_reducible exact Below.refl _ _) | (with_reducible refine Below.drew ?_) | (with_reducible refine below_drewN ?_ _) | ((with_reducible refine Below.setCell ?_ ?_ _); rotate_left; (focus (dsimp only; omega))) | ((with_reducible refine Below.alloc ?_ ?_ _); rotate_left; (focus ((try simp only [World.size_alloc]); (first | omega | ((try simp); (try omega); done))))) | ((refine Below.trans ?_ (Below.mono (by assumption) ?_)); rotate_left; (focus ((try simp only [World.size_alloc]); (first | omega | ((try simp); (try omega); done)))))))⟩
  · have HX := Lib.hid (hullIs x a p c2)
    have HY := Lib.hid (hullIs y b q d)
    obtain ⟨X, e1⟩ : ∃ X, Hid (mn x p = X) := ⟨_, rfl⟩
    obtain ⟨Y, e2⟩ : ∃ Y, Hid (mn y q = Y) := ⟨_, rfl⟩
    rw [e1.out] at HX
    rw [e2.out] at HY
    obtain ⟨U, e3'⟩ : ∃ U, Hid (mx (x + a) (p + c2) - X = U) := ⟨_, rfl⟩
    obtain ⟨V, e4'⟩ : ∃ V, Hid (mx (y + b) (q + d) - Y = V) := ⟨_, rfl⟩
    rw [e3'.out] at HX
    rw [e4'.out] at HY
    have e3 : Hid (mx (x + a) (p + c2) - mn x p = U) := by rw [e1.out]; exact e3'.out
    have e4 : Hid (mx (y + b) (q + d) - mn y q = V) := by rw [e2.out]; exact e4'.out
    clear e3' e4'
    have bX : -300000 ≤ X ∧ X ≤ 300000 := by have := HX.out; unfold HullIs at this; omega
    have bY : -300000 ≤ Y ∧ Y ≤ 300000 := by have := HY.out; unfold HullIs at this; omega
    have bU : -900000 ≤ U ∧ U ≤ 900000 := by have := HX.out; unfold HullIs at this; omega
    have bV : -900000 ≤ V ∧ V ≤ 900000 := by have := HY.out; unfold HullIs at this; omega
    obtain ⟨X0, X1⟩ := bX
    obtain ⟨Y0, Y1⟩ := bY
    obtain ⟨U0, U1⟩ := bU
    obtain ⟨V0, V1⟩ := bV
    have sx := Lib.hid (show Sm x by unfold Sm; omega)
    have sy := Lib.hid (show Sm y by unfold Sm; omega)
    have sa := Lib.hid (show Sm a by unfold Sm; omega)
    have sb := Lib.hid (show Sm b by unfold Sm; omega)
    have sp := Lib.hid (show Sm p by unfold Sm; omega)
    have sq := Lib.hid (show Sm q by unfold Sm; omega)
    have sc := Lib.hid (show Sm c2 by unfold Sm; omega)
    have sd := Lib.hid (show Sm d by unfold Sm; omega)
    have sX := Lib.hid (show Sm X by unfold Sm; omega)
    have sY := Lib.hid (show Sm Y by unfold Sm; omega)
    have sU := Lib.hid (show Sm U by unfold Sm; omega)
    have sV := Lib.hid (show Sm V by unfold Sm; omega)
    have iA := Lib.hid (show insB x y a b X Y U V = true by have h1 := HX.out; have h2 := HY.out; unfold HullIs at h1 h2; unfold insB; simp; omega)
    have iB := Lib.hid (show insB p q c2 d X Y U V = true by have h1 := HX.out; have h2 := HY.out; unfold HullIs at h1 h2; unfold insB; simp; omega)
    have hz1' : w.heap.size ≤ w1.heap.size := hz1
    have HB1 := Lib.hid hb1
    clear hb1 hchb1 hfhb1 hz1
    have p1 : w1.heap.size < w1.heap.size + 1 + 1 := by omega
    have p2 : w1.heap.size + 1 < w1.heap.size + 1 + 1 := by omega
    go_upto_region 8 with (first
      | (go_at_call 28; ((with_reducible refine (iHullOf_n x y a b p q c2 d _ X Y U V hk e1 e2 e3 e4).mono ?_); (rintro e w2 ⟨rfl, hb2⟩; obtain ⟨hc2, hf2⟩ := bcell hb2; have hz2 := hb2.size; (simp only [World.size_alloc] at hz2); have q1 : w1.heap.size < w2.heap.size := (by omega); have q2 : w1.heap.size + 1 < w2.heap.size := (by omega); have q3 : w1.heap.size < w2.heap.size + 1 := (by omega); have q4 : w1.heap.size + 1 < w2.heap.size + 1 := (by omega))))
      | (go_at_call 27; ((with_reducible refine (sHullOf_n x y a b p q c2 d _ X Y U V hk e1 e2 e3 e4).mono ?_); (rintro e w3 ⟨rfl, hb3⟩; obtain ⟨hc3, hf3⟩ := bcell hb3; have hz3 := hb3.size; (simp only [World.size_alloc] at hz3); have q5 : w1.heap.size < w3.heap.size := (by omega); have q6 : w1.heap.size + 1 < w3.heap.size := (by omega); have q7 : w2.heap.size < w3.heap.size := (by omega)))))
    have HX' := HX.out
    have HY' := HY.out
    unfold HullIs at HX' HY'
    have r3 : RC w3 w1.heap.size x y a b := (((RC.new w1 26 x y a b).alloc _).below hb2 |>.alloc _).below hb3
    have r4 : RC w3 (w1.heap.size + 1) p q c2 d := ((RC.new' (w1.alloc (.cells #[.int .i64 x, .int .i64 y, .int .i64 a, .int .i64 b] 26)) 26 p q c2 d (by simp)).below hb2 |>.alloc _).below hb3
    have r5 : RC w3 w2.heap.size X Y U V := (RC.new w2 26 X Y U V).below hb3
    have BW : Below w.heap.size w w3 := (((HB1.out.alloc hz1' _).alloc (by simp; omega) _).trans (hb2.mono (by simp; omega)) |>.alloc (by omega) _).trans (hb3.mono (by simp; omega))
    clear hc2 hf2 hz2 hc3 hf3 hz3 hb2 hb3 q1 q2 q3 q4 q5 q6 q7 p1 p2
    have R3 := Lib.hid (r3.alloc (.cells #[.int .i64 X, .int .i64 Y, .int .i64 U, .int .i64 V] 26))
    have R4 := Lib.hid (r4.alloc (.cells #[.int .i64 X, .int .i64 Y, .int .i64 U, .int .i64 V] 26))
    have R5 := Lib.hid (r5.alloc (.cells #[.int .i64 X, .int .i64 Y, .int .i64 U, .int .i64 V] 26))
    have BW' := Lib.hid (BW.alloc (by have := BW.size; omega) (.cells #[.int .i64 X, .int .i64 Y, .int .i64 U, .int .i64 V] 26))
    clear r3 r4 r5 BW
    generalize hW : w3.alloc (.cells #[.int .i64 X, .int .i64 Y, .int .i64 U, .int .i64 V] 26) = W at R3 R4 R5 BW' ⊢
    clear hW
    have f0 : ∀ m : Kept (H3 w w1.heap.size (w1.heap.size + 1) w2.heap.size x y a b p q c2 d X Y U V), m.val.cell? ⟨w1.heap.size, 0, none⟩ = some (.int .i64 x) := fun m => m.ok.1.2.1
    have f1 : ∀ m : Kept (H3 w w1.heap.size (w1.heap.size + 1) w2.heap.size x y a b p q c2 d X Y U V), m.val.cell? ⟨w1.heap.size, 1, none⟩ = some (.int .i64 y) := fun m => m.ok.1.2.2.1
    have f2 : ∀ m : Kept (H3 w w1.heap.size (w1.heap.size + 1) w2.heap.size x y a b p q c2 d X Y U V), m.val.cell? ⟨w1.heap.size, 2, none⟩ = some (.int .i64 a) := fun m => m.ok.1.2.2.2.1
    have f3 : ∀ m : Kept (H3 w w1.heap.size (w1.heap.size + 1) w2.heap.size x y a b p q c2 d X Y U V), m.val.cell? ⟨w1.heap.size, 3, none⟩ = some (.int .i64 b) := fun m => m.ok.1.2.2.2.2
    have f4 : ∀ m : Kept (H3 w w1.heap.size (w1.heap.size + 1) w2.heap.size x y a b p q c2 d X Y U V), m.val.cell? ⟨w1.heap.size + 1, 0, none⟩ = some (.int .i64 p) := fun m => m.ok.2.1.2.1
    have f5 : ∀ m : Kept (H3 w w1.heap.size (w1.heap.size + 1) w2.heap.size x y a b p q c2 d X Y U V), m.val.cell? ⟨w1.heap.size + 1, 1, none⟩ = some (.int .i64 q) := fun m => m.ok.2.1.2.2.1
    have f6 : ∀ m : Kept (H3 w w1.heap.size (w1.heap.size + 1) w2.heap.size x y a b p q c2 d X Y U V), m.val.cell? ⟨w1.heap.size + 1, 2, none⟩ = some (.int .i64 c2) := fun m => m.ok.2.1.2.2.2.1
    have f7 : ∀ m : Kept (H3 w w1.heap.size (w1.heap.size + 1) w2.heap.size x y a b p q c2 d X Y U V), m.val.cell? ⟨w1.heap.size + 1, 3, none⟩ = some (.int .i64 d) := fun m => m.ok.2.1.2.2.2.2
    have f8 : ∀ m : Kept (H3 w w1.heap.size (w1.heap.size + 1) w2.heap.size x y a b p q c2 d X Y U V), m.val.cell? ⟨w2.heap.size, 0, none⟩ = some (.int .i64 X) := fun m => m.ok.2.2.1.2.1
    have f9 : ∀ m : Kept (H3 w w1.heap.size (w1.heap.size + 1) w2.heap.size x y a b p q c2 d X Y U V), m.val.cell? ⟨w2.heap.size, 1, none⟩ = some (.int .i64 Y) := fun m => m.ok.2.2.1.2.2.1
    have f10 : ∀ m : Kept (H3 w w1.heap.size (w1.heap.size + 1) w2.heap.size x y a b p q c2 d X Y U V), m.val.cell? ⟨w2.heap.size, 2, none⟩ = some (.int .i64 U) := fun m => m.ok.2.2.1.2.2.2.1
    have f11 : ∀ m : Kept (H3 w w1.heap.size (w1.heap.size + 1) w2.heap.size x y a b p q c2 d X Y U V), m.val.cell? ⟨w2.heap.size, 3, none⟩ = some (.int .i64 V) := fun m => m.ok.2.2.1.2.2.2.2
    have HK := Lib.hid (fun (m : Kept (H3 w w1.heap.size (w1.heap.size + 1) w2.heap.size x y a b p q c2 d X Y U V)) (W : World) (hb : Below m.val.heap.size m.val W) => H3.below m.ok hb)
    have HS0 : Hid (H3 w w1.heap.size (w1.heap.size + 1) w2.heap.size x y a b p q c2 d X Y U V W) := ⟨R3.out, R4.out, R5.out, BW'.out⟩
    clear R3 R4 R5 BW'
    rcases bool2 HX'.1 with d1 | ⟨d1, k1⟩ <;> rcases bool2 HX'.2.1 with d3 | ⟨d3, k3⟩ <;> rcases bool2 HY'.1 with d2 | ⟨d2, k2⟩ <;> rcases bool2 HY'.2.1 with d4 | ⟨d4, k4⟩
    all_goals clear HX' HY' HX HY e1 e2 e3 e4 hk H hn hl HB1 hz1'
    all_goals
      dsimp only [List.append]
      refine region_keep0 (S := H3 w w1.heap.size (w1.heap.size + 1) w2.heap.size x y a b p q c2 d X Y U V) HS0.out fun hne => ?_
      repeat (go_big_quiet_step (first
        | (go_at_call 38; with_reducible exact keep_call (inside_t x y a b X Y U V _ sx.out sy.out sa.out sb.out sX.out sY.out sU.out sV.out iA.out) (HK.out _))
        | (go_at_call 38; with_reducible exact keep_call (inside_t p q c2 d X Y U V _ sp.out sq.out sc.out sd.out sX.out sY.out sU.out sV.out iB.out) (HK.out _))))
      refine wpQuiet_nil ?_
      intro w9 hw'
      obtain ⟨m9, hw''⟩ := hw'
      have hS9 := m9.ok
      rw [← hw''] at hS9
      clear hw''
      have HS9 := Lib.hid hS9.2.2.2
      clear hS9
      clear f0 f1 f2 f3 f4 f5 f6 f7 f8 f9 f10 f11 HK
      go_wp2
      go_ret
      exact ⟨ret_bool (by simp_all), HS9.out⟩
end Go.Proofs.Ythpohaijjlfdoaa
