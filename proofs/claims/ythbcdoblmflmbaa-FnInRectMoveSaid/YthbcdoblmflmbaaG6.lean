/- The drawn arguments of InRect. -/
import Derived.Test.YthbcdoblmflmbaaG
import Derived.Deep.RegionHeld3
namespace Go.Proofs.Ythbcdoblmflmbaa
open Go.RowKit

theorem keep_cl (w : World) (x : Obj) (b o : Nat) (h : b < w.heap.size) : (w.alloc x).cell? ⟨b, o, none⟩ = w.cell? ⟨b, o, none⟩ := World.cell?_of_block (Below.heap_alloc w x b h)
theorem keep_fz (w : World) (x : Obj) (b o : Nat) (h : b < w.heap.size) : (w.alloc x).frozen? ⟨b, o, none⟩ = w.frozen? ⟨b, o, none⟩ := World.frozen?_of_block (Below.heap_alloc w x b h)
def SomeRectIntInt (S : World → Prop) (e : Ending) (w' : World) : Prop :=
  ∃ x y a b p q : Int, e = .returned (.tuple #[.agg #[.int .i64 x, .int .i64 y, .int .i64 a, .int .i64 b], .int .i64 p, .int .i64 q]) ∧ ((-300000 ≤ x ∧ x ≤ 300000) ∧ (-300000 ≤ y ∧ y ≤ 300000) ∧ (-300000 ≤ a ∧ a ≤ 300000) ∧ (-300000 ≤ b ∧ b ≤ 300000)) ∧ (-700000 ≤ p ∧ p ≤ 700000) ∧ (-700000 ≤ q ∧ q ≤ 700000) ∧ S w'
/- Four cells of a block that may be written. -/
structure Q4 (b : Nat) (z0 z1 z2 z3 : Int) (w : World) : Prop where
  c0 : w.cell? ⟨b, 0, none⟩ = some (.int .i64 z0)
  c1 : w.cell? ⟨b, 1, none⟩ = some (.int .i64 z1)
  c2 : w.cell? ⟨b, 2, none⟩ = some (.int .i64 z2)
  c3 : w.cell? ⟨b, 3, none⟩ = some (.int .i64 z3)
  f0 : w.frozen? ⟨b, 0, none⟩ = false
  f1 : w.frozen? ⟨b, 1, none⟩ = false
  f2 : w.frozen? ⟨b, 2, none⟩ = false
  f3 : w.frozen? ⟨b, 3, none⟩ = false
section
variable {b : Nat} {z0 z1 z2 z3 : Int} {w w' : World}
theorem Q4.keep (h : Q4 b z0 z1 z2 z3 w) (hb : w'.heap[b]? = w.heap[b]?) : Q4 b z0 z1 z2 z3 w' := by
  have hc := fun o => World.cell?_of_block (w := w) (w' := w') (a := ⟨b, o, none⟩) hb
  have hf := fun o => World.frozen?_of_block (w := w) (w' := w') (a := ⟨b, o, none⟩) hb
  exact ⟨(hc 0).trans h.c0, (hc 1).trans h.c1, (hc 2).trans h.c2, (hc 3).trans h.c3, (hf 0).trans h.f0, (hf 1).trans h.f1, (hf 2).trans h.f2, (hf 3).trans h.f3⟩
theorem Q4.lt (h : Q4 b z0 z1 z2 z3 w) : b < w.heap.size := lt_of_cell h.c0
theorem Q4.alloc (h : Q4 b z0 z1 z2 z3 w) (o : Obj) : Q4 b z0 z1 z2 z3 (w.alloc o) := h.keep (Below.heap_alloc w o b h.lt)
theorem Q4.drew (h : Q4 b z0 z1 z2 z3 w) : Q4 b z0 z1 z2 z3 w.drew := h.keep rfl
theorem Q4.grown {g : Nat} (h : Q4 b z0 z1 z2 z3 w) (hg : w.grownBy w' (some g)) (hne : ¬ b = g) : Q4 b z0 z1 z2 z3 w' := h.keep (hg.block b h.lt (fun e => hne (by injection e)))
theorem Q4.far (h : Q4 b z0 z1 z2 z3 w) (p : Addr) (u : Value) (hne : ¬ b = p.block) : Q4 b z0 z1 z2 z3 (w.setCell p u) := h.keep (Below.heap_setCell w p u b hne)
def C4 (b : Nat) (z0 z1 z2 z3 : Int) (w : World) : Prop := w.cell? ⟨b, 0, none⟩ = some (.int .i64 z0) ∧ w.cell? ⟨b, 1, none⟩ = some (.int .i64 z1) ∧ w.cell? ⟨b, 2, none⟩ = some (.int .i64 z2) ∧ w.cell? ⟨b, 3, none⟩ = some (.int .i64 z3)
theorem Q4.cells (h : Q4 b z0 z1 z2 z3 w) : C4 b z0 z1 z2 z3 w := ⟨h.c0, h.c1, h.c2, h.c3⟩
end
theorem heap_new' (w : World) (o : Obj) (b : Nat) (h : b = w.heap.size) : (w.alloc o).heap[b]? = some o := by rw [h]; exact heap_alloc_new w o
theorem heap_old (w : World) (o : Obj) (b : Nat) (h : b < w.heap.size) {x : Option Obj} (hx : w.heap[b]? = x) : (w.alloc o).heap[b]? = x := (Below.heap_alloc w o b h).trans hx
set_option maxHeartbeats 8000000 in
theorem DrawInRect_any (A : Option Addr) (n c : Nat) (zs : List Int) (w : World) (h : IsRow .u8 w A n c zs) :
    Calls Try.prog 5 #[.slice A n c] w (SomeRectIntInt (Below w.heap.size w)) := by
  have hrow : IsRow .u8 (w.alloc (.cells #[.int .i64 0, .int .i64 0, .int .i64 0, .int .i64 0] 24)) A n c zs := isRow_alloc h _
  clear h
  go_enter Try.func5, Try.ntmps5
  go_wp2_with fail
  refine (newReader_any A n c zs _ hrow).mono ?_
  rintro e w1 ⟨A', n', c', rfl, rd1, hb1⟩
  have hz1 := hb1.size
  simp only [World.size_alloc] at hz1 rd1
  go_wp2_with fail
  refine (anyRect_any _ A' n' c' 0 _ rd1 (by omega)).mono ?_
  rintro e w2 ⟨x, y, a, b, rfl, ⟨x0, x1⟩, ⟨y0, y1⟩, ⟨a0, a1⟩, ⟨b0, b1⟩, rd2, gb2⟩
  have hz2 := gb2.size
  have HF : Hid (Below w.heap.size w w2) := bl_gb (((Below.refl _ _).alloc (Nat.le_refl _) _).trans (hb1.mono (by simp only [World.size_alloc]; omega))) gb2 (by omega) (by omega)
  have GB : (w.alloc (.cells #[.int .i64 0, .int .i64 0, .int .i64 0, .int .i64 0] 24)).grownBy w2 (some (w.heap.size + 1)) := gb_trans (gb_below hb1 _) gb2
  have HG := Lib.hid GB
  clear GB
  go_wp2_with fail
  have hlt := rd2.lt
  generalize hw0 : w2.alloc (.cells #[.int .i64 x, .int .i64 y, .int .i64 a, .int .i64 b] 24) = w0
  have rd0 : Rdr w0 (w.heap.size + 1) A' n' c' 6 := by rw [← hw0]; exact (rd2.alloc _).mono (by omega)
  have u0 : w0.cell? ⟨w.heap.size, 0, none⟩ = some (.int .i64 0) := by rw [← hw0]; refine (keep_cl _ _ _ _ (by omega)).trans (((gcell HG.out).1 w.heap.size 0 (by simp only [World.size_alloc]; omega) (by omega)).trans (by simp [go_sem]))
  have fu0 : w0.frozen? ⟨w.heap.size, 0, none⟩ = false := by rw [← hw0]; refine (keep_fz _ _ _ _ (by omega)).trans (((gcell HG.out).2 w.heap.size 0 (by simp only [World.size_alloc]; omega) (by omega)).trans (by simp [go_sem]))
  have u1 : w0.cell? ⟨w.heap.size, 1, none⟩ = some (.int .i64 0) := by rw [← hw0]; refine (keep_cl _ _ _ _ (by omega)).trans (((gcell HG.out).1 w.heap.size 1 (by simp only [World.size_alloc]; omega) (by omega)).trans (by simp [go_sem]))
  have fu1 : w0.frozen? ⟨w.heap.size, 1, none⟩ = false := by rw [← hw0]; refine (keep_fz _ _ _ _ (by omega)).trans (((gcell HG.out).2 w.heap.size 1 (by simp only [World.size_alloc]; omega) (by omega)).trans (by simp [go_sem]))
  have u2 : w0.cell? ⟨w.heap.size, 2, none⟩ = some (.int .i64 0) := by rw [← hw0]; refine (keep_cl _ _ _ _ (by omega)).trans (((gcell HG.out).1 w.heap.size 2 (by simp only [World.size_alloc]; omega) (by omega)).trans (by simp [go_sem]))
  have fu2 : w0.frozen? ⟨w.heap.size, 2, none⟩ = false := by rw [← hw0]; refine (keep_fz _ _ _ _ (by omega)).trans (((gcell HG.out).2 w.heap.size 2 (by simp only [World.size_alloc]; omega) (by omega)).trans (by simp [go_sem]))
  have u3 : w0.cell? ⟨w.heap.size, 3, none⟩ = some (.int .i64 0) := by rw [← hw0]; refine (keep_cl _ _ _ _ (by omega)).trans (((gcell HG.out).1 w.heap.size 3 (by simp only [World.size_alloc]; omega) (by omega)).trans (by simp [go_sem]))
  have fu3 : w0.frozen? ⟨w.heap.size, 3, none⟩ = false := by rw [← hw0]; refine (keep_fz _ _ _ _ (by omega)).trans (((gcell HG.out).2 w.heap.size 3 (by simp only [World.size_alloc]; omega) (by omega)).trans (by simp [go_sem]))
  have k0 : w0.cell? ⟨w2.heap.size, 0, none⟩ = some (.int .i64 x) := by rw [← hw0]; simp [go_sem]
  have k1 : w0.cell? ⟨w2.heap.size, 1, none⟩ = some (.int .i64 y) := by rw [← hw0]; simp [go_sem]
  have k2 : w0.cell? ⟨w2.heap.size, 2, none⟩ = some (.int .i64 a) := by rw [← hw0]; simp [go_sem]
  have k3 : w0.cell? ⟨w2.heap.size, 3, none⟩ = some (.int .i64 b) := by rw [← hw0]; simp [go_sem]
  have m0 : w0.frozen? ⟨w2.heap.size, 0, none⟩ = false := by rw [← hw0]; simp [go_sem]
  have m1 : w0.frozen? ⟨w2.heap.size, 1, none⟩ = false := by rw [← hw0]; simp [go_sem]
  have m2 : w0.frozen? ⟨w2.heap.size, 2, none⟩ = false := by rw [← hw0]; simp [go_sem]
  have m3 : w0.frozen? ⟨w2.heap.size, 3, none⟩ = false := by rw [← hw0]; simp [go_sem]
  have B0 : Below w.heap.size w w0 := by rw [← hw0]; exact HF.out.alloc (by omega) _
  have z0 : w2.heap.size < w0.heap.size := by rw [← hw0]; simp
  have z1 : w.heap.size < w0.heap.size := by omega
  have n0 : ¬ w.heap.size = w.heap.size + 1 := by omega
  have n2 : ¬ w2.heap.size = w.heap.size + 1 := by omega
  have n4 : ¬ w2.heap.size = w.heap.size := by omega
  have n5 : ¬ w.heap.size = w2.heap.size := by omega
  have n7 : ¬ w0.heap.size = w.heap.size + 1 := by omega
  clear hw0
  have wa : IntKind.i64.wrap (a - 1) = a - 1 := IntWalk.i64_in _ (by omega)
  have wb : IntKind.i64.wrap (b - 1) = b - 1 := IntWalk.i64_in _ (by omega)
  have QR0 := Lib.hid (Q4.mk u0 u1 u2 u3 fu0 fu1 fu2 fu3)
  have QX0 := Lib.hid (Q4.mk k0 k1 k2 k3 m0 m1 m2 m3)
  have RD0 := Lib.hid rd0
  have BL0 := Lib.hid B0
  clear u0 u1 u2 u3 fu0 fu1 fu2 fu3 k0 k1 k2 k3 m0 m1 m2 m3 rd0 B0 HF HG
  have tok1 : True := trivial
  have tok2 : True := trivial
  go_region_held3 (fun w' => w'.cell? ⟨w2.heap.size, 0, none⟩ = some (.int .i64 x) ∧ w'.cell? ⟨w2.heap.size, 1, none⟩ = some (.int .i64 y) ∧ w'.cell? ⟨w2.heap.size, 2, none⟩ = some (.int .i64 a) ∧ w'.cell? ⟨w2.heap.size, 3, none⟩ = some (.int .i64 b))
    ((refine Q4.cells (b := w2.heap.size) ?_; repeat (first | (with_reducible exact QX4.out) | (with_reducible exact QX3.out) | (with_reducible exact QX0.out) | (with_reducible refine Q4.drew ?_) | (with_reducible refine Q4.alloc ?_ _) | ((with_reducible refine Q4.far ?_ _ _ ?_); rotate_left; (focus (dsimp only; omega))))))
    (first
    | (go_at_call 11; have _t := tok1; refine (one_any (w.heap.size + 1) A' n' c' 6 _ 6 #[.int .i64 0, .int .i64 (-1), .int .i64 1, .int .i64 a, .int .i64 (a - 1), .int .i64 3] (-300001) 300001 _ (by repeat (first | (with_reducible exact RD0.out) | (with_reducible refine Rdr.drew ?_) | (with_reducible refine Rdr.alloc ?_ _))) (by omega) (by first | exact heap_new' _ _ _ (by first | rfl | (simp; done)) | (refine heap_old _ _ _ (by first | (simp; done) | (simp; omega)) ?_; exact heap_new' _ _ _ (by first | rfl | (simp; done)))) (by first | omega | (simp; omega)) rfl (by omega) (by omega) (by repeat (first | exact allIn_nil _ _ | refine allIn_cons (by omega) (by omega) ?_))).mono ?_; rintro e w3 ⟨v3, rfl, lo3, hi3, rd3, gb3⟩; have RD3 := Lib.hid rd3; have G3 := Lib.hid gb3; have QR3 : Hid (Q4 w.heap.size 0 0 0 0 w3) := Lib.hid (Q4.grown (by repeat (first | (with_reducible exact QR0.out) | (with_reducible refine Q4.drew ?_) | (with_reducible refine Q4.alloc ?_ _))) gb3 n0); have QX3 : Hid (Q4 w2.heap.size x y a b w3) := Lib.hid (Q4.grown (by repeat (first | (with_reducible exact QX0.out) | (with_reducible refine Q4.drew ?_) | (with_reducible refine Q4.alloc ?_ _))) gb3 n2); have zz3 := gb3.size; (try simp at zz3); have BL3 : Hid (Below w.heap.size w w3) := Lib.hid (bl_gb (by repeat (first | (with_reducible exact BL0.out) | (with_reducible refine Below.drew ?_) | ((with_reducible refine Below.alloc ?_ ?_ _); rotate_left; (focus (first | omega | (simp; omega)))))) gb3 (by first | omega | (simp; omega)) (by omega)); have wk3 : IntKind.i64.wrap (x + v3) = x + v3 := (IntWalk.i64_in _ (by omega)); clear _t tok1 rd3 gb3)
    | (go_at_call 11; have _t := tok2; refine (one_any (w.heap.size + 1) A' n' c' (6 + 1) _ 6 #[.int .i64 0, .int .i64 (-1), .int .i64 1, .int .i64 b, .int .i64 (b - 1), .int .i64 3] (-300001) 300001 _ (by repeat (first | (with_reducible exact RD3.out) | (with_reducible refine Rdr.drew ?_) | (with_reducible refine Rdr.alloc ?_ _))) (by omega) (by first | exact heap_new' _ _ _ (by first | rfl | (simp; done)) | (refine (G3.out.block _ (by first | (simp; done) | (simp; omega)) (fun e => by injection e with e; first | omega | (simp at e; omega))).trans ?_; first | exact heap_new' _ _ _ (by first | rfl | (simp; done)) | (refine heap_old _ _ _ (by first | (simp; done) | (simp; omega)) ?_; exact heap_new' _ _ _ (by first | rfl | (simp; done))))) (by first | omega | (simp; omega)) rfl (by omega) (by omega) (by repeat (first | exact allIn_nil _ _ | refine allIn_cons (by omega) (by omega) ?_))).mono ?_; rintro e w4 ⟨v4, rfl, lo4, hi4, rd4, gb4⟩; have QR4 : Hid (Q4 w.heap.size 0 0 0 0 w4) := Lib.hid (Q4.grown (by repeat (first | (with_reducible exact QR3.out) | (with_reducible refine Q4.drew ?_) | (with_reducible refine Q4.alloc ?_ _))) gb4 n0); have QX4 : Hid (Q4 w2.heap.size x y a b w4) := Lib.hid (Q4.grown (by repeat (first | (with_reducible exact QX3.out) | (with_reducible refine Q4.drew ?_) | (with_reducible refine Q4.alloc ?_ _))) gb4 n2); have BL4 : Hid (Below w.heap.size w w4) := Lib.hid (bl_gb (by repeat (first | (with_reducible exact BL3.out) | (with_reducible refine Below.drew ?_) | ((with_reducible refine Below.alloc ?_ ?_ _); rotate_left; (focus (first | omega | (simp; omega)))))) gb4 (by first | omega | (simp; omega)) (by omega)); have wk4 : IntKind.i64.wrap (y + v4) = y + v4 := (IntWalk.i64_in _ (by omega)); have u0 := QR4.out.c0; have u1 := QR4.out.c1; have u2 := QR4.out.c2; have u3 := QR4.out.c3; have f0 := QR4.out.f0; have f1 := QR4.out.f1; have f2 := QR4.out.f2; have f3 := QR4.out.f3; clear _t tok2 rd4 gb4))
  all_goals
    go_wp2
    refine bodyPost_ret (v := .tuple #[.agg #[.int .i64 x, .int .i64 y, .int .i64 a, .int .i64 b], .int .i64 (x + v3), .int .i64 (y + v4)]) (by simp [results, Try.results5, go_sem, u0, u1, u2, u3]) rfl ⟨_, _, _, _, _, _, rfl, ⟨⟨x0, x1⟩, ⟨y0, y1⟩, ⟨a0, a1⟩, ⟨b0, b1⟩⟩, ⟨by omega, by omega⟩, ⟨by omega, by omega⟩, (((BL4.out.setCell (Nat.le_refl _) _).setCell (Nat.le_refl _) _).setCell (Nat.le_refl _) _).setCell (Nat.le_refl _) _⟩
end Go.Proofs.Ythbcdoblmflmbaa
