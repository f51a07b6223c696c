/- The drawn arguments of InsetRect. -/
import Derived.Test.YthpohaijjlfdoaaG2
namespace Go.Proofs.Ythpohaijjlfdoaa
open Go.RowKit

def SomeRectInt (lo hi : Int) (S : World → Prop) (e : Ending) (w' : World) : Prop :=
  ∃ x y a b k : Int, e = .returned (.tuple #[.agg #[.int .i64 x, .int .i64 y, .int .i64 a, .int .i64 b], .int .i64 k]) ∧ ((lo ≤ x ∧ x ≤ hi) ∧ (lo ≤ y ∧ y ≤ hi) ∧ (lo ≤ a ∧ a ≤ hi) ∧ (lo ≤ b ∧ b ≤ hi)) ∧ (lo ≤ k ∧ k ≤ hi) ∧ S w'
set_option maxHeartbeats 2000000 in
theorem DrawInsetRect_any (A : Option Addr) (n c : Nat) (zs : List Int) (w : World) (h : IsRow .u8 w A n c zs) :
    Calls Try.prog 35 #[.slice A n c] w (SomeRectInt (-300000) 300000 (Below w.heap.size w)) := by
  have hrow : IsRow .u8 (w.alloc (.cells #[.int .i64 0, .int .i64 0, .int .i64 0, .int .i64 0] 26)) A n c zs := isRow_alloc h _
  have HBy := Lib.hid (bytes_of_row h).2.2
  clear h
  go_enter Try.func35, Try.ntmps35
  go_wp2_with fail
  refine (newReader_of A n c zs _ hrow).mono ?_
  rintro e w1 ⟨n', c', hn', rfl, rd1, hb1⟩
  have hz1 := hb1.size
  simp only [World.size_alloc] at hz1 rd1
  have HA : Hid (∀ b off, A = some ⟨b, off, none⟩ → 0 < n' → b < w.heap.size) := by
    intro b off e hn0
    obtain ⟨b', off', e', hb', _⟩ := HBy.out (by omega)
    rw [e] at e'
    injection e' with e'
    injection e' with e1
    omega
  clear HBy
  go_wp2_with fail
  refine (anyRect_any _ A n' c' 0 _ rd1 (by omega)).mono ?_
  rintro e w2 ⟨x, y, a, b, rfl, hx, hy, ha, hb, rd2, gb2⟩
  have hz2 := gb2.size
  have HF : Hid (Below w.heap.size w w2) := bl_gb (((Below.refl _ _).alloc (Nat.le_refl _) _).trans (hb1.mono (by simp only [World.size_alloc]; omega))) gb2 (by omega) (by omega)
  have GB : (w.alloc (.cells #[.int .i64 0, .int .i64 0, .int .i64 0, .int .i64 0] 26)).grownBy w2 (some (w.heap.size + 1)) := gb_trans (gb_below hb1 _) gb2
  have HG := Lib.hid GB
  clear GB
  go_wp2_with fail
  have hlt := rd2.lt
  generalize hw0 : w2.alloc (.cells #[.int .i64 x, .int .i64 y, .int .i64 a, .int .i64 b] 26) = w0
  have rd0 : Rdr w0 (w.heap.size + 1) A n' c' 6 := by rw [← hw0]; exact (rd2.alloc _).mono (by omega)
  have u0 : w0.cell? ⟨w.heap.size, 0, none⟩ = some (.int .i64 0) := by rw [← hw0]; refine (keep_cl _ _ _ _ (by omega)).trans (((gcell HG.out).1 w.heap.size 0 (by simp only [World.size_alloc]; omega) (by omega)).trans (by simp [go_sem]))
  have fu0 : w0.frozen? ⟨w.heap.size, 0, none⟩ = false := by rw [← hw0]; refine (keep_fz _ _ _ _ (by omega)).trans (((gcell HG.out).2 w.heap.size 0 (by simp only [World.size_alloc]; omega) (by omega)).trans (by simp [go_sem]))
  have u1 : w0.cell? ⟨w.heap.size, 1, none⟩ = some (.int .i64 0) := by rw [← hw0]; refine (keep_cl _ _ _ _ (by omega)).trans (((gcell HG.out).1 w.heap.size 1 (by simp only [World.size_alloc]; omega) (by omega)).trans (by simp [go_sem]))
  have fu1 : w0.frozen? ⟨w.heap.size, 1, none⟩ = false := by rw [← hw0]; refine (keep_fz _ _ _ _ (by omega)).trans (((gcell HG.out).2 w.heap.size 1 (by simp only [World.size_alloc]; omega) (by omega)).trans (by simp [go_sem]))
  have u2 : w0.cell? ⟨w.heap.size, 2, none⟩ = some (.int .i64 0) := by rw [← hw0]; refine (keep_cl _ _ _ _ (by omega)).trans (((gcell HG.out).1 w.heap.size 2 (by simp only [World.size_alloc]; omega) (by omega)).trans (by simp [go_sem]))
  have fu2 : w0.frozen? ⟨w.heap.size, 2, none⟩ = false := by rw [← hw0]; refine (keep_fz _ _ _ _ (by omega)).trans (((gcell HG.out).2 w.heap.size 2 (by simp only [World.size_alloc]; omega) (by omega)).trans (by simp [go_sem]))
  have u3 : w0.cell? ⟨w.heap.size, 3, none⟩ = some (.int .i64 0) := by rw [← hw0]; refine (keep_cl _ _ _ _ (by omega)).trans (((gcell HG.out).1 w.heap.size 3 (by simp only [World.size_alloc]; omega) (by omega)).trans (by simp [go_sem]))
  have fu3 : w0.frozen? ⟨w.heap.size, 3, none⟩ = false := by rw [← hw0]; refine (keep_fz _ _ _ _ (by omega)).trans (((gcell HG.out).2 w.heap.size 3 (by simp only [World.size_alloc]; omega) (by omega)).trans (by simp [go_sem]))
  have k0 : w0.cell? ⟨w2.heap.size, 0, none⟩ = some (.int .i64 x) := by rw [← hw0]; simp [go_sem]
  have k1 : w0.cell? ⟨w2.heap.size, 1, none⟩ = some (.int .i64 y) := by rw [← hw0]; simp [go_sem]
  have k2 : w0.cell? ⟨w2.heap.size, 2, none⟩ = some (.int .i64 a) := by rw [← hw0]; simp [go_sem]
  have k3 : w0.cell? ⟨w2.heap.size, 3, none⟩ = some (.int .i64 b) := by rw [← hw0]; simp [go_sem]
  have B0 : Below w.heap.size w w0 := by rw [← hw0]; exact HF.out.alloc (by omega) _
  have z0 : w2.heap.size < w0.heap.size := by rw [← hw0]; simp
  have z1 : w.heap.size < w0.heap.size := by omega
  have n0 : ¬ w.heap.size = w.heap.size + 1 := by omega
  have n2 : ¬ w2.heap.size = w.heap.size + 1 := by omega
  have n4 : ¬ w2.heap.size = w.heap.size := by omega
  have n5 : ¬ w.heap.size = w2.heap.size := by omega
  have n7 : ¬ w0.heap.size = w.heap.size + 1 := by omega
  clear hw0
  go_region_with (go_at_call 48; refine (one_any (w.heap.size + 1) A n' c' 6 w0.heap.size 8 _ (-300000) 300000 _ (by repeat (first | (with_reducible exact rd0) | (with_reducible refine Rdr.drew ?_) | (with_reducible refine Rdr.alloc ?_ _) | ((with_reducible refine Rdr.set_ne ?_ ?_ ?_ _); rotate_left; (focus (dsimp only; omega)); (focus (intro b off e hn; have := HA.out b off e hn; dsimp only; omega))))) (by omega) (by first | exact heap_alloc_new _ _ | (simp [World.setCell]; done)) n7 rfl (by omega) (by omega) (by repeat (first | exact allIn_nil _ _ | refine allIn_cons (by omega) (by omega) ?_))).mono ?_; rintro e w3 ⟨k, rfl, lo3, hi3, rd3, gb3⟩; obtain ⟨hc3, hf3⟩ := gcell gb3; have hz3 := gb3.size; (try simp at hz3); (have zz1 : w.heap.size < w3.heap.size := (by omega)); (have zz3 : w2.heap.size < w3.heap.size := (by omega)); have au0 := hc3 w.heap.size 0 (by first | assumption | omega | (simp; omega) | (simp [World.setCell]; omega)) n0; (try simp [go_sem, keep_cl, z1, u0] at au0); have bu0 := hf3 w.heap.size 0 (by first | assumption | omega | (simp; omega) | (simp [World.setCell]; omega)) n0; (try simp [go_sem, keep_fz, z1, fu0] at bu0); have au1 := hc3 w.heap.size 1 (by first | assumption | omega | (simp; omega) | (simp [World.setCell]; omega)) n0; (try simp [go_sem, keep_cl, z1, u1] at au1); have bu1 := hf3 w.heap.size 1 (by first | assumption | omega | (simp; omega) | (simp [World.setCell]; omega)) n0; (try simp [go_sem, keep_fz, z1, fu1] at bu1); have au2 := hc3 w.heap.size 2 (by first | assumption | omega | (simp; omega) | (simp [World.setCell]; omega)) n0; (try simp [go_sem, keep_cl, z1, u2] at au2); have bu2 := hf3 w.heap.size 2 (by first | assumption | omega | (simp; omega) | (simp [World.setCell]; omega)) n0; (try simp [go_sem, keep_fz, z1, fu2] at bu2); have au3 := hc3 w.heap.size 3 (by first | assumption | omega | (simp; omega) | (simp [World.setCell]; omega)) n0; (try simp [go_sem, keep_cl, z1, u3] at au3); have bu3 := hf3 w.heap.size 3 (by first | assumption | omega | (simp; omega) | (simp [World.setCell]; omega)) n0; (try simp [go_sem, keep_fz, z1, fu3] at bu3); have kc0 := hc3 w2.heap.size 0 (by first | assumption | omega | (simp; omega) | (simp [World.setCell]; omega)) n2; (try simp [go_sem, keep_cl, z0, k0] at kc0); have kc1 := hc3 w2.heap.size 1 (by first | assumption | omega | (simp; omega) | (simp [World.setCell]; omega)) n2; (try simp [go_sem, keep_cl, z0, k1] at kc1); have kc2 := hc3 w2.heap.size 2 (by first | assumption | omega | (simp; omega) | (simp [World.setCell]; omega)) n2; (try simp [go_sem, keep_cl, z0, k2] at kc2); have kc3 := hc3 w2.heap.size 3 (by first | assumption | omega | (simp; omega) | (simp [World.setCell]; omega)) n2; (try simp [go_sem, keep_cl, z0, k3] at kc3))
  all_goals go_wp2
  all_goals
    refine bodyPost_ret (v := .tuple #[.agg #[.int .i64 x, .int .i64 y, .int .i64 a, .int .i64 b], .int .i64 k]) (by simp [results, Try.results35, go_sem, au0, au1, au2, au3]) rfl ⟨_, _, _, _, _, rfl, ⟨hx, hy, ha, hb⟩, ⟨lo3, hi3⟩, (by repeat (first | (with_reducible exact B0) | (with_reducible refine Below.drew ?_) | ((with_reducible refine Below.alloc ?_ ?_ _); rotate_left; (focus (first | omega | (simp; omega) | (simp [World.setCell]; omega)))) | ((with_reducible refine Below.setCell ?_ ?_ _); rotate_left; (focus (dsimp only; omega))) | ((with_reducible refine bl_gb ?_ gb3 ?_ ?_); rotate_left; (focus (first | omega | (simp; omega) | (simp [World.setCell]; omega))); (focus omega))))⟩
end Go.Proofs.Ythpohaijjlfdoaa
