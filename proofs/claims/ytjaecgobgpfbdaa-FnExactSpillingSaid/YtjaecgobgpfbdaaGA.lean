/- Slices of structs of 9 integers (Box): copies, comparisons, marks. A slice of n of them reads as a list of 9 n integers. -/
import Derived.Test.YtjaecgobgpfbdaaSA
import Derived.Test.YtjaecgobgpfbdaaK
namespace Go.Proofs.Ytjaecgobgpfbdaa
open Go.RowKit

theorem mul_lt9 {k n j : Nat} (h : k < n) (hj : j < 9) : 9 * k + j < 9 * n := by omega
theorem at9 {w : World} {b off n : Nat} {zs : List Int} (hc : ∀ i, i < 9 * n → w.cell? ⟨b, off + i, none⟩ = some (.int .i64 (zs.getD i 0))) {k : Nat} (h : k < n) :
    w.cell? ⟨b, off + k * 9, none⟩ = some (.int .i64 (zs.getD (9 * k) 0)) ∧ w.cell? ⟨b, off + k * 9 + 1, none⟩ = some (.int .i64 (zs.getD (9 * k + 1) 0)) ∧ w.cell? ⟨b, off + k * 9 + 2, none⟩ = some (.int .i64 (zs.getD (9 * k + 2) 0)) ∧ w.cell? ⟨b, off + k * 9 + 3, none⟩ = some (.int .i64 (zs.getD (9 * k + 3) 0)) ∧ w.cell? ⟨b, off + k * 9 + 4, none⟩ = some (.int .i64 (zs.getD (9 * k + 4) 0)) ∧ w.cell? ⟨b, off + k * 9 + 5, none⟩ = some (.int .i64 (zs.getD (9 * k + 5) 0)) ∧ w.cell? ⟨b, off + k * 9 + 6, none⟩ = some (.int .i64 (zs.getD (9 * k + 6) 0)) ∧ w.cell? ⟨b, off + k * 9 + 7, none⟩ = some (.int .i64 (zs.getD (9 * k + 7) 0)) ∧ w.cell? ⟨b, off + k * 9 + 8, none⟩ = some (.int .i64 (zs.getD (9 * k + 8) 0)) := by
  refine ⟨?_, ?_, ?_, ?_, ?_, ?_, ?_, ?_, ?_⟩
  · have e := hc (9 * k) (by omega)
    rw [show off + (9 * k) = off + k * 9 by omega] at e
    exact e
  · have e := hc (9 * k + 1) (by omega)
    rw [show off + (9 * k + 1) = off + k * 9 + 1 by omega] at e
    exact e
  · have e := hc (9 * k + 2) (by omega)
    rw [show off + (9 * k + 2) = off + k * 9 + 2 by omega] at e
    exact e
  · have e := hc (9 * k + 3) (by omega)
    rw [show off + (9 * k + 3) = off + k * 9 + 3 by omega] at e
    exact e
  · have e := hc (9 * k + 4) (by omega)
    rw [show off + (9 * k + 4) = off + k * 9 + 4 by omega] at e
    exact e
  · have e := hc (9 * k + 5) (by omega)
    rw [show off + (9 * k + 5) = off + k * 9 + 5 by omega] at e
    exact e
  · have e := hc (9 * k + 6) (by omega)
    rw [show off + (9 * k + 6) = off + k * 9 + 6 by omega] at e
    exact e
  · have e := hc (9 * k + 7) (by omega)
    rw [show off + (9 * k + 7) = off + k * 9 + 7 by omega] at e
    exact e
  · have e := hc (9 * k + 8) (by omega)
    rw [show off + (9 * k + 8) = off + k * 9 + 8 by omega] at e
    exact e
theorem Bk.at9 {w : World} {g n : Nat} {zs : List Int} (h : Bk w g (9 * n) zs) {k : Nat} (hk : k < n) :
    (w.cell? ⟨g, k * 9, none⟩ = some (.int .i64 (zs.getD (9 * k) 0)) ∧ w.frozen? ⟨g, k * 9, none⟩ = false) ∧ (w.cell? ⟨g, k * 9 + 1, none⟩ = some (.int .i64 (zs.getD (9 * k + 1) 0)) ∧ w.frozen? ⟨g, k * 9 + 1, none⟩ = false) ∧ (w.cell? ⟨g, k * 9 + 2, none⟩ = some (.int .i64 (zs.getD (9 * k + 2) 0)) ∧ w.frozen? ⟨g, k * 9 + 2, none⟩ = false) ∧ (w.cell? ⟨g, k * 9 + 3, none⟩ = some (.int .i64 (zs.getD (9 * k + 3) 0)) ∧ w.frozen? ⟨g, k * 9 + 3, none⟩ = false) ∧ (w.cell? ⟨g, k * 9 + 4, none⟩ = some (.int .i64 (zs.getD (9 * k + 4) 0)) ∧ w.frozen? ⟨g, k * 9 + 4, none⟩ = false) ∧ (w.cell? ⟨g, k * 9 + 5, none⟩ = some (.int .i64 (zs.getD (9 * k + 5) 0)) ∧ w.frozen? ⟨g, k * 9 + 5, none⟩ = false) ∧ (w.cell? ⟨g, k * 9 + 6, none⟩ = some (.int .i64 (zs.getD (9 * k + 6) 0)) ∧ w.frozen? ⟨g, k * 9 + 6, none⟩ = false) ∧ (w.cell? ⟨g, k * 9 + 7, none⟩ = some (.int .i64 (zs.getD (9 * k + 7) 0)) ∧ w.frozen? ⟨g, k * 9 + 7, none⟩ = false) ∧ (w.cell? ⟨g, k * 9 + 8, none⟩ = some (.int .i64 (zs.getD (9 * k + 8) 0)) ∧ w.frozen? ⟨g, k * 9 + 8, none⟩ = false) := by
  refine ⟨?_, ?_, ?_, ?_, ?_, ?_, ?_, ?_, ?_⟩
  · have e := h.2.2 (9 * k) (by omega)
    rw [show 9 * k = k * 9 by omega] at e
    rw [show 9 * k = k * 9 by omega]
    exact e
  · have e := h.2.2 (9 * k + 1) (by omega)
    rw [show 9 * k + 1 = k * 9 + 1 by omega] at e
    rw [show 9 * k + 1 = k * 9 + 1 by omega]
    exact e
  · have e := h.2.2 (9 * k + 2) (by omega)
    rw [show 9 * k + 2 = k * 9 + 2 by omega] at e
    rw [show 9 * k + 2 = k * 9 + 2 by omega]
    exact e
  · have e := h.2.2 (9 * k + 3) (by omega)
    rw [show 9 * k + 3 = k * 9 + 3 by omega] at e
    rw [show 9 * k + 3 = k * 9 + 3 by omega]
    exact e
  · have e := h.2.2 (9 * k + 4) (by omega)
    rw [show 9 * k + 4 = k * 9 + 4 by omega] at e
    rw [show 9 * k + 4 = k * 9 + 4 by omega]
    exact e
  · have e := h.2.2 (9 * k + 5) (by omega)
    rw [show 9 * k + 5 = k * 9 + 5 by omega] at e
    rw [show 9 * k + 5 = k * 9 + 5 by omega]
    exact e
  · have e := h.2.2 (9 * k + 6) (by omega)
    rw [show 9 * k + 6 = k * 9 + 6 by omega] at e
    rw [show 9 * k + 6 = k * 9 + 6 by omega]
    exact e
  · have e := h.2.2 (9 * k + 7) (by omega)
    rw [show 9 * k + 7 = k * 9 + 7 by omega] at e
    rw [show 9 * k + 7 = k * 9 + 7 by omega]
    exact e
  · have e := h.2.2 (9 * k + 8) (by omega)
    rw [show 9 * k + 8 = k * 9 + 8 by omega] at e
    rw [show 9 * k + 8 = k * 9 + 8 by omega]
    exact e
theorem Bk.set9 {w : World} {g n : Nat} {f : Nat → Int} (h : Bk w g (9 * n) (mk (9 * n) f)) {k : Nat} (hk : k < n) (x0 x1 x2 x3 x4 x5 x6 x7 x8 : Int) :
    Bk (((((((((w.setCell ⟨g, k * 9, none⟩ (.int .i64 x0)).setCell ⟨g, k * 9 + 1, none⟩ (.int .i64 x1)).setCell ⟨g, k * 9 + 2, none⟩ (.int .i64 x2)).setCell ⟨g, k * 9 + 3, none⟩ (.int .i64 x3)).setCell ⟨g, k * 9 + 4, none⟩ (.int .i64 x4)).setCell ⟨g, k * 9 + 5, none⟩ (.int .i64 x5)).setCell ⟨g, k * 9 + 6, none⟩ (.int .i64 x6)).setCell ⟨g, k * 9 + 7, none⟩ (.int .i64 x7)).setCell ⟨g, k * 9 + 8, none⟩ (.int .i64 x8)) g (9 * n) (mk (9 * n) fun i => if i = k * 9 + 8 then x8 else if i = k * 9 + 7 then x7 else if i = k * 9 + 6 then x6 else if i = k * 9 + 5 then x5 else if i = k * 9 + 4 then x4 else if i = k * 9 + 3 then x3 else if i = k * 9 + 2 then x2 else if i = k * 9 + 1 then x1 else if i = k * 9 then x0 else f i) := by
  exact (((((((((h.setMk (k := k * 9) (by omega) x0).setMk (k := k * 9 + 1) (by omega) x1).setMk (k := k * 9 + 2) (by omega) x2).setMk (k := k * 9 + 3) (by omega) x3).setMk (k := k * 9 + 4) (by omega) x4).setMk (k := k * 9 + 5) (by omega) x5).setMk (k := k * 9 + 6) (by omega) x6).setMk (k := k * 9 + 7) (by omega) x7).setMk (k := k * 9 + 8) (by omega) x8)
theorem pick9 {k : Nat} {f g z : Nat → Int} {x0 x1 x2 x3 x4 x5 x6 x7 x8 : Int} (h0 : g (9 * k) = x0) (h1 : g (9 * k + 1) = x1) (h2 : g (9 * k + 2) = x2) (h3 : g (9 * k + 3) = x3) (h4 : g (9 * k + 4) = x4) (h5 : g (9 * k + 5) = x5) (h6 : g (9 * k + 6) = x6) (h7 : g (9 * k + 7) = x7) (h8 : g (9 * k + 8) = x8) (hf : ∀ i, i < 9 * k → f i = g i) (hf2 : ∀ i, 9 * k ≤ i → f i = z i) (i : Nat) :
    (if i = k * 9 + 8 then x8 else if i = k * 9 + 7 then x7 else if i = k * 9 + 6 then x6 else if i = k * 9 + 5 then x5 else if i = k * 9 + 4 then x4 else if i = k * 9 + 3 then x3 else if i = k * 9 + 2 then x2 else if i = k * 9 + 1 then x1 else if i = k * 9 then x0 else f i) = if i < 9 * (k + 1) then g i else z i := by
  by_cases e8 : i = k * 9 + 8
  · rw [if_pos e8, if_pos (by omega), e8, show k * 9 + 8 = 9 * k + 8 by omega, h8]
  rw [if_neg e8]
  by_cases e7 : i = k * 9 + 7
  · rw [if_pos e7, if_pos (by omega), e7, show k * 9 + 7 = 9 * k + 7 by omega, h7]
  rw [if_neg e7]
  by_cases e6 : i = k * 9 + 6
  · rw [if_pos e6, if_pos (by omega), e6, show k * 9 + 6 = 9 * k + 6 by omega, h6]
  rw [if_neg e6]
  by_cases e5 : i = k * 9 + 5
  · rw [if_pos e5, if_pos (by omega), e5, show k * 9 + 5 = 9 * k + 5 by omega, h5]
  rw [if_neg e5]
  by_cases e4 : i = k * 9 + 4
  · rw [if_pos e4, if_pos (by omega), e4, show k * 9 + 4 = 9 * k + 4 by omega, h4]
  rw [if_neg e4]
  by_cases e3 : i = k * 9 + 3
  · rw [if_pos e3, if_pos (by omega), e3, show k * 9 + 3 = 9 * k + 3 by omega, h3]
  rw [if_neg e3]
  by_cases e2 : i = k * 9 + 2
  · rw [if_pos e2, if_pos (by omega), e2, show k * 9 + 2 = 9 * k + 2 by omega, h2]
  rw [if_neg e2]
  by_cases e1 : i = k * 9 + 1
  · rw [if_pos e1, if_pos (by omega), e1, show k * 9 + 1 = 9 * k + 1 by omega, h1]
  rw [if_neg e1]
  by_cases e0 : i = k * 9
  · rw [if_pos e0, if_pos (by omega), e0, show k * 9 = 9 * k by omega, h0]
  rw [if_neg e0]
  by_cases h : i < 9 * k
  · rw [if_pos (by omega)]; exact hf i h
  · rw [if_neg (by omega)]; exact hf2 i (by omega)
theorem Wr.at_9 {w : World} {lo b off n : Nat} {zs : List Int} (h : Wr w lo (some ⟨b, off, none⟩) (9 * n) zs) {k : Nat} (hk : k < n) :
    lo ≤ b ∧ b < w.heap.size ∧ (w.cell? ⟨b, off + k * 9, none⟩ = some (.int .i64 (zs.getD (9 * k) 0)) ∧ w.frozen? ⟨b, off + k * 9, none⟩ = false) ∧ (w.cell? ⟨b, off + k * 9 + 1, none⟩ = some (.int .i64 (zs.getD (9 * k + 1) 0)) ∧ w.frozen? ⟨b, off + k * 9 + 1, none⟩ = false) ∧ (w.cell? ⟨b, off + k * 9 + 2, none⟩ = some (.int .i64 (zs.getD (9 * k + 2) 0)) ∧ w.frozen? ⟨b, off + k * 9 + 2, none⟩ = false) ∧ (w.cell? ⟨b, off + k * 9 + 3, none⟩ = some (.int .i64 (zs.getD (9 * k + 3) 0)) ∧ w.frozen? ⟨b, off + k * 9 + 3, none⟩ = false) ∧ (w.cell? ⟨b, off + k * 9 + 4, none⟩ = some (.int .i64 (zs.getD (9 * k + 4) 0)) ∧ w.frozen? ⟨b, off + k * 9 + 4, none⟩ = false) ∧ (w.cell? ⟨b, off + k * 9 + 5, none⟩ = some (.int .i64 (zs.getD (9 * k + 5) 0)) ∧ w.frozen? ⟨b, off + k * 9 + 5, none⟩ = false) ∧ (w.cell? ⟨b, off + k * 9 + 6, none⟩ = some (.int .i64 (zs.getD (9 * k + 6) 0)) ∧ w.frozen? ⟨b, off + k * 9 + 6, none⟩ = false) ∧ (w.cell? ⟨b, off + k * 9 + 7, none⟩ = some (.int .i64 (zs.getD (9 * k + 7) 0)) ∧ w.frozen? ⟨b, off + k * 9 + 7, none⟩ = false) ∧ (w.cell? ⟨b, off + k * 9 + 8, none⟩ = some (.int .i64 (zs.getD (9 * k + 8) 0)) ∧ w.frozen? ⟨b, off + k * 9 + 8, none⟩ = false) := by
  obtain ⟨b', off', e, h1, h2, h3⟩ := h.2 (by omega)
  injection e with e; injection e with e1 e2
  subst e1 e2
  refine ⟨h1, h2, ?_, ?_, ?_, ?_, ?_, ?_, ?_, ?_, ?_⟩
  · have e := h3 (9 * k) (by omega)
    rw [show off + (9 * k) = off + k * 9 by omega] at e
    exact e
  · have e := h3 (9 * k + 1) (by omega)
    rw [show off + (9 * k + 1) = off + k * 9 + 1 by omega] at e
    exact e
  · have e := h3 (9 * k + 2) (by omega)
    rw [show off + (9 * k + 2) = off + k * 9 + 2 by omega] at e
    exact e
  · have e := h3 (9 * k + 3) (by omega)
    rw [show off + (9 * k + 3) = off + k * 9 + 3 by omega] at e
    exact e
  · have e := h3 (9 * k + 4) (by omega)
    rw [show off + (9 * k + 4) = off + k * 9 + 4 by omega] at e
    exact e
  · have e := h3 (9 * k + 5) (by omega)
    rw [show off + (9 * k + 5) = off + k * 9 + 5 by omega] at e
    exact e
  · have e := h3 (9 * k + 6) (by omega)
    rw [show off + (9 * k + 6) = off + k * 9 + 6 by omega] at e
    exact e
  · have e := h3 (9 * k + 7) (by omega)
    rw [show off + (9 * k + 7) = off + k * 9 + 7 by omega] at e
    exact e
  · have e := h3 (9 * k + 8) (by omega)
    rw [show off + (9 * k + 8) = off + k * 9 + 8 by omega] at e
    exact e
theorem Wr.set9 {w : World} {lo b off n : Nat} {f : Nat → Int} (h : Wr w lo (some ⟨b, off, none⟩) (9 * n) (mk (9 * n) f)) {k : Nat} (hk : k < n) (x0 x1 x2 x3 x4 x5 x6 x7 x8 : Int) :
    Wr (((((((((w.setCell ⟨b, off + k * 9, none⟩ (.int .i64 x0)).setCell ⟨b, off + k * 9 + 1, none⟩ (.int .i64 x1)).setCell ⟨b, off + k * 9 + 2, none⟩ (.int .i64 x2)).setCell ⟨b, off + k * 9 + 3, none⟩ (.int .i64 x3)).setCell ⟨b, off + k * 9 + 4, none⟩ (.int .i64 x4)).setCell ⟨b, off + k * 9 + 5, none⟩ (.int .i64 x5)).setCell ⟨b, off + k * 9 + 6, none⟩ (.int .i64 x6)).setCell ⟨b, off + k * 9 + 7, none⟩ (.int .i64 x7)).setCell ⟨b, off + k * 9 + 8, none⟩ (.int .i64 x8)) lo (some ⟨b, off, none⟩) (9 * n) (mk (9 * n) fun i => if i = k * 9 + 8 then x8 else if i = k * 9 + 7 then x7 else if i = k * 9 + 6 then x6 else if i = k * 9 + 5 then x5 else if i = k * 9 + 4 then x4 else if i = k * 9 + 3 then x3 else if i = k * 9 + 2 then x2 else if i = k * 9 + 1 then x1 else if i = k * 9 then x0 else f i) := by
  have e := (((((((((h.set (k := k * 9) (by omega) x0).set (k := k * 9 + 1) (by omega) x1).set (k := k * 9 + 2) (by omega) x2).set (k := k * 9 + 3) (by omega) x3).set (k := k * 9 + 4) (by omega) x4).set (k := k * 9 + 5) (by omega) x5).set (k := k * 9 + 6) (by omega) x6).set (k := k * 9 + 7) (by omega) x7).set (k := k * 9 + 8) (by omega) x8)
  simp only [← Nat.add_assoc] at e
  rw [mk_set _ _ _ _ (by omega)] at e
  rw [mk_set _ _ _ _ (by omega)] at e
  rw [mk_set _ _ _ _ (by omega)] at e
  rw [mk_set _ _ _ _ (by omega)] at e
  rw [mk_set _ _ _ _ (by omega)] at e
  rw [mk_set _ _ _ _ (by omega)] at e
  rw [mk_set _ _ _ _ (by omega)] at e
  rw [mk_set _ _ _ _ (by omega)] at e
  rw [mk_set _ _ _ _ (by omega)] at e
  exact e
set_option maxHeartbeats 1000000 in
theorem toBox_any (x0 x1 x2 x3 x4 x5 x6 x7 x8 : Int) (w : World) :
    Calls Try.prog 46 #[.agg #[.int .i64 x0, .int .i64 x1, .int .i64 x2, .int .i64 x3, .int .i64 x4, .int .i64 x5, .int .i64 x6, .int .i64 x7, .int .i64 x8]] w fun e w' => e = .returned (.agg #[.int .i64 x0, .int .i64 x1, .int .i64 x2, .int .i64 x3, .int .i64 x4, .int .i64 x5, .int .i64 x6, .int .i64 x7, .int .i64 x8]) ∧ Below w.heap.size w w' := by
  go_enter Try.func46, Try.ntmps46
  go_wp2
  exact bodyPost_ret (v := .agg #[.int .i64 x0, .int .i64 x1, .int .i64 x2, .int .i64 x3, .int .i64 x4, .int .i64 x5, .int .i64 x6, .int .i64 x7, .int .i64 x8]) (by simp [results, Try.results46, go_sem]) rfl ⟨rfl, (((Below.refl _ _).alloc (Nat.le_refl _) _).alloc (by simp) _).alloc (by simp; omega) _⟩
theorem info_Box : (Try.prog.info? 54).map (fun i => (i.zero, i.size, i.bytes)) = some (some (.agg #[.int .i64 0, .int .i64 0, .int .i64 0, .int .i64 0, .int .i64 0, .int .i64 0, .int .i64 0, .int .i64 0, .int .i64 0]), 9, 72) := by kernel_rfl
theorem cells_Box (n : Nat) : madeCells (Value.agg #[.int .i64 0, .int .i64 0, .int .i64 0, .int .i64 0, .int .i64 0, .int .i64 0, .int .i64 0, .int .i64 0, .int .i64 0]).cells (n * 9) = madeCells #[Value.int .i64 0] (9 * n) := by
  apply Array.ext
  · simp [size_madeCells, Nat.mul_comm]
  · intro i h1 h2
    have key : ∀ j, j < 9 → (#[.int .i64 0, .int .i64 0, .int .i64 0, .int .i64 0, .int .i64 0, .int .i64 0, .int .i64 0, .int .i64 0, .int .i64 0] : Array Value)[j]! = .int .i64 0 := by
      intro j hj
      rcases j with _ | _ | _ | _ | _ | _ | _ | _ | _ | j
      all_goals first | rfl | omega
    have h3 := key (i % 9) (Nat.mod_lt _ (by omega))
    simp only [madeCells, Value.cells, Array.getElem_map, Array.getElem_range]
    rw [show i % #[Value.int IntKind.i64 0].size = 0 from Nat.mod_one i]
    exact h3
set_option maxHeartbeats 2000000 in
theorem toBoxS_any (A : Option Addr) (n c : Nat) (zs : List Int) (w : World) (h : Rd w w.heap.size A (9 * n) zs) (hn : n ≤ 2000000) :
    Calls Try.prog 16 #[.slice A n c] w fun e w' => ∃ A' c', e = .returned (.slice A' n c') ∧ n ≤ c' ∧ c' ≤ maxLen ∧ Wr w' w.heap.size A' (9 * n) zs ∧ Below w.heap.size w w' := by
  obtain ⟨i0, hi, hz0, hz1, hz2⟩ := info_parts info_Box
  have hmk := fun W => run_make_rowN (P := Try.prog) 28 54 i0 _ Try.underlying28 hi hz0 .i64 .i64 n n (Nat.le_refl _) (by rw [hz2]; omega) (by omega) W
  rw [hz1, cells_Box] at hmk
  have H := Lib.hid h
  have HK := Lib.hid (Bk.made w (9 * n) 54)
  have HW := Lib.hid ((Below.refl w.heap.size w).alloc (Nat.le_refl _) (.cells (madeCells #[Value.int .i64 0] (9 * n)) 54))
  clear h hi hz0 hz1 hz2
  go_enter Try.func16, Try.ntmps16
  go_wp2
  generalize w.alloc (.cells (madeCells #[Value.int .i64 0] (9 * n)) 54) = wa at HK HW ⊢
  go_loopw [4] (fun i wr => ∃ k : Nat, k ≤ n ∧ i = .int .i64 k ∧ Hid (Bk wr w.heap.size (9 * n) (mk (9 * n) fun i => if i < 9 * k then zs.getD i 0 else 0) ∧ Below w.heap.size w wr)) (fun i _ => n - (intOf i).toNat)
  case atStart => exact ⟨0, Nat.zero_le _, rfl, HK.out.mk_to fun i _ => by simp, HW.out⟩
  case round =>
    obtain ⟨k, hk, rfl, hS⟩ := hrel
    by_cases hlt : k < n
    · obtain ⟨b, off, rfl, hb, hc⟩ := H.out.cell (by omega)
      have hcell : ∀ j, j < 9 * n → wr.cell? ⟨b, off + j, none⟩ = some (.int .i64 (zs.getD j 0)) := fun j hj => by rw [hS.out.2.cell (p := ⟨b, off + j, none⟩) hb]; exact hc j hj
      obtain ⟨c0, c1, c2, c3, c4, c5, c6, c7, c8⟩ := at9 hcell hlt
      clear hcell hc
      obtain ⟨x0, h0⟩ : ∃ x, Hid (zs.getD (9 * k) 0 = x) := ⟨_, rfl⟩
      rw [h0.out] at c0
      obtain ⟨x1, h1⟩ : ∃ x, Hid (zs.getD (9 * k + 1) 0 = x) := ⟨_, rfl⟩
      rw [h1.out] at c1
      obtain ⟨x2, h2⟩ : ∃ x, Hid (zs.getD (9 * k + 2) 0 = x) := ⟨_, rfl⟩
      rw [h2.out] at c2
      obtain ⟨x3, h3⟩ : ∃ x, Hid (zs.getD (9 * k + 3) 0 = x) := ⟨_, rfl⟩
      rw [h3.out] at c3
      obtain ⟨x4, h4⟩ : ∃ x, Hid (zs.getD (9 * k + 4) 0 = x) := ⟨_, rfl⟩
      rw [h4.out] at c4
      obtain ⟨x5, h5⟩ : ∃ x, Hid (zs.getD (9 * k + 5) 0 = x) := ⟨_, rfl⟩
      rw [h5.out] at c5
      obtain ⟨x6, h6⟩ : ∃ x, Hid (zs.getD (9 * k + 6) 0 = x) := ⟨_, rfl⟩
      rw [h6.out] at c6
      obtain ⟨x7, h7⟩ : ∃ x, Hid (zs.getD (9 * k + 7) 0 = x) := ⟨_, rfl⟩
      rw [h7.out] at c7
      obtain ⟨x8, h8⟩ : ∃ x, Hid (zs.getD (9 * k + 8) 0 = x) := ⟨_, rfl⟩
      rw [h8.out] at c8
      go_wp2_with fail
      refine (toBox_any x0 x1 x2 x3 x4 x5 x6 x7 x8 _).mono ?_
      rintro e w1 ⟨rfl, hb1⟩
      have HB1 := Lib.hid hb1
      have HK1 := Lib.hid (hS.out.1.below hb1)
      clear hb1
      obtain ⟨⟨d0, f0⟩, ⟨d1, f1⟩, ⟨d2, f2⟩, ⟨d3, f3⟩, ⟨d4, f4⟩, ⟨d5, f5⟩, ⟨d6, f6⟩, ⟨d7, f7⟩, ⟨d8, f8⟩⟩ := HK1.out.at9 hlt
      have HK2 := Lib.hid (HK1.out.set9 hlt x0 x1 x2 x3 x4 x5 x6 x7 x8)
      go_wp2
      go_roundw
      case rel =>
        refine ⟨k + 1, by omega, by go_num, HK2.out.mk_to fun i _ => pick9 (g := fun i => zs.getD i 0) (z := fun _ => 0) h0.out h1.out h2.out h3.out h4.out h5.out h6.out h7.out h8.out (fun i hi => if_pos hi) (fun i hi => if_neg (by omega)) i, ((((((((((hS.out.2.trans (HB1.out.mono hS.out.2.size)).setCell (by simp) _).setCell (by simp) _).setCell (by simp) _).setCell (by simp) _).setCell (by simp) _).setCell (by simp) _).setCell (by simp) _).setCell (by simp) _).setCell (by simp) _)⟩
      case measure => simp [intOf]; omega
    · obtain rfl : k = n := by omega
      go_wp2
      go_ret
      refine ⟨_, _, rfl, Nat.le_refl _, by unfold maxLen; omega, ?_, hS.out.2⟩
      have h1 := hS.out.1.mk_to (f' := fun i => zs.getD i 0) (fun i hi => if_pos hi)
      have h2 := eq_mk zs
      rw [H.out.1] at h2
      rw [← h2] at h1
      exact h1.wr (Nat.le_refl _)

set_option maxHeartbeats 1000000 in
theorem eqBox_any (x0 x1 x2 x3 x4 x5 x6 x7 x8 : Int) (w : World) :
    Calls Try.prog 53 #[.agg #[.int .i64 x0, .int .i64 x1, .int .i64 x2, .int .i64 x3, .int .i64 x4, .int .i64 x5, .int .i64 x6, .int .i64 x7, .int .i64 x8], .agg #[.int .i64 x0, .int .i64 x1, .int .i64 x2, .int .i64 x3, .int .i64 x4, .int .i64 x5, .int .i64 x6, .int .i64 x7, .int .i64 x8]] w fun e w' => e = .returned (.bool true) ∧ Below w.heap.size w w' := by
  go_enter Try.func53, Try.ntmps53
  go_wp2
  go_ret
  exact ⟨rfl, ((Below.refl _ _).alloc (Nat.le_refl _) _).alloc (by simp) _⟩
def KB (w W : World) : Prop := Below w.heap.size w W
set_option maxHeartbeats 2000000 in
theorem eqBoxS_any (A A' : Option Addr) (n c c' : Nat) (zs : List Int) (w : World) (h : Rd w w.heap.size A (9 * n) zs) (h' : Rd w w.heap.size A' (9 * n) zs) (hn : n ≤ 2000000) :
    Calls Try.prog 19 #[.slice A n c, .slice A' n c'] w fun e w' => e = .returned (.bool true) ∧ Below w.heap.size w w' := by
  have H := Lib.hid h
  have H' := Lib.hid h'
  clear h h'
  go_enter Try.func19, Try.ntmps19
  go_wp2
  go_loopw [5] (fun i wr => ∃ k : Nat, k ≤ n ∧ i = .int .i64 k ∧ Hid (KB w wr)) (fun i _ => n - (intOf i).toNat)
  case atStart => exact ⟨0, Nat.zero_le _, rfl, Below.refl _ _⟩
  case round =>
    obtain ⟨k, hk, rfl, hS⟩ := hrel
    by_cases hlt : k < n
    · obtain ⟨b, off, rfl, hb, hc⟩ := H.out.cell (by omega)
      obtain ⟨b', off', rfl, hb', hc'⟩ := H'.out.cell (by omega)
      have hcell : ∀ (m : Kept (KB w)) j, j < 9 * n → m.val.cell? ⟨b, off + j, none⟩ = some (.int .i64 (zs.getD j 0)) := fun m j hj => by rw [Below.cell (show Below w.heap.size w m.val from m.ok) (p := ⟨b, off + j, none⟩) hb]; exact hc j hj
      have hcell' : ∀ (m : Kept (KB w)) j, j < 9 * n → m.val.cell? ⟨b', off' + j, none⟩ = some (.int .i64 (zs.getD j 0)) := fun m j hj => by rw [Below.cell (show Below w.heap.size w m.val from m.ok) (p := ⟨b', off' + j, none⟩) hb']; exact hc' j hj
      have hat := fun m => at9 (hcell m) hlt
      have hat' := fun m => at9 (hcell' m) hlt
      clear hcell hcell' hc hc'
      obtain ⟨x0, h0⟩ : ∃ x, Hid (zs.getD (9 * k) 0 = x) := ⟨_, rfl⟩
      obtain ⟨x1, h1⟩ : ∃ x, Hid (zs.getD (9 * k + 1) 0 = x) := ⟨_, rfl⟩
      obtain ⟨x2, h2⟩ : ∃ x, Hid (zs.getD (9 * k + 2) 0 = x) := ⟨_, rfl⟩
      obtain ⟨x3, h3⟩ : ∃ x, Hid (zs.getD (9 * k + 3) 0 = x) := ⟨_, rfl⟩
      obtain ⟨x4, h4⟩ : ∃ x, Hid (zs.getD (9 * k + 4) 0 = x) := ⟨_, rfl⟩
      obtain ⟨x5, h5⟩ : ∃ x, Hid (zs.getD (9 * k + 5) 0 = x) := ⟨_, rfl⟩
      obtain ⟨x6, h6⟩ : ∃ x, Hid (zs.getD (9 * k + 6) 0 = x) := ⟨_, rfl⟩
      obtain ⟨x7, h7⟩ : ∃ x, Hid (zs.getD (9 * k + 7) 0 = x) := ⟨_, rfl⟩
      obtain ⟨x8, h8⟩ : ∃ x, Hid (zs.getD (9 * k + 8) 0 = x) := ⟨_, rfl⟩
      have hk0 : (0 : Int) ≤ (k : Int) := by omega
      have hk1 : (k : Int) < (n : Int) := by omega
      have c0 : ∀ m : Kept (KB w), m.val.cell? ⟨b, off + k * 9, none⟩ = some (.int .i64 x0) := fun m => by rw [← h0.out]; exact (hat m).1
      have d0 : ∀ m : Kept (KB w), m.val.cell? ⟨b', off' + k * 9, none⟩ = some (.int .i64 x0) := fun m => by rw [← h0.out]; exact (hat' m).1
      have c1 : ∀ m : Kept (KB w), m.val.cell? ⟨b, off + k * 9 + 1, none⟩ = some (.int .i64 x1) := fun m => by rw [← h1.out]; exact (hat m).2.1
      have d1 : ∀ m : Kept (KB w), m.val.cell? ⟨b', off' + k * 9 + 1, none⟩ = some (.int .i64 x1) := fun m => by rw [← h1.out]; exact (hat' m).2.1
      have c2 : ∀ m : Kept (KB w), m.val.cell? ⟨b, off + k * 9 + 2, none⟩ = some (.int .i64 x2) := fun m => by rw [← h2.out]; exact (hat m).2.2.1
      have d2 : ∀ m : Kept (KB w), m.val.cell? ⟨b', off' + k * 9 + 2, none⟩ = some (.int .i64 x2) := fun m => by rw [← h2.out]; exact (hat' m).2.2.1
      have c3 : ∀ m : Kept (KB w), m.val.cell? ⟨b, off + k * 9 + 3, none⟩ = some (.int .i64 x3) := fun m => by rw [← h3.out]; exact (hat m).2.2.2.1
      have d3 : ∀ m : Kept (KB w), m.val.cell? ⟨b', off' + k * 9 + 3, none⟩ = some (.int .i64 x3) := fun m => by rw [← h3.out]; exact (hat' m).2.2.2.1
      have c4 : ∀ m : Kept (KB w), m.val.cell? ⟨b, off + k * 9 + 4, none⟩ = some (.int .i64 x4) := fun m => by rw [← h4.out]; exact (hat m).2.2.2.2.1
      have d4 : ∀ m : Kept (KB w), m.val.cell? ⟨b', off' + k * 9 + 4, none⟩ = some (.int .i64 x4) := fun m => by rw [← h4.out]; exact (hat' m).2.2.2.2.1
      have c5 : ∀ m : Kept (KB w), m.val.cell? ⟨b, off + k * 9 + 5, none⟩ = some (.int .i64 x5) := fun m => by rw [← h5.out]; exact (hat m).2.2.2.2.2.1
      have d5 : ∀ m : Kept (KB w), m.val.cell? ⟨b', off' + k * 9 + 5, none⟩ = some (.int .i64 x5) := fun m => by rw [← h5.out]; exact (hat' m).2.2.2.2.2.1
      have c6 : ∀ m : Kept (KB w), m.val.cell? ⟨b, off + k * 9 + 6, none⟩ = some (.int .i64 x6) := fun m => by rw [← h6.out]; exact (hat m).2.2.2.2.2.2.1
      have d6 : ∀ m : Kept (KB w), m.val.cell? ⟨b', off' + k * 9 + 6, none⟩ = some (.int .i64 x6) := fun m => by rw [← h6.out]; exact (hat' m).2.2.2.2.2.2.1
      have c7 : ∀ m : Kept (KB w), m.val.cell? ⟨b, off + k * 9 + 7, none⟩ = some (.int .i64 x7) := fun m => by rw [← h7.out]; exact (hat m).2.2.2.2.2.2.2.1
      have d7 : ∀ m : Kept (KB w), m.val.cell? ⟨b', off' + k * 9 + 7, none⟩ = some (.int .i64 x7) := fun m => by rw [← h7.out]; exact (hat' m).2.2.2.2.2.2.2.1
      have c8 : ∀ m : Kept (KB w), m.val.cell? ⟨b, off + k * 9 + 8, none⟩ = some (.int .i64 x8) := fun m => by rw [← h8.out]; exact (hat m).2.2.2.2.2.2.2.2
      have d8 : ∀ m : Kept (KB w), m.val.cell? ⟨b', off' + k * 9 + 8, none⟩ = some (.int .i64 x8) := fun m => by rw [← h8.out]; exact (hat' m).2.2.2.2.2.2.2.2
      clear hat hat'
      have HK := Lib.hid (fun (m : Kept (KB w)) (W : World) (hb : Below m.val.heap.size m.val W) => show KB w W from (show Below w.heap.size w m.val from m.ok).trans (hb.mono (show Below w.heap.size w m.val from m.ok).size))
      have HS0 : Hid (KB w wr.drew) := Below.drew hS.out
      go_wp2
      refine region_keep (S := KB w) (by kernel_rfl) (by kernel_rfl) HS0.out fun hne => ?_
      repeat (go_big_quiet_step ((go_at_call 53; with_reducible exact keep_call (eqBox_any x0 x1 x2 x3 x4 x5 x6 x7 x8 _) (HK.out _))))
      refine wpQuiet_nil ?_
      intro w9 hw'
      obtain ⟨m9, hw''⟩ := hw'
      have hS9 := m9.ok
      rw [← hw''] at hS9
      clear hw'' c0 d0 c1 d1 c2 d2 c3 d3 c4 d4 c5 d5 c6 d6 c7 d7 c8 d8 HK
      have hS9 := Lib.hid hS9
      go_wp2
      go_roundw
      case rel => exact ⟨k + 1, by omega, by go_num, hS9.out⟩
      case measure => simp [intOf]; omega
    · go_wp2
      go_ret
      exact ⟨rfl, hS.out⟩
theorem szBoxS_any (A : Option Addr) (n c : Nat) (w : World) (hn : (n : Int) ≤ 1048576) :
    Calls Try.prog 14 #[.slice A n c, .int .i64 1048576] w fun e w' => e = .returned (.int .i64 (1048576 - (n : Int))) ∧ w = w' := by
  go_enter Try.func14, Try.ntmps14
  go_wp2
  go_ret
  exact ⟨rfl, rfl⟩
theorem szBoxS_big (A : Option Addr) (n c : Nat) (w : World) (hn : (1048576 : Int) < n) (hm : (n : Int) ≤ 9223372036854775807) :
    Calls Try.prog 14 #[.slice A n c, .int .i64 1048576] w fun e w' => e = .returned (.int .i64 (-1)) ∧ w = w' := by
  go_enter Try.func14, Try.ntmps14
  go_wp2
  go_ret
  exact ⟨rfl, rfl⟩
set_option maxHeartbeats 4000000 in
set_option maxRecDepth 100000 in
theorem markBoxS_any (A : Option Addr) (n c : Nat) (zs : List Int) (k0 : Int) (lo hi : Nat) (w : World) (h : Wr w lo A (9 * n) zs) (hn : n ≤ 2000000) (h0 : 0 ≤ k0) (h1 : k0 ≤ 100000000) (hhi : ∀ b off, A = some ⟨b, off, none⟩ → 0 < n → b < hi) :
    Calls Try.prog 23 #[.slice A n c, .int .i64 k0] w fun e w' => ∃ row, e = .returned (.int .i64 (k0 + 9 * n)) ∧ Wr w' lo A (9 * n) (mk (9 * n) fun i => k0 + i) ∧ (∀ g, row = some g → lo ≤ g ∧ g < hi) ∧ w.grownBy w' row := by
  obtain ⟨row, hrow1, hrow2⟩ : ∃ row : Option Nat, (∀ g, row = some g → lo ≤ g ∧ g < hi) ∧ (∀ b off, A = some ⟨b, off, none⟩ → 0 < n → row = some b) := by
    rcases Nat.eq_zero_or_pos n with h2 | h2
    · exact ⟨none, fun g e => (by cases e), fun _ _ _ h3 => absurd h3 (by omega)⟩
    · obtain ⟨b, off, e, hl, _⟩ := h.2 (by omega)
      refine ⟨some b, fun g e2 => ?_, fun b' off' e2 _ => ?_⟩
      · injection e2 with e2
        subst e2
        exact ⟨hl, hhi b off e h2⟩
      · rw [e] at e2
        injection e2 with e2
        injection e2 with e2
        rw [e2]
  have HR := Lib.hid hrow1
  have HR2 := Lib.hid hrow2
  have H := Lib.hid h
  clear h hhi hrow1 hrow2
  go_enter Try.func23, Try.ntmps23
  go_wp2
  go_loopw [1, 5] (fun s i wr => ∃ k : Nat, k ≤ n ∧ i = .int .i64 k ∧ s = .int .i64 (k0 + 9 * k) ∧ Hid (Wr wr lo A (9 * n) (mk (9 * n) fun i => if i < 9 * k then k0 + i else zs.getD i 0) ∧ w.grownBy wr row)) (fun _ i _ => n - (intOf i).toNat)
  case atStart =>
    refine ⟨0, Nat.zero_le _, rfl, by simp, ?_, World.grownBy.refl w _⟩
    have h2 := eq_mk zs
    rw [H.out.1] at h2
    rw [mk_congr (9 * n) (fun i => if i < 9 * 0 then k0 + (i : Int) else zs.getD i 0) (fun i => zs.getD i 0) (fun i _ => by simp), ← h2]
    exact H.out
  case round =>
    obtain ⟨k, hk, rfl, rfl, hS⟩ := hrel
    by_cases hlt : k < n
    · obtain ⟨b, off, rfl, hl, hb, _⟩ := hS.out.1.2 (by omega)
      obtain ⟨_, _, ⟨d0, f0⟩, ⟨d1, f1⟩, ⟨d2, f2⟩, ⟨d3, f3⟩, ⟨d4, f4⟩, ⟨d5, f5⟩, ⟨d6, f6⟩, ⟨d7, f7⟩, ⟨d8, f8⟩⟩ := hS.out.1.at_9 hlt
      obtain ⟨u0, hu0⟩ : ∃ u, Hid ((mk (9 * n) fun i => if i < 9 * k then k0 + (i : Int) else zs.getD i 0).getD (9 * k) 0 = u) := ⟨_, rfl⟩
      rw [hu0.out] at d0
      clear hu0
      obtain ⟨u1, hu1⟩ : ∃ u, Hid ((mk (9 * n) fun i => if i < 9 * k then k0 + (i : Int) else zs.getD i 0).getD (9 * k + 1) 0 = u) := ⟨_, rfl⟩
      rw [hu1.out] at d1
      clear hu1
      obtain ⟨u2, hu2⟩ : ∃ u, Hid ((mk (9 * n) fun i => if i < 9 * k then k0 + (i : Int) else zs.getD i 0).getD (9 * k + 2) 0 = u) := ⟨_, rfl⟩
      rw [hu2.out] at d2
      clear hu2
      obtain ⟨u3, hu3⟩ : ∃ u, Hid ((mk (9 * n) fun i => if i < 9 * k then k0 + (i : Int) else zs.getD i 0).getD (9 * k + 3) 0 = u) := ⟨_, rfl⟩
      rw [hu3.out] at d3
      clear hu3
      obtain ⟨u4, hu4⟩ : ∃ u, Hid ((mk (9 * n) fun i => if i < 9 * k then k0 + (i : Int) else zs.getD i 0).getD (9 * k + 4) 0 = u) := ⟨_, rfl⟩
      rw [hu4.out] at d4
      clear hu4
      obtain ⟨u5, hu5⟩ : ∃ u, Hid ((mk (9 * n) fun i => if i < 9 * k then k0 + (i : Int) else zs.getD i 0).getD (9 * k + 5) 0 = u) := ⟨_, rfl⟩
      rw [hu5.out] at d5
      clear hu5
      obtain ⟨u6, hu6⟩ : ∃ u, Hid ((mk (9 * n) fun i => if i < 9 * k then k0 + (i : Int) else zs.getD i 0).getD (9 * k + 6) 0 = u) := ⟨_, rfl⟩
      rw [hu6.out] at d6
      clear hu6
      obtain ⟨u7, hu7⟩ : ∃ u, Hid ((mk (9 * n) fun i => if i < 9 * k then k0 + (i : Int) else zs.getD i 0).getD (9 * k + 7) 0 = u) := ⟨_, rfl⟩
      rw [hu7.out] at d7
      clear hu7
      obtain ⟨u8, hu8⟩ : ∃ u, Hid ((mk (9 * n) fun i => if i < 9 * k then k0 + (i : Int) else zs.getD i 0).getD (9 * k + 8) 0 = u) := ⟨_, rfl⟩
      rw [hu8.out] at d8
      clear hu8
      go_wp2
      go_roundw
      case rel =>
        have hg := hS.out.2
        rw [HR2.out b off rfl (by omega)] at hg
        have hset := hS.out.1.set9 hlt (k0 + 9 * (k : Int)) (k0 + 9 * (k : Int) + 1) (k0 + 9 * (k : Int) + 1 + 1) (k0 + 9 * (k : Int) + 1 + 1 + 1) (k0 + 9 * (k : Int) + 1 + 1 + 1 + 1) (k0 + 9 * (k : Int) + 1 + 1 + 1 + 1 + 1) (k0 + 9 * (k : Int) + 1 + 1 + 1 + 1 + 1 + 1) (k0 + 9 * (k : Int) + 1 + 1 + 1 + 1 + 1 + 1 + 1) (k0 + 9 * (k : Int) + 1 + 1 + 1 + 1 + 1 + 1 + 1 + 1)
        refine ⟨k + 1, by omega, by go_num, vint (by omega), ?_, ?_⟩
        · rw [← mk_congr (9 * n) _ _ (fun i _ => pick9 (k := k) (f := fun i => if i < 9 * k then k0 + (i : Int) else zs.getD i 0) (g := fun i => k0 + (i : Int)) (z := fun i => zs.getD i 0) (x0 := k0 + 9 * (k : Int)) (x1 := k0 + 9 * (k : Int) + 1) (x2 := k0 + 9 * (k : Int) + 1 + 1) (x3 := k0 + 9 * (k : Int) + 1 + 1 + 1) (x4 := k0 + 9 * (k : Int) + 1 + 1 + 1 + 1) (x5 := k0 + 9 * (k : Int) + 1 + 1 + 1 + 1 + 1) (x6 := k0 + 9 * (k : Int) + 1 + 1 + 1 + 1 + 1 + 1) (x7 := k0 + 9 * (k : Int) + 1 + 1 + 1 + 1 + 1 + 1 + 1) (x8 := k0 + 9 * (k : Int) + 1 + 1 + 1 + 1 + 1 + 1 + 1 + 1) (by omega) (by omega) (by omega) (by omega) (by omega) (by omega) (by omega) (by omega) (by omega) (fun i hi => if_pos hi) (fun i hi => if_neg (by omega)) i)]
          simp only [Int.add_assoc, Int.reduceAdd] at hset ⊢
          exact hset
        · rw [HR2.out b off rfl (by omega)]
          exact gb_set (gb_set (gb_set (gb_set (gb_set (gb_set (gb_set (gb_set (gb_set (hg) (.inl (by rfl)) _) (.inl (by rfl)) _) (.inl (by rfl)) _) (.inl (by rfl)) _) (.inl (by rfl)) _) (.inl (by rfl)) _) (.inl (by rfl)) _) (.inl (by rfl)) _) (.inl (by rfl)) _
      case measure => simp [intOf]; omega
    · obtain rfl : k = n := by omega
      go_wp2
      go_ret
      refine ⟨row, rfl, ?_, HR.out, hS.out.2⟩
      have h1 := hS.out.1
      rw [mk_congr (9 * k) (fun i => if i < 9 * k then k0 + (i : Int) else zs.getD i 0) (fun i => k0 + (i : Int)) (fun i hi => by simp [hi])] at h1
      exact h1
set_option maxHeartbeats 4000000 in
set_option maxRecDepth 100000 in
theorem heldBoxS_any (A : Option Addr) (n c : Nat) (k0 : Int) (B : Nat) (w : World) (h : Rd w B A (9 * n) (mk (9 * n) fun i => k0 + i)) (hn : n ≤ 2000000) (h0 : 0 ≤ k0) (h1 : k0 ≤ 100000000) :
    Calls Try.prog 48 #[.slice A n c, .int .i64 k0] w fun e w' => e = .returned (.int .i64 (k0 + 9 * n)) ∧ w = w' := by
  have H := Lib.hid h
  clear h
  go_enter Try.func48, Try.ntmps48
  go_wp2
  go_loop [1, 5] (fun s i => ∃ k : Nat, k ≤ n ∧ i = .int .i64 k ∧ s = .int .i64 (k0 + 9 * k)) (fun _ i => n - (intOf i).toNat)
  case atStart => exact ⟨0, Nat.zero_le _, rfl, by simp⟩
  case round =>
    obtain ⟨k, hk, rfl, rfl⟩ := hrel
    by_cases hlt : k < n
    · obtain ⟨b, off, rfl, hb, hc⟩ := H.out.cell (by omega)
      obtain ⟨c0, c1, c2, c3, c4, c5, c6, c7, c8⟩ := at9 hc hlt
      rw [mk_getD _ _ _ (by omega)] at c0
      rw [show k0 + ((9 * k : Nat) : Int) = k0 + 9 * (k : Int) by omega] at c0
      rw [mk_getD _ _ _ (by omega)] at c1
      rw [show k0 + ((9 * k + 1 : Nat) : Int) = k0 + 9 * (k : Int) + 1 by omega] at c1
      rw [mk_getD _ _ _ (by omega)] at c2
      rw [show k0 + ((9 * k + 2 : Nat) : Int) = k0 + 9 * (k : Int) + 1 + 1 by omega] at c2
      rw [mk_getD _ _ _ (by omega)] at c3
      rw [show k0 + ((9 * k + 3 : Nat) : Int) = k0 + 9 * (k : Int) + 1 + 1 + 1 by omega] at c3
      rw [mk_getD _ _ _ (by omega)] at c4
      rw [show k0 + ((9 * k + 4 : Nat) : Int) = k0 + 9 * (k : Int) + 1 + 1 + 1 + 1 by omega] at c4
      rw [mk_getD _ _ _ (by omega)] at c5
      rw [show k0 + ((9 * k + 5 : Nat) : Int) = k0 + 9 * (k : Int) + 1 + 1 + 1 + 1 + 1 by omega] at c5
      rw [mk_getD _ _ _ (by omega)] at c6
      rw [show k0 + ((9 * k + 6 : Nat) : Int) = k0 + 9 * (k : Int) + 1 + 1 + 1 + 1 + 1 + 1 by omega] at c6
      rw [mk_getD _ _ _ (by omega)] at c7
      rw [show k0 + ((9 * k + 7 : Nat) : Int) = k0 + 9 * (k : Int) + 1 + 1 + 1 + 1 + 1 + 1 + 1 by omega] at c7
      rw [mk_getD _ _ _ (by omega)] at c8
      rw [show k0 + ((9 * k + 8 : Nat) : Int) = k0 + 9 * (k : Int) + 1 + 1 + 1 + 1 + 1 + 1 + 1 + 1 by omega] at c8
      clear hc
      go_wp2
      go_round
      case rel => exact ⟨k + 1, by omega, by go_num, vint (by omega)⟩
      case measure => simp [intOf]; omega
    · obtain rfl : k = n := by omega
      go_wp2
      go_ret
      exact ⟨rfl, rfl⟩
end Go.Proofs.Ytjaecgobgpfbdaa
