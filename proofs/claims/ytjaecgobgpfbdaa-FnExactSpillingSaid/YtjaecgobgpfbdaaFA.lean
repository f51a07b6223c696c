/- Slices of structs of 5 integers (Flex): copies, comparisons, marks. A slice of n of them reads as a list of 5 n integers. -/
import Derived.Test.YtjaecgobgpfbdaaSA
import Derived.Test.YtjaecgobgpfbdaaK
namespace Go.Proofs.Ytjaecgobgpfbdaa
open Go.RowKit

theorem mul_lt5 {k n j : Nat} (h : k < n) (hj : j < 5) : 5 * k + j < 5 * n := by omega
theorem at5 {w : World} {b off n : Nat} {zs : List Int} (hc : ∀ i, i < 5 * n → w.cell? ⟨b, off + i, none⟩ = some (.int .i64 (zs.getD i 0))) {k : Nat} (h : k < n) :
    w.cell? ⟨b, off + k * 5, none⟩ = some (.int .i64 (zs.getD (5 * k) 0)) ∧ w.cell? ⟨b, off + k * 5 + 1, none⟩ = some (.int .i64 (zs.getD (5 * k + 1) 0)) ∧ w.cell? ⟨b, off + k * 5 + 2, none⟩ = some (.int .i64 (zs.getD (5 * k + 2) 0)) ∧ w.cell? ⟨b, off + k * 5 + 3, none⟩ = some (.int .i64 (zs.getD (5 * k + 3) 0)) ∧ w.cell? ⟨b, off + k * 5 + 4, none⟩ = some (.int .i64 (zs.getD (5 * k + 4) 0)) := by
  refine ⟨?_, ?_, ?_, ?_, ?_⟩
  · have e := hc (5 * k) (by omega)
    rw [show off + (5 * k) = off + k * 5 by omega] at e
    exact e
  · have e := hc (5 * k + 1) (by omega)
    rw [show off + (5 * k + 1) = off + k * 5 + 1 by omega] at e
    exact e
  · have e := hc (5 * k + 2) (by omega)
    rw [show off + (5 * k + 2) = off + k * 5 + 2 by omega] at e
    exact e
  · have e := hc (5 * k + 3) (by omega)
    rw [show off + (5 * k + 3) = off + k * 5 + 3 by omega] at e
    exact e
  · have e := hc (5 * k + 4) (by omega)
    rw [show off + (5 * k + 4) = off + k * 5 + 4 by omega] at e
    exact e
theorem Bk.at5 {w : World} {g n : Nat} {zs : List Int} (h : Bk w g (5 * n) zs) {k : Nat} (hk : k < n) :
    (w.cell? ⟨g, k * 5, none⟩ = some (.int .i64 (zs.getD (5 * k) 0)) ∧ w.frozen? ⟨g, k * 5, none⟩ = false) ∧ (w.cell? ⟨g, k * 5 + 1, none⟩ = some (.int .i64 (zs.getD (5 * k + 1) 0)) ∧ w.frozen? ⟨g, k * 5 + 1, none⟩ = false) ∧ (w.cell? ⟨g, k * 5 + 2, none⟩ = some (.int .i64 (zs.getD (5 * k + 2) 0)) ∧ w.frozen? ⟨g, k * 5 + 2, none⟩ = false) ∧ (w.cell? ⟨g, k * 5 + 3, none⟩ = some (.int .i64 (zs.getD (5 * k + 3) 0)) ∧ w.frozen? ⟨g, k * 5 + 3, none⟩ = false) ∧ (w.cell? ⟨g, k * 5 + 4, none⟩ = some (.int .i64 (zs.getD (5 * k + 4) 0)) ∧ w.frozen? ⟨g, k * 5 + 4, none⟩ = false) := by
  refine ⟨?_, ?_, ?_, ?_, ?_⟩
  · have e := h.2.2 (5 * k) (by omega)
    rw [show 5 * k = k * 5 by omega] at e
    rw [show 5 * k = k * 5 by omega]
    exact e
  · have e := h.2.2 (5 * k + 1) (by omega)
    rw [show 5 * k + 1 = k * 5 + 1 by omega] at e
    rw [show 5 * k + 1 = k * 5 + 1 by omega]
    exact e
  · have e := h.2.2 (5 * k + 2) (by omega)
    rw [show 5 * k + 2 = k * 5 + 2 by omega] at e
    rw [show 5 * k + 2 = k * 5 + 2 by omega]
    exact e
  · have e := h.2.2 (5 * k + 3) (by omega)
    rw [show 5 * k + 3 = k * 5 + 3 by omega] at e
    rw [show 5 * k + 3 = k * 5 + 3 by omega]
    exact e
  · have e := h.2.2 (5 * k + 4) (by omega)
    rw [show 5 * k + 4 = k * 5 + 4 by omega] at e
    rw [show 5 * k + 4 = k * 5 + 4 by omega]
    exact e
theorem Bk.set5 {w : World} {g n : Nat} {f : Nat → Int} (h : Bk w g (5 * n) (mk (5 * n) f)) {k : Nat} (hk : k < n) (x0 x1 x2 x3 x4 : Int) :
    Bk (((((w.setCell ⟨g, k * 5, none⟩ (.int .i64 x0)).setCell ⟨g, k * 5 + 1, none⟩ (.int .i64 x1)).setCell ⟨g, k * 5 + 2, none⟩ (.int .i64 x2)).setCell ⟨g, k * 5 + 3, none⟩ (.int .i64 x3)).setCell ⟨g, k * 5 + 4, none⟩ (.int .i64 x4)) g (5 * n) (mk (5 * n) fun i => if i = k * 5 + 4 then x4 else if i = k * 5 + 3 then x3 else if i = k * 5 + 2 then x2 else if i = k * 5 + 1 then x1 else if i = k * 5 then x0 else f i) := by
  exact (((((h.setMk (k := k * 5) (by omega) x0).setMk (k := k * 5 + 1) (by omega) x1).setMk (k := k * 5 + 2) (by omega) x2).setMk (k := k * 5 + 3) (by omega) x3).setMk (k := k * 5 + 4) (by omega) x4)
theorem pick5 {k : Nat} {f g z : Nat → Int} {x0 x1 x2 x3 x4 : Int} (h0 : g (5 * k) = x0) (h1 : g (5 * k + 1) = x1) (h2 : g (5 * k + 2) = x2) (h3 : g (5 * k + 3) = x3) (h4 : g (5 * k + 4) = x4) (hf : ∀ i, i < 5 * k → f i = g i) (hf2 : ∀ i, 5 * k ≤ i → f i = z i) (i : Nat) :
    (if i = k * 5 + 4 then x4 else if i = k * 5 + 3 then x3 else if i = k * 5 + 2 then x2 else if i = k * 5 + 1 then x1 else if i = k * 5 then x0 else f i) = if i < 5 * (k + 1) then g i else z i := by
  by_cases e4 : i = k * 5 + 4
  · rw [if_pos e4, if_pos (by omega), e4, show k * 5 + 4 = 5 * k + 4 by omega, h4]
  rw [if_neg e4]
  by_cases e3 : i = k * 5 + 3
  · rw [if_pos e3, if_pos (by omega), e3, show k * 5 + 3 = 5 * k + 3 by omega, h3]
  rw [if_neg e3]
  by_cases e2 : i = k * 5 + 2
  · rw [if_pos e2, if_pos (by omega), e2, show k * 5 + 2 = 5 * k + 2 by omega, h2]
  rw [if_neg e2]
  by_cases e1 : i = k * 5 + 1
  · rw [if_pos e1, if_pos (by omega), e1, show k * 5 + 1 = 5 * k + 1 by omega, h1]
  rw [if_neg e1]
  by_cases e0 : i = k * 5
  · rw [if_pos e0, if_pos (by omega), e0, show k * 5 = 5 * k by omega, h0]
  rw [if_neg e0]
  by_cases h : i < 5 * k
  · rw [if_pos (by omega)]; exact hf i h
  · rw [if_neg (by omega)]; exact hf2 i (by omega)
theorem Wr.at_5 {w : World} {lo b off n : Nat} {zs : List Int} (h : Wr w lo (some ⟨b, off, none⟩) (5 * n) zs) {k : Nat} (hk : k < n) :
    lo ≤ b ∧ b < w.heap.size ∧ (w.cell? ⟨b, off + k * 5, none⟩ = some (.int .i64 (zs.getD (5 * k) 0)) ∧ w.frozen? ⟨b, off + k * 5, none⟩ = false) ∧ (w.cell? ⟨b, off + k * 5 + 1, none⟩ = some (.int .i64 (zs.getD (5 * k + 1) 0)) ∧ w.frozen? ⟨b, off + k * 5 + 1, none⟩ = false) ∧ (w.cell? ⟨b, off + k * 5 + 2, none⟩ = some (.int .i64 (zs.getD (5 * k + 2) 0)) ∧ w.frozen? ⟨b, off + k * 5 + 2, none⟩ = false) ∧ (w.cell? ⟨b, off + k * 5 + 3, none⟩ = some (.int .i64 (zs.getD (5 * k + 3) 0)) ∧ w.frozen? ⟨b, off + k * 5 + 3, none⟩ = false) ∧ (w.cell? ⟨b, off + k * 5 + 4, none⟩ = some (.int .i64 (zs.getD (5 * k + 4) 0)) ∧ w.frozen? ⟨b, off + k * 5 + 4, none⟩ = false) := by
  obtain ⟨b', off', e, h1, h2, h3⟩ := h.2 (by omega)
  injection e with e; injection e with e1 e2
  subst e1 e2
  refine ⟨h1, h2, ?_, ?_, ?_, ?_, ?_⟩
  · have e := h3 (5 * k) (by omega)
    rw [show off + (5 * k) = off + k * 5 by omega] at e
    exact e
  · have e := h3 (5 * k + 1) (by omega)
    rw [show off + (5 * k + 1) = off + k * 5 + 1 by omega] at e
    exact e
  · have e := h3 (5 * k + 2) (by omega)
    rw [show off + (5 * k + 2) = off + k * 5 + 2 by omega] at e
    exact e
  · have e := h3 (5 * k + 3) (by omega)
    rw [show off + (5 * k + 3) = off + k * 5 + 3 by omega] at e
    exact e
  · have e := h3 (5 * k + 4) (by omega)
    rw [show off + (5 * k + 4) = off + k * 5 + 4 by omega] at e
    exact e
theorem Wr.set5 {w : World} {lo b off n : Nat} {f : Nat → Int} (h : Wr w lo (some ⟨b, off, none⟩) (5 * n) (mk (5 * n) f)) {k : Nat} (hk : k < n) (x0 x1 x2 x3 x4 : Int) :
    Wr (((((w.setCell ⟨b, off + k * 5, none⟩ (.int .i64 x0)).setCell ⟨b, off + k * 5 + 1, none⟩ (.int .i64 x1)).setCell ⟨b, off + k * 5 + 2, none⟩ (.int .i64 x2)).setCell ⟨b, off + k * 5 + 3, none⟩ (.int .i64 x3)).setCell ⟨b, off + k * 5 + 4, none⟩ (.int .i64 x4)) lo (some ⟨b, off, none⟩) (5 * n) (mk (5 * n) fun i => if i = k * 5 + 4 then x4 else if i = k * 5 + 3 then x3 else if i = k * 5 + 2 then x2 else if i = k * 5 + 1 then x1 else if i = k * 5 then x0 else f i) := by
  have e := (((((h.set (k := k * 5) (by omega) x0).set (k := k * 5 + 1) (by omega) x1).set (k := k * 5 + 2) (by omega) x2).set (k := k * 5 + 3) (by omega) x3).set (k := k * 5 + 4) (by omega) x4)
  simp only [← Nat.add_assoc] at e
  rw [mk_set _ _ _ _ (by omega)] at e
  rw [mk_set _ _ _ _ (by omega)] at e
  rw [mk_set _ _ _ _ (by omega)] at e
  rw [mk_set _ _ _ _ (by omega)] at e
  rw [mk_set _ _ _ _ (by omega)] at e
  exact e
theorem info_Flex : (Try.prog.info? 87).map (fun i => (i.zero, i.size, i.bytes)) = some (some (.agg #[.int .i64 0, .int .i64 0, .int .i64 0, .int .i64 0, .int .i64 0]), 5, 40) := by kernel_rfl
end Go.Proofs.Ytjaecgobgpfbdaa
