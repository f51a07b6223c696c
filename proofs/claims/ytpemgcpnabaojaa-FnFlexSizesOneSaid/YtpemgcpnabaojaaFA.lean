/- Slices of structs of 5 integers (Flex): copies, comparisons, marks. A slice of n of them reads as a list of 5 n integers. -/
import Derived.Test.YtpemgcpnabaojaaSA
import Derived.Test.YtpemgcpnabaojaaK
namespace Go.Proofs.Ytpemgcpnabaojaa
open Go.RowKit

theorem mul_lt5 {k n j : Nat} (h : k < n) (hj : j < 5) : 5 * k + j < 5 * n := by omega
theorem at5 {w : World} {b off n : Nat} {zs : List Int} (hc : ∀ i, i < 5 * n → w.cell? ⟨b, off + i, none⟩ = some (.int .i64 (zs.getD i 0))) {k : Nat} (h : k < n) :
    w.cell? ⟨b, off + k * 5, none⟩ = some (.int .i64 (zs.getD (5 * k) 0)) ∧ w.cell? ⟨b, off + k * 5 + 1, none⟩ = some (.int .i64 (zs.getD (5 * k + 1) 0)) ∧ w.cell? ⟨b, off + k * 5 + 2, none⟩ = some (.int .i64 (zs.getD (5 * k + 2) 0)) ∧ w.cell? ⟨b, off + k * 5 + 3, none⟩ = some (.int .i64 (zs.getD (5 * k + 3) 0)) ∧ w.cell? ⟨b, off + k * 5 + 4, none⟩ = some (.int .i64 (zs.getD (5 * k + 4) 0)) := by
  refine ⟨?_, ?_, ?_, ?_, ?_⟩
  · have e := hc (5 * k) (by omega)
    rw [show off + (5 * k) = off + k * 5 by omega] at e
    exact e
  · have e := hc (5 * k + 1) (by omega)
    rw [show off + (5 * k + 1) = off + k * 5 + 1 by omega] at e
    exact e
  · have e := hc (5 * k + 2) (by omega)
    rw [show off + (5 * k + 2) = off + k * 5 + 2 by omega] at e
    exact e
  · have e := hc (5 * k + 3) (by omega)
    rw [show off + (5 * k + 3) = off + k * 5 + 3 by omega] at e
    exact e
  · have e := hc (5 * k + 4) (by omega)
    rw [show off + (5 * k + 4) = off + k * 5 + 4 by omega] at e
    exact e
theorem Bk.at5 {w : World} {g n : Nat} {zs : List Int} (h : Bk w g (5 * n) zs) {k : Nat} (hk : k < n) :
    (w.cell? ⟨g, k * 5, none⟩ = some (.int .i64 (zs.getD (5 * k) 0)) ∧ w.frozen? ⟨g, k * 5, none⟩ = false) ∧ (w.cell? ⟨g, k * 5 + 1, none⟩ = some (.int .i64 (zs.getD (5 * k + 1) 0)) ∧ w.frozen? ⟨g, k * 5 + 1, none⟩ = false) ∧ (w.cell? ⟨g, k * 5 + 2, none⟩ = some (.int .i64 (zs.getD (5 * k + 2) 0)) ∧ w.frozen? ⟨g, k * 5 + 2, none⟩ = false) ∧ (w.cell? ⟨g, k * 5 + 3, none⟩ = some (.int .i64 (zs.getD (5 * k + 3) 0)) ∧ w.frozen? ⟨g, k * 5 + 3, none⟩ = false) ∧ (w.cell? ⟨g, k * 5 + 4, none⟩ = some (.int .i64 (zs.getD (5 * k + 4) 0)) ∧ w.frozen? ⟨g, k * 5 + 4, none⟩ = false) := by
  refine ⟨?_, ?_, ?_, ?_, ?_⟩
  · have e := h.2.2 (5 * k) (by omega)
    rw [show 5 * k = k * 5 by omega] at e
    rw [show 5 * k = k * 5 by omega]
    exact e
  · have e := h.2.2 (5 * k + 1) (by omega)
    rw [show 5 * k + 1 = k * 5 + 1 by omega] at e
    rw [show 5 * k + 1 = k * 5 + 1 by omega]
    exact e
  · have e := h.2.2 (5 * k + 2) (by omega)
    rw [show 5 * k + 2 = k * 5 + 2 by omega] at e
    rw [show 5 * k + 2 = k * 5 + 2 by omega]
    exact e
  · have e := h.2.2 (5 * k + 3) (by omega)
    rw [show 5 * k + 3 = k * 5 + 3 by omega] at e
    rw [show 5 * k + 3 = k * 5 + 3 by omega]
    exact e
  · have e := h.2.2 (5 * k + 4) (by omega)
    rw [show 5 * k + 4 = k * 5 + 4 by omega] at e
    rw [show 5 * k + 4 = k * 5 + 4 by omega]
    exact e
theorem Bk.set5 {w : World} {g n : Nat} {f : Nat → Int} (h : Bk w g (5 * n) (mk (5 * n) f)) {k : Nat} (hk : k < n) (x0 x1 x2 x3 x4 : Int) :
    Bk (((((w.setCell ⟨g, k * 5, none⟩ (.int .i64 x0)).setCell ⟨g, k * 5 + 1, none⟩ (.int .i64 x1)).setCell ⟨g, k * 5 + 2, none⟩ (.int .i64 x2)).setCell ⟨g, k * 5 + 3, none⟩ (.int .i64 x3)).setCell ⟨g, k * 5 + 4, none⟩ (.int .i64 x4)) g (5 * n) (mk (5 * n) fun i => if i = k * 5 + 4 then x4 else if i = k * 5 + 3 then x3 else if i = k * 5 + 2 then x2 else if i = k * 5 + 1 then x1 else if i = k * 5 then x0 else f i) := by
  exact (((((h.setMk (k := k * 5) (by omega) x0).setMk (k := k * 5 + 1) (by omega) x1).setMk (k := k * 5 + 2) (by omega) x2).setMk (k := k * 5 + 3) (by omega) x3).setMk (k := k * 5 + 4) (by omega) x4)
theorem pick5 {k : Nat} {f g z : Nat → Int} {x0 x1 x2 x3 x4 : Int} (h0 : g (5 * k) = x0) (h1 : g (5 * k + 1) = x1) (h2 : g (5 * k + 2) = x2) (h3 : g (5 * k + 3) = x3) (h4 : g (5 * k + 4) = x4) (hf : ∀ i, i < 5 * k → f i = g i) (hf2 : ∀ i, 5 * k ≤ i → f i = z i) (i : Nat) :
    (if i = k * 5 + 4 then x4 else if i = k * 5 + 3 then x3 else if i = k * 5 + 2 then x2 else if i = k * 5 + 1 then x1 else if i = k * 5 then x0 else f i) = if i < 5 * (k + 1) then g i else z i := by
  by_cases e4 : i = k * 5 + 4
  · rw [if_pos e4, if_pos (by omega), e4, show k * 5 + 4 = 5 * k + 4 by omega, h4]
  rw [if_neg e4]
  by_cases e3 : i = k * 5 + 3
  · rw [if_pos e3, if_pos (by omega), e3, show k * 5 + 3 = 5 * k + 3 by omega, h3]
  rw [if_neg e3]
  by_cases e2 : i = k * 5 + 2
  · rw [if_pos e2, if_pos (by omega), e2, show k * 5 + 2 = 5 * k + 2 by omega, h2]
  rw [if_neg e2]
  by_cases e1 : i = k * 5 + 1
  · rw [if_pos e1, if_pos (by omega), e1, show k * 5 + 1 = 5 * k + 1 by omega, h1]
  rw [if_neg e1]
  by_cases e0 : i = k * 5
  · rw [if_pos e0, if_pos (by omega), e0, show k * 5 = 5 * k by omega, h0]
  rw [if_neg e0]
  by_cases h : i < 5 * k
  · rw [if_pos (by omega)]; exact hf i h
  · rw [if_neg (by omega)]; exact hf2 i (by omega)
theorem Wr.at_5 {w : World} {lo b off n : Nat} {zs : List Int} (h : Wr w lo (some ⟨b, off, none⟩) (5 * n) zs) {k : Nat} (hk : k < n) :
    lo ≤ b ∧ b < w.heap.size ∧ (w.cell? ⟨b, off + k * 5, none⟩ = some (.int .i64 (zs.getD (5 * k) 0)) ∧ w.frozen? ⟨b, off + k * 5, none⟩ = false) ∧ (w.cell? ⟨b, off + k * 5 + 1, none⟩ = some (.int .i64 (zs.getD (5 * k + 1) 0)) ∧ w.frozen? ⟨b, off + k * 5 + 1, none⟩ = false) ∧ (w.cell? ⟨b, off + k * 5 + 2, none⟩ = some (.int .i64 (zs.getD (5 * k + 2) 0)) ∧ w.frozen? ⟨b, off + k * 5 + 2, none⟩ = false) ∧ (w.cell? ⟨b, off + k * 5 + 3, none⟩ = some (.int .i64 (zs.getD (5 * k + 3) 0)) ∧ w.frozen? ⟨b, off + k * 5 + 3, none⟩ = false) ∧ (w.cell? ⟨b, off + k * 5 + 4, none⟩ = some (.int .i64 (zs.getD (5 * k + 4) 0)) ∧ w.frozen? ⟨b, off + k * 5 + 4, none⟩ = false) := by
  obtain ⟨b', off', e, h1, h2, h3⟩ := h.2 (by omega)
  injection e with e; injection e with e1 e2
  subst e1 e2
  refine ⟨h1, h2, ?_, ?_, ?_, ?_, ?_⟩
  · have e := h3 (5 * k) (by omega)
    rw [show off + (5 * k) = off + k * 5 by omega] at e
    exact e
  · have e := h3 (5 * k + 1) (by omega)
    rw [show off + (5 * k + 1) = off + k * 5 + 1 by omega] at e
    exact e
  · have e := h3 (5 * k + 2) (by omega)
    rw [show off + (5 * k + 2) = off + k * 5 + 2 by omega] at e
    exact e
  · have e := h3 (5 * k + 3) (by omega)
    rw [show off + (5 * k + 3) = off + k * 5 + 3 by omega] at e
    exact e
  · have e := h3 (5 * k + 4) (by omega)
    rw [show off + (5 * k + 4) = off + k * 5 + 4 by omega] at e
    exact e
theorem Wr.set5 {w : World} {lo b off n : Nat} {f : Nat → Int} (h : Wr w lo (some ⟨b, off, none⟩) (5 * n) (mk (5 * n) f)) {k : Nat} (hk : k < n) (x0 x1 x2 x3 x4 : Int) :
    Wr (((((w.setCell ⟨b, off + k * 5, none⟩ (.int .i64 x0)).setCell ⟨b, off + k * 5 + 1, none⟩ (.int .i64 x1)).setCell ⟨b, off + k * 5 + 2, none⟩ (.int .i64 x2)).setCell ⟨b, off + k * 5 + 3, none⟩ (.int .i64 x3)).setCell ⟨b, off + k * 5 + 4, none⟩ (.int .i64 x4)) lo (some ⟨b, off, none⟩) (5 * n) (mk (5 * n) fun i => if i = k * 5 + 4 then x4 else if i = k * 5 + 3 then x3 else if i = k * 5 + 2 then x2 else if i = k * 5 + 1 then x1 else if i = k * 5 then x0 else f i) := by
  have e := (((((h.set (k := k * 5) (by omega) x0).set (k := k * 5 + 1) (by omega) x1).set (k := k * 5 + 2) (by omega) x2).set (k := k * 5 + 3) (by omega) x3).set (k := k * 5 + 4) (by omega) x4)
  simp only [← Nat.add_assoc] at e
  rw [mk_set _ _ _ _ (by omega)] at e
  rw [mk_set _ _ _ _ (by omega)] at e
  rw [mk_set _ _ _ _ (by omega)] at e
  rw [mk_set _ _ _ _ (by omega)] at e
  rw [mk_set _ _ _ _ (by omega)] at e
  exact e
set_option maxHeartbeats 1000000 in
theorem toFlex_any (x0 x1 x2 x3 x4 : Int) (w : World) :
    Calls Try.prog 40 #[.agg #[.int .i64 x0, .int .i64 x1, .int .i64 x2, .int .i64 x3, .int .i64 x4]] w fun e w' => e = .returned (.agg #[.int .i64 x0, .int .i64 x1, .int .i64 x2, .int .i64 x3, .int .i64 x4]) ∧ Below w.heap.size w w' := by
  go_enter Try.func40, Try.ntmps40
  go_wp2
  exact bodyPost_ret (v := .agg #[.int .i64 x0, .int .i64 x1, .int .i64 x2, .int .i64 x3, .int .i64 x4]) (by simp [results, Try.results40, go_sem]) rfl ⟨rfl, (((Below.refl _ _).alloc (Nat.le_refl _) _).alloc (by simp) _).alloc (by simp; omega) _⟩
theorem info_Flex : (Try.prog.info? 29).map (fun i => (i.zero, i.size, i.bytes)) = some (some (.agg #[.int .i64 0, .int .i64 0, .int .i64 0, .int .i64 0, .int .i64 0]), 5, 40) := by kernel_rfl
theorem cells_Flex (n : Nat) : madeCells (Value.agg #[.int .i64 0, .int .i64 0, .int .i64 0, .int .i64 0, .int .i64 0]).cells (n * 5) = madeCells #[Value.int .i64 0] (5 * n) := by
  apply Array.ext
  · simp [size_madeCells, Nat.mul_comm]
  · intro i h1 h2
    have key : ∀ j, j < 5 → (#[.int .i64 0, .int .i64 0, .int .i64 0, .int .i64 0, .int .i64 0] : Array Value)[j]! = .int .i64 0 := by
      intro j hj
      rcases j with _ | _ | _ | _ | _ | j
      all_goals first | rfl | omega
    have h3 := key (i % 5) (Nat.mod_lt _ (by omega))
    simp only [madeCells, Value.cells, Array.getElem_map, Array.getElem_range]
    rw [show i % #[Value.int IntKind.i64 0].size = 0 from Nat.mod_one i]
    exact h3
set_option maxHeartbeats 2000000 in
theorem toFlexS_any (A : Option Addr) (n c : Nat) (zs : List Int) (w : World) (h : Rd w w.heap.size A (5 * n) zs) (hn : n ≤ 2000000) :
    Calls Try.prog 18 #[.slice A n c] w fun e w' => ∃ A' c', e = .returned (.slice A' n c') ∧ n ≤ c' ∧ c' ≤ maxLen ∧ Wr w' w.heap.size A' (5 * n) zs ∧ Below w.heap.size w w' := by
  obtain ⟨i0, hi, hz0, hz1, hz2⟩ := info_parts info_Flex
  have hmk := fun W => run_make_rowN (P := Try.prog) 23 29 i0 _ Try.underlying23 hi hz0 .i64 .i64 n n (Nat.le_refl _) (by rw [hz2]; omega) (by omega) W
  rw [hz1, cells_Flex] at hmk
  have H := Lib.hid h
  have HK := Lib.hid (Bk.made w (5 * n) 29)
  have HW := Lib.hid ((Below.refl w.heap.size w).alloc (Nat.le_refl _) (.cells (madeCells #[Value.int .i64 0] (5 * n)) 29))
  clear h hi hz0 hz1 hz2
  go_enter Try.func18, Try.ntmps18
  go_wp2
  generalize w.alloc (.cells (madeCells #[Value.int .i64 0] (5 * n)) 29) = wa at HK HW ⊢
  go_loopw [4] (fun i wr => ∃ k : Nat, k ≤ n ∧ i = .int .i64 k ∧ Hid (Bk wr w.heap.size (5 * n) (mk (5 * n) fun i => if i < 5 * k then zs.getD i 0 else 0) ∧ Below w.heap.size w wr)) (fun i _ => n - (intOf i).toNat)
  case atStart => exact ⟨0, Nat.zero_le _, rfl, HK.out.mk_to fun i _ => by simp, HW.out⟩
  case round =>
    obtain ⟨k, hk, rfl, hS⟩ := hrel
    by_cases hlt : k < n
    · obtain ⟨b, off, rfl, hb, hc⟩ := H.out.cell (by omega)
      have hcell : ∀ j, j < 5 * n → wr.cell? ⟨b, off + j, none⟩ = some (.int .i64 (zs.getD j 0)) := fun j hj => by rw [hS.out.2.cell (p := ⟨b, off + j, none⟩) hb]; exact hc j hj
      obtain ⟨c0, c1, c2, c3, c4⟩ := at5 hcell hlt
      clear hcell hc
      obtain ⟨x0, h0⟩ : ∃ x, Hid (zs.getD (5 * k) 0 = x) := ⟨_, rfl⟩
      rw [h0.out] at c0
      obtain ⟨x1, h1⟩ : ∃ x, Hid (zs.getD (5 * k + 1) 0 = x) := ⟨_, rfl⟩
      rw [h1.out] at c1
      obtain ⟨x2, h2⟩ : ∃ x, Hid (zs.getD (5 * k + 2) 0 = x) := ⟨_, rfl⟩
      rw [h2.out] at c2
      obtain ⟨x3, h3⟩ : ∃ x, Hid (zs.getD (5 * k + 3) 0 = x) := ⟨_, rfl⟩
      rw [h3.out] at c3
      obtain ⟨x4, h4⟩ : ∃ x, Hid (zs.getD (5 * k + 4) 0 = x) := ⟨_, rfl⟩
      rw [h4.out] at c4
      go_wp2_with fail
      refine (toFlex_any x0 x1 x2 x3 x4 _).mono ?_
      rintro e w1 ⟨rfl, hb1⟩
      have HB1 := Lib.hid hb1
      have HK1 := Lib.hid (hS.out.1.below hb1)
      clear hb1
      obtain ⟨⟨d0, f0⟩, ⟨d1, f1⟩, ⟨d2, f2⟩, ⟨d3, f3⟩, ⟨d4, f4⟩⟩ := HK1.out.at5 hlt
      have HK2 := Lib.hid (HK1.out.set5 hlt x0 x1 x2 x3 x4)
      go_wp2
      go_roundw
      case rel =>
        refine ⟨k + 1, by omega, by go_num, HK2.out.mk_to fun i _ => pick5 (g := fun i => zs.getD i 0) (z := fun _ => 0) h0.out h1.out h2.out h3.out h4.out (fun i hi => if_pos hi) (fun i hi => if_neg (by omega)) i, ((((((hS.out.2.trans (HB1.out.mono hS.out.2.size)).setCell (by simp) _).setCell (by simp) _).setCell (by simp) _).setCell (by simp) _).setCell (by simp) _)⟩
      case measure => simp [intOf]; omega
    · obtain rfl : k = n := by omega
      go_wp2
      go_ret
      refine ⟨_, _, rfl, Nat.le_refl _, by unfold maxLen; omega, ?_, hS.out.2⟩
      have h1 := hS.out.1.mk_to (f' := fun i => zs.getD i 0) (fun i hi => if_pos hi)
      have h2 := eq_mk zs
      rw [H.out.1] at h2
      rw [← h2] at h1
      exact h1.wr (Nat.le_refl _)

set_option maxHeartbeats 1000000 in
theorem eqFlex_any (x0 x1 x2 x3 x4 : Int) (w : World) :
    Calls Try.prog 41 #[.agg #[.int .i64 x0, .int .i64 x1, .int .i64 x2, .int .i64 x3, .int .i64 x4], .agg #[.int .i64 x0, .int .i64 x1, .int .i64 x2, .int .i64 x3, .int .i64 x4]] w fun e w' => e = .returned (.bool true) ∧ Below w.heap.size w w' := by
  go_enter Try.func41, Try.ntmps41
  go_wp2
  go_ret
  exact ⟨rfl, ((Below.refl _ _).alloc (Nat.le_refl _) _).alloc (by simp) _⟩
def KB (w W : World) : Prop := Below w.heap.size w W
set_option maxHeartbeats 2000000 in
theorem eqFlexS_any (A A' : Option Addr) (n c c' : Nat) (zs : List Int) (w : World) (h : Rd w w.heap.size A (5 * n) zs) (h' : Rd w w.heap.size A' (5 * n) zs) (hn : n ≤ 2000000) :
    Calls Try.prog 19 #[.slice A n c, .slice A' n c'] w fun e w' => e = .returned (.bool true) ∧ Below w.heap.size w w' := by
  have H := Lib.hid h
  have H' := Lib.hid h'
  clear h h'
  go_enter Try.func19, Try.ntmps19
  go_wp2
  go_loopw [5] (fun i wr => ∃ k : Nat, k ≤ n ∧ i = .int .i64 k ∧ Hid (KB w wr)) (fun i _ => n - (intOf i).toNat)
  case atStart => exact ⟨0, Nat.zero_le _, rfl, Below.refl _ _⟩
  case round =>
    obtain ⟨k, hk, rfl, hS⟩ := hrel
    by_cases hlt : k < n
    · obtain ⟨b, off, rfl, hb, hc⟩ := H.out.cell (by omega)
      obtain ⟨b', off', rfl, hb', hc'⟩ := H'.out.cell (by omega)
      have hcell : ∀ (m : Kept (KB w)) j, j < 5 * n → m.val.cell? ⟨b, off + j, none⟩ = some (.int .i64 (zs.getD j 0)) := fun m j hj => by rw [Below.cell (show Below w.heap.size w m.val from m.ok) (p := ⟨b, off + j, none⟩) hb]; exact hc j hj
      have hcell' : ∀ (m : Kept (KB w)) j, j < 5 * n → m.val.cell? ⟨b', off' + j, none⟩ = some (.int .i64 (zs.getD j 0)) := fun m j hj => by rw [Below.cell (show Below w.heap.size w m.val from m.ok) (p := ⟨b', off' + j, none⟩) hb']; exact hc' j hj
      have hat := fun m => at5 (hcell m) hlt
      have hat' := fun m => at5 (hcell' m) hlt
      clear hcell hcell' hc hc'
      obtain ⟨x0, h0⟩ : ∃ x, Hid (zs.getD (5 * k) 0 = x) := ⟨_, rfl⟩
      obtain ⟨x1, h1⟩ : ∃ x, Hid (zs.getD (5 * k + 1) 0 = x) := ⟨_, rfl⟩
      obtain ⟨x2, h2⟩ : ∃ x, Hid (zs.getD (5 * k + 2) 0 = x) := ⟨_, rfl⟩
      obtain ⟨x3, h3⟩ : ∃ x, Hid (zs.getD (5 * k + 3) 0 = x) := ⟨_, rfl⟩
      obtain ⟨x4, h4⟩ : ∃ x, Hid (zs.getD (5 * k + 4) 0 = x) := ⟨_, rfl⟩
      have hk0 : (0 : Int) ≤ (k : Int) := by omega
      have hk1 : (k : Int) < (n : Int) := by omega
      have c0 : ∀ m : Kept (KB w), m.val.cell? ⟨b, off + k * 5, none⟩ = some (.int .i64 x0) := fun m => by rw [← h0.out]; exact (hat m).1
      have d0 : ∀ m : Kept (KB w), m.val.cell? ⟨b', off' + k * 5, none⟩ = some (.int .i64 x0) := fun m => by rw [← h0.out]; exact (hat' m).1
      have c1 : ∀ m : Kept (KB w), m.val.cell? ⟨b, off + k * 5 + 1, none⟩ = some (.int .i64 x1) := fun m => by rw [← h1.out]; exact (hat m).2.1
      have d1 : ∀ m : Kept (KB w), m.val.cell? ⟨b', off' + k * 5 + 1, none⟩ = some (.int .i64 x1) := fun m => by rw [← h1.out]; exact (hat' m).2.1
      have c2 : ∀ m : Kept (KB w), m.val.cell? ⟨b, off + k * 5 + 2, none⟩ = some (.int .i64 x2) := fun m => by rw [← h2.out]; exact (hat m).2.2.1
      have d2 : ∀ m : Kept (KB w), m.val.cell? ⟨b', off' + k * 5 + 2, none⟩ = some (.int .i64 x2) := fun m => by rw [← h2.out]; exact (hat' m).2.2.1
      have c3 : ∀ m : Kept (KB w), m.val.cell? ⟨b, off + k * 5 + 3, none⟩ = some (.int .i64 x3) := fun m => by rw [← h3.out]; exact (hat m).2.2.2.1
      have d3 : ∀ m : Kept (KB w), m.val.cell? ⟨b', off' + k * 5 + 3, none⟩ = some (.int .i64 x3) := fun m => by rw [← h3.out]; exact (hat' m).2.2.2.1
      have c4 : ∀ m : Kept (KB w), m.val.cell? ⟨b, off + k * 5 + 4, none⟩ = some (.int .i64 x4) := fun m => by rw [← h4.out]; exact (hat m).2.2.2.2
      have d4 : ∀ m : Kept (KB w), m.val.cell? ⟨b', off' + k * 5 + 4, none⟩ = some (.int .i64 x4) := fun m => by rw [← h4.out]; exact (hat' m).2.2.2.2
      clear hat hat'
      have HK := Lib.hid (fun (m : Kept (KB w)) (W : World) (hb : Below m.val.heap.size m.val W) => show KB w W from (show Below w.heap.size w m.val from m.ok).trans (hb.mono (show Below w.heap.size w m.val from m.ok).size))
      have HS0 : Hid (KB w wr.drew) := Below.drew hS.out
      go_wp2
      refine region_keep (S := KB w) (by kernel_rfl) (by kernel_rfl) HS0.out fun hne => ?_
      repeat (go_big_quiet_step ((go_at_call 41; with_reducible exact keep_call (eqFlex_any x0 x1 x2 x3 x4 _) (HK.out _))))
      refine wpQuiet_nil ?_
      intro w9 hw'
      obtain ⟨m9, hw''⟩ := hw'
      have hS9 := m9.ok
      rw [← hw''] at hS9
      clear hw'' c0 d0 c1 d1 c2 d2 c3 d3 c4 d4 HK
      have hS9 := Lib.hid hS9
      go_wp2
      go_roundw
      case rel => exact ⟨k + 1, by omega, by go_num, hS9.out⟩
      case measure => simp [intOf]; omega
    · go_wp2
      go_ret
      exact ⟨rfl, hS.out⟩
theorem szFlexS_any (A : Option Addr) (n c : Nat) (w : World) (hn : (n : Int) ≤ 1048576) :
    Calls Try.prog 17 #[.slice A n c, .int .i64 1048576] w fun e w' => e = .returned (.int .i64 (1048576 - (n : Int))) ∧ w = w' := by
  go_enter Try.func17, Try.ntmps17
  go_wp2
  go_ret
  exact ⟨rfl, rfl⟩
theorem szFlexS_big (A : Option Addr) (n c : Nat) (w : World) (hn : (1048576 : Int) < n) (hm : (n : Int) ≤ 9223372036854775807) :
    Calls Try.prog 17 #[.slice A n c, .int .i64 1048576] w fun e w' => e = .returned (.int .i64 (-1)) ∧ w = w' := by
  go_enter Try.func17, Try.ntmps17
  go_wp2
  go_ret
  exact ⟨rfl, rfl⟩
set_option maxHeartbeats 4000000 in
theorem markFlexS_any (A : Option Addr) (n c : Nat) (zs : List Int) (k0 : Int) (lo hi : Nat) (w : World) (h : Wr w lo A (5 * n) zs) (hn : n ≤ 2000000) (h0 : 0 ≤ k0) (h1 : k0 ≤ 100000000) (hhi : ∀ b off, A = some ⟨b, off, none⟩ → 0 < n → b < hi) :
    Calls Try.prog 26 #[.slice A n c, .int .i64 k0] w fun e w' => ∃ row, e = .returned (.int .i64 (k0 + 5 * n)) ∧ Wr w' lo A (5 * n) (mk (5 * n) fun i => k0 + i) ∧ (∀ g, row = some g → lo ≤ g ∧ g < hi) ∧ w.grownBy w' row := by
  obtain ⟨row, hrow1, hrow2⟩ : ∃ row : Option Nat, (∀ g, row = some g → lo ≤ g ∧ g < hi) ∧ (∀ b off, A = some ⟨b, off, none⟩ → 0 < n → row = some b) := by
    rcases Nat.eq_zero_or_pos n with h2 | h2
    · exact ⟨none, fun g e => (by cases e), fun _ _ _ h3 => absurd h3 (by omega)⟩
    · obtain ⟨b, off, e, hl, _⟩ := h.2 (by omega)
      refine ⟨some b, fun g e2 => ?_, fun b' off' e2 _ => ?_⟩
      · injection e2 with e2
        subst e2
        exact ⟨hl, hhi b off e h2⟩
      · rw [e] at e2
        injection e2 with e2
        injection e2 with e2
        rw [e2]
  have HR := Lib.hid hrow1
  have HR2 := Lib.hid hrow2
  have H := Lib.hid h
  clear h hhi hrow1 hrow2
  go_enter Try.func26, Try.ntmps26
  go_wp2
  go_loopw [1, 5] (fun s i wr => ∃ k : Nat, k ≤ n ∧ i = .int .i64 k ∧ s = .int .i64 (k0 + 5 * k) ∧ Hid (Wr wr lo A (5 * n) (mk (5 * n) fun i => if i < 5 * k then k0 + i else zs.getD i 0) ∧ w.grownBy wr row)) (fun _ i _ => n - (intOf i).toNat)
  case atStart =>
    refine ⟨0, Nat.zero_le _, rfl, by simp, ?_, World.grownBy.refl w _⟩
    have h2 := eq_mk zs
    rw [H.out.1] at h2
    rw [mk_congr (5 * n) (fun i => if i < 5 * 0 then k0 + (i : Int) else zs.getD i 0) (fun i => zs.getD i 0) (fun i _ => by simp), ← h2]
    exact H.out
  case round =>
    obtain ⟨k, hk, rfl, rfl, hS⟩ := hrel
    by_cases hlt : k < n
    · obtain ⟨b, off, rfl, hl, hb, _⟩ := hS.out.1.2 (by omega)
      obtain ⟨_, _, ⟨d0, f0⟩, ⟨d1, f1⟩, ⟨d2, f2⟩, ⟨d3, f3⟩, ⟨d4, f4⟩⟩ := hS.out.1.at_5 hlt
      obtain ⟨u0, hu0⟩ : ∃ u, Hid ((mk (5 * n) fun i => if i < 5 * k then k0 + (i : Int) else zs.getD i 0).getD (5 * k) 0 = u) := ⟨_, rfl⟩
      rw [hu0.out] at d0
      clear hu0
      obtain ⟨u1, hu1⟩ : ∃ u, Hid ((mk (5 * n) fun i => if i < 5 * k then k0 + (i : Int) else zs.getD i 0).getD (5 * k + 1) 0 = u) := ⟨_, rfl⟩
      rw [hu1.out] at d1
      clear hu1
      obtain ⟨u2, hu2⟩ : ∃ u, Hid ((mk (5 * n) fun i => if i < 5 * k then k0 + (i : Int) else zs.getD i 0).getD (5 * k + 2) 0 = u) := ⟨_, rfl⟩
      rw [hu2.out] at d2
      clear hu2
      obtain ⟨u3, hu3⟩ : ∃ u, Hid ((mk (5 * n) fun i => if i < 5 * k then k0 + (i : Int) else zs.getD i 0).getD (5 * k + 3) 0 = u) := ⟨_, rfl⟩
      rw [hu3.out] at d3
      clear hu3
      obtain ⟨u4, hu4⟩ : ∃ u, Hid ((mk (5 * n) fun i => if i < 5 * k then k0 + (i : Int) else zs.getD i 0).getD (5 * k + 4) 0 = u) := ⟨_, rfl⟩
      rw [hu4.out] at d4
      clear hu4
      go_wp2
      go_roundw
      case rel =>
        have hg := hS.out.2
        rw [HR2.out b off rfl (by omega)] at hg
        have hset := hS.out.1.set5 hlt (k0 + 5 * (k : Int)) (k0 + 5 * (k : Int) + 1) (k0 + 5 * (k : Int) + 1 + 1) (k0 + 5 * (k : Int) + 1 + 1 + 1) (k0 + 5 * (k : Int) + 1 + 1 + 1 + 1)
        refine ⟨k + 1, by omega, by go_num, vint (by omega), ?_, ?_⟩
        · rw [← mk_congr (5 * n) _ _ (fun i _ => pick5 (k := k) (f := fun i => if i < 5 * k then k0 + (i : Int) else zs.getD i 0) (g := fun i => k0 + (i : Int)) (z := fun i => zs.getD i 0) (x0 := k0 + 5 * (k : Int)) (x1 := k0 + 5 * (k : Int) + 1) (x2 := k0 + 5 * (k : Int) + 1 + 1) (x3 := k0 + 5 * (k : Int) + 1 + 1 + 1) (x4 := k0 + 5 * (k : Int) + 1 + 1 + 1 + 1) (by omega) (by omega) (by omega) (by omega) (by omega) (fun i hi => if_pos hi) (fun i hi => if_neg (by omega)) i)]
          simp only [Int.add_assoc, Int.reduceAdd] at hset ⊢
          exact hset
        · rw [HR2.out b off rfl (by omega)]
          exact gb_set (gb_set (gb_set (gb_set (gb_set (hg) (.inl (by rfl)) _) (.inl (by rfl)) _) (.inl (by rfl)) _) (.inl (by rfl)) _) (.inl (by rfl)) _
      case measure => simp [intOf]; omega
    · obtain rfl : k = n := by omega
      go_wp2
      go_ret
      refine ⟨row, rfl, ?_, HR.out, hS.out.2⟩
      have h1 := hS.out.1
      rw [mk_congr (5 * k) (fun i => if i < 5 * k then k0 + (i : Int) else zs.getD i 0) (fun i => k0 + (i : Int)) (fun i hi => by simp [hi])] at h1
      exact h1
end Go.Proofs.Ytpemgcpnabaojaa
