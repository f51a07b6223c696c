/- Slices of structs of 4 integers (Rect): copies, comparisons, marks. A slice of n of them reads as a list of 4 n integers. -/
import Derived.Test.YtjaecgobgpfbdaaSA
import Derived.Test.YtjaecgobgpfbdaaK
namespace Go.Proofs.Ytjaecgobgpfbdaa
open Go.RowKit

theorem mul_lt4 {k n j : Nat} (h : k < n) (hj : j < 4) : 4 * k + j < 4 * n := by omega
theorem at4 {w : World} {b off n : Nat} {zs : List Int} (hc : ∀ i, i < 4 * n → w.cell? ⟨b, off + i, none⟩ = some (.int .i64 (zs.getD i 0))) {k : Nat} (h : k < n) :
    w.cell? ⟨b, off + k * 4, none⟩ = some (.int .i64 (zs.getD (4 * k) 0)) ∧ w.cell? ⟨b, off + k * 4 + 1, none⟩ = some (.int .i64 (zs.getD (4 * k + 1) 0)) ∧ w.cell? ⟨b, off + k * 4 + 2, none⟩ = some (.int .i64 (zs.getD (4 * k + 2) 0)) ∧ w.cell? ⟨b, off + k * 4 + 3, none⟩ = some (.int .i64 (zs.getD (4 * k + 3) 0)) := by
  refine ⟨?_, ?_, ?_, ?_⟩
  · have e := hc (4 * k) (by omega)
    rw [show off + (4 * k) = off + k * 4 by omega] at e
    exact e
  · have e := hc (4 * k + 1) (by omega)
    rw [show off + (4 * k + 1) = off + k * 4 + 1 by omega] at e
    exact e
  · have e := hc (4 * k + 2) (by omega)
    rw [show off + (4 * k + 2) = off + k * 4 + 2 by omega] at e
    exact e
  · have e := hc (4 * k + 3) (by omega)
    rw [show off + (4 * k + 3) = off + k * 4 + 3 by omega] at e
    exact e
theorem Bk.at4 {w : World} {g n : Nat} {zs : List Int} (h : Bk w g (4 * n) zs) {k : Nat} (hk : k < n) :
    (w.cell? ⟨g, k * 4, none⟩ = some (.int .i64 (zs.getD (4 * k) 0)) ∧ w.frozen? ⟨g, k * 4, none⟩ = false) ∧ (w.cell? ⟨g, k * 4 + 1, none⟩ = some (.int .i64 (zs.getD (4 * k + 1) 0)) ∧ w.frozen? ⟨g, k * 4 + 1, none⟩ = false) ∧ (w.cell? ⟨g, k * 4 + 2, none⟩ = some (.int .i64 (zs.getD (4 * k + 2) 0)) ∧ w.frozen? ⟨g, k * 4 + 2, none⟩ = false) ∧ (w.cell? ⟨g, k * 4 + 3, none⟩ = some (.int .i64 (zs.getD (4 * k + 3) 0)) ∧ w.frozen? ⟨g, k * 4 + 3, none⟩ = false) := by
  refine ⟨?_, ?_, ?_, ?_⟩
  · have e := h.2.2 (4 * k) (by omega)
    rw [show 4 * k = k * 4 by omega] at e
    rw [show 4 * k = k * 4 by omega]
    exact e
  · have e := h.2.2 (4 * k + 1) (by omega)
    rw [show 4 * k + 1 = k * 4 + 1 by omega] at e
    rw [show 4 * k + 1 = k * 4 + 1 by omega]
    exact e
  · have e := h.2.2 (4 * k + 2) (by omega)
    rw [show 4 * k + 2 = k * 4 + 2 by omega] at e
    rw [show 4 * k + 2 = k * 4 + 2 by omega]
    exact e
  · have e := h.2.2 (4 * k + 3) (by omega)
    rw [show 4 * k + 3 = k * 4 + 3 by omega] at e
    rw [show 4 * k + 3 = k * 4 + 3 by omega]
    exact e
theorem Bk.set4 {w : World} {g n : Nat} {f : Nat → Int} (h : Bk w g (4 * n) (mk (4 * n) f)) {k : Nat} (hk : k < n) (x0 x1 x2 x3 : Int) :
    Bk ((((w.setCell ⟨g, k * 4, none⟩ (.int .i64 x0)).setCell ⟨g, k * 4 + 1, none⟩ (.int .i64 x1)).setCell ⟨g, k * 4 + 2, none⟩ (.int .i64 x2)).setCell ⟨g, k * 4 + 3, none⟩ (.int .i64 x3)) g (4 * n) (mk (4 * n) fun i => if i = k * 4 + 3 then x3 else if i = k * 4 + 2 then x2 else if i = k * 4 + 1 then x1 else if i = k * 4 then x0 else f i) := by
  exact ((((h.setMk (k := k * 4) (by omega) x0).setMk (k := k * 4 + 1) (by omega) x1).setMk (k := k * 4 + 2) (by omega) x2).setMk (k := k * 4 + 3) (by omega) x3)
theorem pick4 {k : Nat} {f g z : Nat → Int} {x0 x1 x2 x3 : Int} (h0 : g (4 * k) = x0) (h1 : g (4 * k + 1) = x1) (h2 : g (4 * k + 2) = x2) (h3 : g (4 * k + 3) = x3) (hf : ∀ i, i < 4 * k → f i = g i) (hf2 : ∀ i, 4 * k ≤ i → f i = z i) (i : Nat) :
    (if i = k * 4 + 3 then x3 else if i = k * 4 + 2 then x2 else if i = k * 4 + 1 then x1 else if i = k * 4 then x0 else f i) = if i < 4 * (k + 1) then g i else z i := by
  by_cases e3 : i = k * 4 + 3
  · rw [if_pos e3, if_pos (by omega), e3, show k * 4 + 3 = 4 * k + 3 by omega, h3]
  rw [if_neg e3]
  by_cases e2 : i = k * 4 + 2
  · rw [if_pos e2, if_pos (by omega), e2, show k * 4 + 2 = 4 * k + 2 by omega, h2]
  rw [if_neg e2]
  by_cases e1 : i = k * 4 + 1
  · rw [if_pos e1, if_pos (by omega), e1, show k * 4 + 1 = 4 * k + 1 by omega, h1]
  rw [if_neg e1]
  by_cases e0 : i = k * 4
  · rw [if_pos e0, if_pos (by omega), e0, show k * 4 = 4 * k by omega, h0]
  rw [if_neg e0]
  by_cases h : i < 4 * k
  · rw [if_pos (by omega)]; exact hf i h
  · rw [if_neg (by omega)]; exact hf2 i (by omega)
theorem Wr.at_4 {w : World} {lo b off n : Nat} {zs : List Int} (h : Wr w lo (some ⟨b, off, none⟩) (4 * n) zs) {k : Nat} (hk : k < n) :
    lo ≤ b ∧ b < w.heap.size ∧ (w.cell? ⟨b, off + k * 4, none⟩ = some (.int .i64 (zs.getD (4 * k) 0)) ∧ w.frozen? ⟨b, off + k * 4, none⟩ = false) ∧ (w.cell? ⟨b, off + k * 4 + 1, none⟩ = some (.int .i64 (zs.getD (4 * k + 1) 0)) ∧ w.frozen? ⟨b, off + k * 4 + 1, none⟩ = false) ∧ (w.cell? ⟨b, off + k * 4 + 2, none⟩ = some (.int .i64 (zs.getD (4 * k + 2) 0)) ∧ w.frozen? ⟨b, off + k * 4 + 2, none⟩ = false) ∧ (w.cell? ⟨b, off + k * 4 + 3, none⟩ = some (.int .i64 (zs.getD (4 * k + 3) 0)) ∧ w.frozen? ⟨b, off + k * 4 + 3, none⟩ = false) := by
  obtain ⟨b', off', e, h1, h2, h3⟩ := h.2 (by omega)
  injection e with e; injection e with e1 e2
  subst e1 e2
  refine ⟨h1, h2, ?_, ?_, ?_, ?_⟩
  · have e := h3 (4 * k) (by omega)
    rw [show off + (4 * k) = off + k * 4 by omega] at e
    exact e
  · have e := h3 (4 * k + 1) (by omega)
    rw [show off + (4 * k + 1) = off + k * 4 + 1 by omega] at e
    exact e
  · have e := h3 (4 * k + 2) (by omega)
    rw [show off + (4 * k + 2) = off + k * 4 + 2 by omega] at e
    exact e
  · have e := h3 (4 * k + 3) (by omega)
    rw [show off + (4 * k + 3) = off + k * 4 + 3 by omega] at e
    exact e
theorem Wr.set4 {w : World} {lo b off n : Nat} {f : Nat → Int} (h : Wr w lo (some ⟨b, off, none⟩) (4 * n) (mk (4 * n) f)) {k : Nat} (hk : k < n) (x0 x1 x2 x3 : Int) :
    Wr ((((w.setCell ⟨b, off + k * 4, none⟩ (.int .i64 x0)).setCell ⟨b, off + k * 4 + 1, none⟩ (.int .i64 x1)).setCell ⟨b, off + k * 4 + 2, none⟩ (.int .i64 x2)).setCell ⟨b, off + k * 4 + 3, none⟩ (.int .i64 x3)) lo (some ⟨b, off, none⟩) (4 * n) (mk (4 * n) fun i => if i = k * 4 + 3 then x3 else if i = k * 4 + 2 then x2 else if i = k * 4 + 1 then x1 else if i = k * 4 then x0 else f i) := by
  have e := ((((h.set (k := k * 4) (by omega) x0).set (k := k * 4 + 1) (by omega) x1).set (k := k * 4 + 2) (by omega) x2).set (k := k * 4 + 3) (by omega) x3)
  simp only [← Nat.add_assoc] at e
  rw [mk_set _ _ _ _ (by omega)] at e
  rw [mk_set _ _ _ _ (by omega)] at e
  rw [mk_set _ _ _ _ (by omega)] at e
  rw [mk_set _ _ _ _ (by omega)] at e
  exact e
set_option maxHeartbeats 4000000 in
set_option maxRecDepth 100000 in
theorem markRectS_any (A : Option Addr) (n c : Nat) (zs : List Int) (k0 : Int) (lo hi : Nat) (w : World) (h : Wr w lo A (4 * n) zs) (hn : n ≤ 2000000) (h0 : 0 ≤ k0) (h1 : k0 ≤ 100000000) (hhi : ∀ b off, A = some ⟨b, off, none⟩ → 0 < n → b < hi) :
    Calls Try.prog 29 #[.slice A n c, .int .i64 k0] w fun e w' => ∃ row, e = .returned (.int .i64 (k0 + 4 * n)) ∧ Wr w' lo A (4 * n) (mk (4 * n) fun i => k0 + i) ∧ (∀ g, row = some g → lo ≤ g ∧ g < hi) ∧ w.grownBy w' row := by
  obtain ⟨row, hrow1, hrow2⟩ : ∃ row : Option Nat, (∀ g, row = some g → lo ≤ g ∧ g < hi) ∧ (∀ b off, A = some ⟨b, off, none⟩ → 0 < n → row = some b) := by
    rcases Nat.eq_zero_or_pos n with h2 | h2
    · exact ⟨none, fun g e => (by cases e), fun _ _ _ h3 => absurd h3 (by omega)⟩
    · obtain ⟨b, off, e, hl, _⟩ := h.2 (by omega)
      refine ⟨some b, fun g e2 => ?_, fun b' off' e2 _ => ?_⟩
      · injection e2 with e2
        subst e2
        exact ⟨hl, hhi b off e h2⟩
      · rw [e] at e2
        injection e2 with e2
        injection e2 with e2
        rw [e2]
  have HR := Lib.hid hrow1
  have HR2 := Lib.hid hrow2
  have H := Lib.hid h
  clear h hhi hrow1 hrow2
  go_enter Try.func29, Try.ntmps29
  go_wp2
  go_loopw [1, 5] (fun s i wr => ∃ k : Nat, k ≤ n ∧ i = .int .i64 k ∧ s = .int .i64 (k0 + 4 * k) ∧ Hid (Wr wr lo A (4 * n) (mk (4 * n) fun i => if i < 4 * k then k0 + i else zs.getD i 0) ∧ w.grownBy wr row)) (fun _ i _ => n - (intOf i).toNat)
  case atStart =>
    refine ⟨0, Nat.zero_le _, rfl, by simp, ?_, World.grownBy.refl w _⟩
    have h2 := eq_mk zs
    rw [H.out.1] at h2
    rw [mk_congr (4 * n) (fun i => if i < 4 * 0 then k0 + (i : Int) else zs.getD i 0) (fun i => zs.getD i 0) (fun i _ => by simp), ← h2]
    exact H.out
  case round =>
    obtain ⟨k, hk, rfl, rfl, hS⟩ := hrel
    by_cases hlt : k < n
    · obtain ⟨b, off, rfl, hl, hb, _⟩ := hS.out.1.2 (by omega)
      obtain ⟨_, _, ⟨d0, f0⟩, ⟨d1, f1⟩, ⟨d2, f2⟩, ⟨d3, f3⟩⟩ := hS.out.1.at_4 hlt
      obtain ⟨u0, hu0⟩ : ∃ u, Hid ((mk (4 * n) fun i => if i < 4 * k then k0 + (i : Int) else zs.getD i 0).getD (4 * k) 0 = u) := ⟨_, rfl⟩
      rw [hu0.out] at d0
      clear hu0
      obtain ⟨u1, hu1⟩ : ∃ u, Hid ((mk (4 * n) fun i => if i < 4 * k then k0 + (i : Int) else zs.getD i 0).getD (4 * k + 1) 0 = u) := ⟨_, rfl⟩
      rw [hu1.out] at d1
      clear hu1
      obtain ⟨u2, hu2⟩ : ∃ u, Hid ((mk (4 * n) fun i => if i < 4 * k then k0 + (i : Int) else zs.getD i 0).getD (4 * k + 2) 0 = u) := ⟨_, rfl⟩
      rw [hu2.out] at d2
      clear hu2
      obtain ⟨u3, hu3⟩ : ∃ u, Hid ((mk (4 * n) fun i => if i < 4 * k then k0 + (i : Int) else zs.getD i 0).getD (4 * k + 3) 0 = u) := ⟨_, rfl⟩
      rw [hu3.out] at d3
      clear hu3
      go_wp2
      go_roundw
      case rel =>
        have hg := hS.out.2
        rw [HR2.out b off rfl (by omega)] at hg
        have hset := hS.out.1.set4 hlt (k0 + 4 * (k : Int)) (k0 + 4 * (k : Int) + 1) (k0 + 4 * (k : Int) + 1 + 1) (k0 + 4 * (k : Int) + 1 + 1 + 1)
        refine ⟨k + 1, by omega, by go_num, vint (by omega), ?_, ?_⟩
        · rw [← mk_congr (4 * n) _ _ (fun i _ => pick4 (k := k) (f := fun i => if i < 4 * k then k0 + (i : Int) else zs.getD i 0) (g := fun i => k0 + (i : Int)) (z := fun i => zs.getD i 0) (x0 := k0 + 4 * (k : Int)) (x1 := k0 + 4 * (k : Int) + 1) (x2 := k0 + 4 * (k : Int) + 1 + 1) (x3 := k0 + 4 * (k : Int) + 1 + 1 + 1) (by omega) (by omega) (by omega) (by omega) (fun i hi => if_pos hi) (fun i hi => if_neg (by omega)) i)]
          simp only [Int.add_assoc, Int.reduceAdd] at hset ⊢
          exact hset
        · rw [HR2.out b off rfl (by omega)]
          exact gb_set (gb_set (gb_set (gb_set (hg) (.inl (by rfl)) _) (.inl (by rfl)) _) (.inl (by rfl)) _) (.inl (by rfl)) _
      case measure => simp [intOf]; omega
    · obtain rfl : k = n := by omega
      go_wp2
      go_ret
      refine ⟨row, rfl, ?_, HR.out, hS.out.2⟩
      have h1 := hS.out.1
      rw [mk_congr (4 * k) (fun i => if i < 4 * k then k0 + (i : Int) else zs.getD i 0) (fun i => k0 + (i : Int)) (fun i hi => by simp [hi])] at h1
      exact h1
set_option maxHeartbeats 4000000 in
set_option maxRecDepth 100000 in
theorem heldRectS_any (A : Option Addr) (n c : Nat) (k0 : Int) (B : Nat) (w : World) (h : Rd w B A (4 * n) (mk (4 * n) fun i => k0 + i)) (hn : n ≤ 2000000) (h0 : 0 ≤ k0) (h1 : k0 ≤ 100000000) :
    Calls Try.prog 30 #[.slice A n c, .int .i64 k0] w fun e w' => e = .returned (.int .i64 (k0 + 4 * n)) ∧ w = w' := by
  have H := Lib.hid h
  clear h
  go_enter Try.func30, Try.ntmps30
  go_wp2
  go_loop [1, 5] (fun s i => ∃ k : Nat, k ≤ n ∧ i = .int .i64 k ∧ s = .int .i64 (k0 + 4 * k)) (fun _ i => n - (intOf i).toNat)
  case atStart => exact ⟨0, Nat.zero_le _, rfl, by simp⟩
  case round =>
    obtain ⟨k, hk, rfl, rfl⟩ := hrel
    by_cases hlt : k < n
    · obtain ⟨b, off, rfl, hb, hc⟩ := H.out.cell (by omega)
      obtain ⟨c0, c1, c2, c3⟩ := at4 hc hlt
      rw [mk_getD _ _ _ (by omega)] at c0
      rw [show k0 + ((4 * k : Nat) : Int) = k0 + 4 * (k : Int) by omega] at c0
      rw [mk_getD _ _ _ (by omega)] at c1
      rw [show k0 + ((4 * k + 1 : Nat) : Int) = k0 + 4 * (k : Int) + 1 by omega] at c1
      rw [mk_getD _ _ _ (by omega)] at c2
      rw [show k0 + ((4 * k + 2 : Nat) : Int) = k0 + 4 * (k : Int) + 1 + 1 by omega] at c2
      rw [mk_getD _ _ _ (by omega)] at c3
      rw [show k0 + ((4 * k + 3 : Nat) : Int) = k0 + 4 * (k : Int) + 1 + 1 + 1 by omega] at c3
      clear hc
      go_wp2
      go_round
      case rel => exact ⟨k + 1, by omega, by go_num, vint (by omega)⟩
      case measure => simp [intOf]; omega
    · obtain rfl : k = n := by omega
      go_wp2
      go_ret
      exact ⟨rfl, rfl⟩
end Go.Proofs.Ytjaecgobgpfbdaa
