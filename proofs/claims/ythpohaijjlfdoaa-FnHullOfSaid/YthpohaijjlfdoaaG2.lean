/- The generator of rectangles: someRect, anyRect and the drawn arguments: all numbers lie in bounds; nothing that was there has turned. -/
import Derived.Test.YthpohaijjlfdoaaG
import Derived.Deep.RegionHeld3
import Derived.Deep.RegionWith
namespace Go.Proofs.Ythpohaijjlfdoaa
open Go.RowKit

theorem bcell2 {W w1 : World} (hb : Below W.heap.size W w1) : (∀ b o, b < W.heap.size → w1.cell? ⟨b, o, none⟩ = W.cell? ⟨b, o, none⟩) ∧ (∀ b o, b < W.heap.size → w1.frozen? ⟨b, o, none⟩ = W.frozen? ⟨b, o, none⟩) :=
  ⟨fun b o h => hb.cell (p := ⟨b, o, none⟩) h, fun b o h => hb.frozen (p := ⟨b, o, none⟩) h⟩
theorem keep_cl (w : World) (x : Obj) (b o : Nat) (h : b < w.heap.size) : (w.alloc x).cell? ⟨b, o, none⟩ = w.cell? ⟨b, o, none⟩ := World.cell?_of_block (Below.heap_alloc w x b h)
theorem keep_fz (w : World) (x : Obj) (b o : Nat) (h : b < w.heap.size) : (w.alloc x).frozen? ⟨b, o, none⟩ = w.frozen? ⟨b, o, none⟩ := World.frozen?_of_block (Below.heap_alloc w x b h)
theorem Rdr.set_ne {w : World} {g : Nat} {A : Option Addr} {n c K : Nat} (h : Rdr w g A n c K) {p : Addr} (h1 : ¬ g = p.block) (h2 : ∀ b off, A = some ⟨b, off, none⟩ → 0 < n → ¬ b = p.block) (u : Value) : Rdr (w.setCell p u) g A n c K := by
  obtain ⟨a1, a2, a3, ⟨q, hq, a4⟩, a5, a6⟩ := h
  have hs : (w.setCell p u).heap.size = w.heap.size := by simp [World.setCell]
  have hk := Below.heap_setCell w p u g h1
  refine ⟨by rw [hs]; exact a1, a2, by rw [World.cell?_of_block hk]; exact a3, ⟨q, hq, by rw [World.cell?_of_block hk]; exact a4⟩, by rw [World.frozen?_of_block hk]; exact a5, fun hn => ?_⟩
  obtain ⟨b, off, e, hb, hne, hu⟩ := a6 hn
  refine ⟨b, off, e, by rw [hs]; exact hb, hne, fun i hi => ?_⟩
  obtain ⟨v, hv, hc⟩ := hu i hi
  exact ⟨v, hv, by rw [World.cell?_of_block (Below.heap_setCell w p u b (h2 b off e hn))]; exact hc⟩
def NewRdrOf (A : Option Addr) (n : Nat) (w : World) (e : Ending) (w' : World) : Prop := ∃ (n' c' : Nat), n' ≤ n ∧ e = .returned (.pointer (some ⟨w.heap.size, 0, none⟩)) ∧ Rdr w' w.heap.size A n' c' 0 ∧ Below w.heap.size w w'
set_option maxHeartbeats 1000000 in
theorem newReader_of (A : Option Addr) (n c : Nat) (zs : List Int) (w : World) (h : IsRow .u8 w A n c zs) :
    Calls Try.prog 44 #[.slice A n c] w (NewRdrOf A n w) := by
  obtain ⟨hnc, hcm, hby⟩ := bytes_of_row h
  clear h
  unfold maxLen at hcm
  by_cases hn : n ≤ 2000
  · have HP : Hid (∀ o : Obj, o = .cells #[.slice A n c, .int .i64 0] 62 → NewRdrOf A n w (.returned (.pointer (some ⟨w.heap.size, 0, none⟩))) (w.alloc o)) := by
      rintro o rfl
      refine ⟨n, c, Nat.le_refl _, rfl, ⟨by simp, hn, by simp [go_sem], ⟨0, by omega, by simp [go_sem]⟩, by simp [go_sem], fun h0 => ?_⟩, (Below.refl _ _).alloc (Nat.le_refl _) _⟩
      obtain ⟨b, off, e, hb, hu⟩ := hby h0
      refine ⟨b, off, e, by simp; omega, by omega, fun i hi => ?_⟩
      obtain ⟨u, hu1, hu2⟩ := hu i hi
      exact ⟨u, hu1, (World.cell?_alloc_lt w _ ⟨b, off + i, none⟩ hb).trans hu2⟩
    clear hby
    go_enter Try.func44, Try.ntmps44
    go_wp2
    go_ret
    exact HP.out _ rfl
  · obtain ⟨b, off, rfl, hb, hu⟩ := hby (by omega)
    clear hby
    have HP : Hid (∀ o : Obj, o = .cells #[.slice (some ⟨b, off, none⟩) 2000 c, .int .i64 0] 62 → NewRdrOf (some ⟨b, off, none⟩) n w (.returned (.pointer (some ⟨w.heap.size, 0, none⟩))) (w.alloc o)) := by
      rintro o rfl
      refine ⟨2000, c, by omega, rfl, ⟨by simp, Nat.le_refl _, by simp [go_sem], ⟨0, by omega, by simp [go_sem]⟩, by simp [go_sem], fun h0 => ?_⟩, (Below.refl _ _).alloc (Nat.le_refl _) _⟩
      refine ⟨b, off, rfl, by simp; omega, by omega, fun i hi => ?_⟩
      obtain ⟨u, hu1, hu2⟩ := hu i (by omega)
      exact ⟨u, hu1, (World.cell?_alloc_lt w _ ⟨b, off + i, none⟩ hb).trans hu2⟩
    have hn' : 2000 < n := by omega
    have hc2 : (2000 : Int) ≤ (c : Int) := by omega
    clear hn hu
    go_enter Try.func44, Try.ntmps44
    go_wp2
    go_ret
    exact HP.out _ rfl
def SomeRects (lo hi : Int) (S : World → Prop) (e : Ending) (w' : World) : Prop :=
  ∃ x y a b p q c d : Int, e = .returned (.tuple #[.agg #[.int .i64 x, .int .i64 y, .int .i64 a, .int .i64 b], .agg #[.int .i64 p, .int .i64 q, .int .i64 c, .int .i64 d]]) ∧ ((lo ≤ x ∧ x ≤ hi) ∧ (lo ≤ y ∧ y ≤ hi) ∧ (lo ≤ a ∧ a ≤ hi) ∧ (lo ≤ b ∧ b ≤ hi)) ∧ ((lo ≤ p ∧ p ≤ hi) ∧ (lo ≤ q ∧ q ≤ hi) ∧ (lo ≤ c ∧ c ≤ hi) ∧ (lo ≤ d ∧ d ≤ hi)) ∧ S w'
set_option maxHeartbeats 2000000 in
theorem DrawMeetRects_any (A : Option Addr) (n c : Nat) (zs : List Int) (w : World) (h : IsRow .u8 w A n c zs) :
    Calls Try.prog 37 #[.slice A n c] w (SomeRects (-300000) 300000 (Below w.heap.size w)) := by
  have hrow : IsRow .u8 ((w.alloc (.cells #[.int .i64 0, .int .i64 0, .int .i64 0, .int .i64 0] 26)).alloc (.cells #[.int .i64 0, .int .i64 0, .int .i64 0, .int .i64 0] 26)) A n c zs := isRow_alloc (isRow_alloc h _) _
  have HBy := Lib.hid (bytes_of_row h).2.2
  clear h
  go_enter Try.func37, Try.ntmps37
  go_wp2_with fail
  refine (newReader_of A n c zs _ hrow).mono ?_
  rintro e w1 ⟨n', c', hn', rfl, rd1, hb1⟩
  have hz1 := hb1.size
  simp only [World.size_alloc] at hz1 rd1
  have HA : Hid (∀ b off, A = some ⟨b, off, none⟩ → 0 < n' → b < w.heap.size) := by
    intro b off e hn0
    obtain ⟨b', off', e', hb', _⟩ := HBy.out (by omega)
    rw [e] at e'
    injection e' with e'
    injection e' with e1
    omega
  clear HBy
  go_wp2_with fail
  refine (anyRect_any _ A n' c' 0 _ rd1 (by omega)).mono ?_
  rintro e w2 ⟨x, y, a, b, rfl, hx, hy, ha, hb, rd2, gb2⟩
  have hz2 := gb2.size
  have HF : Hid (Below w.heap.size w w2) := bl_gb ((((Below.refl _ _).alloc (Nat.le_refl _) _).alloc (by simp) _).trans (hb1.mono (by simp only [World.size_alloc]; omega))) gb2 (by omega) (by omega)
  have GB : ((w.alloc (.cells #[.int .i64 0, .int .i64 0, .int .i64 0, .int .i64 0] 26)).alloc (.cells #[.int .i64 0, .int .i64 0, .int .i64 0, .int .i64 0] 26)).grownBy w2 (some (w.heap.size + 1 + 1)) := gb_trans (gb_below hb1 _) gb2
  have HG := Lib.hid GB
  clear GB
  go_wp2_with fail
  have hlt := rd2.lt
  generalize hw0 : w2.alloc (.cells #[.int .i64 x, .int .i64 y, .int .i64 a, .int .i64 b] 26) = w0
  have rd0 : Rdr w0 (w.heap.size + 1 + 1) A n' c' 6 := by rw [← hw0]; exact (rd2.alloc _).mono (by omega)
  have u0 : w0.cell? ⟨w.heap.size, 0, none⟩ = some (.int .i64 0) := by rw [← hw0]; refine (keep_cl _ _ _ _ (by omega)).trans (((gcell HG.out).1 (w.heap.size) 0 (by simp only [World.size_alloc]; omega) (by omega)).trans (by simp [go_sem]))
  have fu0 : w0.frozen? ⟨w.heap.size, 0, none⟩ = false := by rw [← hw0]; refine (keep_fz _ _ _ _ (by omega)).trans (((gcell HG.out).2 (w.heap.size) 0 (by simp only [World.size_alloc]; omega) (by omega)).trans (by simp [go_sem]))
  have u1 : w0.cell? ⟨w.heap.size, 1, none⟩ = some (.int .i64 0) := by rw [← hw0]; refine (keep_cl _ _ _ _ (by omega)).trans (((gcell HG.out).1 (w.heap.size) 1 (by simp only [World.size_alloc]; omega) (by omega)).trans (by simp [go_sem]))
  have fu1 : w0.frozen? ⟨w.heap.size, 1, none⟩ = false := by rw [← hw0]; refine (keep_fz _ _ _ _ (by omega)).trans (((gcell HG.out).2 (w.heap.size) 1 (by simp only [World.size_alloc]; omega) (by omega)).trans (by simp [go_sem]))
  have u2 : w0.cell? ⟨w.heap.size, 2, none⟩ = some (.int .i64 0) := by rw [← hw0]; refine (keep_cl _ _ _ _ (by omega)).trans (((gcell HG.out).1 (w.heap.size) 2 (by simp only [World.size_alloc]; omega) (by omega)).trans (by simp [go_sem]))
  have fu2 : w0.frozen? ⟨w.heap.size, 2, none⟩ = false := by rw [← hw0]; refine (keep_fz _ _ _ _ (by omega)).trans (((gcell HG.out).2 (w.heap.size) 2 (by simp only [World.size_alloc]; omega) (by omega)).trans (by simp [go_sem]))
  have u3 : w0.cell? ⟨w.heap.size, 3, none⟩ = some (.int .i64 0) := by rw [← hw0]; refine (keep_cl _ _ _ _ (by omega)).trans (((gcell HG.out).1 (w.heap.size) 3 (by simp only [World.size_alloc]; omega) (by omega)).trans (by simp [go_sem]))
  have fu3 : w0.frozen? ⟨w.heap.size, 3, none⟩ = false := by rw [← hw0]; refine (keep_fz _ _ _ _ (by omega)).trans (((gcell HG.out).2 (w.heap.size) 3 (by simp only [World.size_alloc]; omega) (by omega)).trans (by simp [go_sem]))
  have v0 : w0.cell? ⟨w.heap.size + 1, 0, none⟩ = some (.int .i64 0) := by rw [← hw0]; refine (keep_cl _ _ _ _ (by omega)).trans (((gcell HG.out).1 (w.heap.size + 1) 0 (by simp only [World.size_alloc]; omega) (by omega)).trans (by simp [go_sem]))
  have fv0 : w0.frozen? ⟨w.heap.size + 1, 0, none⟩ = false := by rw [← hw0]; refine (keep_fz _ _ _ _ (by omega)).trans (((gcell HG.out).2 (w.heap.size + 1) 0 (by simp only [World.size_alloc]; omega) (by omega)).trans (by simp [go_sem]))
  have v1 : w0.cell? ⟨w.heap.size + 1, 1, none⟩ = some (.int .i64 0) := by rw [← hw0]; refine (keep_cl _ _ _ _ (by omega)).trans (((gcell HG.out).1 (w.heap.size + 1) 1 (by simp only [World.size_alloc]; omega) (by omega)).trans (by simp [go_sem]))
  have fv1 : w0.frozen? ⟨w.heap.size + 1, 1, none⟩ = false := by rw [← hw0]; refine (keep_fz _ _ _ _ (by omega)).trans (((gcell HG.out).2 (w.heap.size + 1) 1 (by simp only [World.size_alloc]; omega) (by omega)).trans (by simp [go_sem]))
  have v2 : w0.cell? ⟨w.heap.size + 1, 2, none⟩ = some (.int .i64 0) := by rw [← hw0]; refine (keep_cl _ _ _ _ (by omega)).trans (((gcell HG.out).1 (w.heap.size + 1) 2 (by simp only [World.size_alloc]; omega) (by omega)).trans (by simp [go_sem]))
  have fv2 : w0.frozen? ⟨w.heap.size + 1, 2, none⟩ = false := by rw [← hw0]; refine (keep_fz _ _ _ _ (by omega)).trans (((gcell HG.out).2 (w.heap.size + 1) 2 (by simp only [World.size_alloc]; omega) (by omega)).trans (by simp [go_sem]))
  have v3 : w0.cell? ⟨w.heap.size + 1, 3, none⟩ = some (.int .i64 0) := by rw [← hw0]; refine (keep_cl _ _ _ _ (by omega)).trans (((gcell HG.out).1 (w.heap.size + 1) 3 (by simp only [World.size_alloc]; omega) (by omega)).trans (by simp [go_sem]))
  have fv3 : w0.frozen? ⟨w.heap.size + 1, 3, none⟩ = false := by rw [← hw0]; refine (keep_fz _ _ _ _ (by omega)).trans (((gcell HG.out).2 (w.heap.size + 1) 3 (by simp only [World.size_alloc]; omega) (by omega)).trans (by simp [go_sem]))
  have k0 : w0.cell? ⟨w2.heap.size, 0, none⟩ = some (.int .i64 x) := by rw [← hw0]; simp [go_sem]
  have k1 : w0.cell? ⟨w2.heap.size, 1, none⟩ = some (.int .i64 y) := by rw [← hw0]; simp [go_sem]
  have k2 : w0.cell? ⟨w2.heap.size, 2, none⟩ = some (.int .i64 a) := by rw [← hw0]; simp [go_sem]
  have k3 : w0.cell? ⟨w2.heap.size, 3, none⟩ = some (.int .i64 b) := by rw [← hw0]; simp [go_sem]
  have B0 : Below w.heap.size w w0 := by rw [← hw0]; exact HF.out.alloc (by omega) _
  have z0 : w2.heap.size < w0.heap.size := by rw [← hw0]; simp
  have z1 : w.heap.size < w0.heap.size := by omega
  have z2 : w.heap.size + 1 < w0.heap.size := by omega
  have n0 : ¬ w.heap.size = w.heap.size + 1 + 1 := by omega
  have n1 : ¬ w.heap.size + 1 = w.heap.size + 1 + 1 := by omega
  have n2 : ¬ w2.heap.size = w.heap.size + 1 + 1 := by omega
  have n3 : ¬ w2.heap.size = w.heap.size + 1 := by omega
  have n4 : ¬ w2.heap.size = w.heap.size := by omega
  have n5 : ¬ w.heap.size = w2.heap.size := by omega
  have n6 : ¬ w.heap.size + 1 = w2.heap.size := by omega
  clear hw0
  go_region_with (go_at_call 43; refine (anyRect_any (w.heap.size + 1 + 1) A n' c' 6 _ (by repeat (first | (with_reducible exact rd0) | (with_reducible refine Rdr.drew ?_) | ((with_reducible refine Rdr.set_ne ?_ ?_ ?_ _); rotate_left; (focus (dsimp only; omega)); (focus (intro b off e hn; have := HA.out b off e hn; dsimp only; omega))))) (by omega)).mono ?_; rintro e w3 ⟨p, q, c2, d, rfl, hp, hq, hc2, hd, rd3, gb3⟩; obtain ⟨hc3, hf3⟩ := gcell gb3; have hz3 := gb3.size; (try simp at hz3); (have zz1 : w.heap.size < w3.heap.size := (by omega)); (have zz2 : w.heap.size + 1 < w3.heap.size := (by omega)); (have zz3 : w2.heap.size < w3.heap.size := (by omega)); (try have au0 : w3.cell? ⟨w.heap.size, 0, none⟩ = some (.int .i64 0) := (hc3 _ _ (by first | assumption | (simp; omega) | (simp [World.setCell]; omega)) n0).trans (by first | exact u0 | (simp [go_sem, u0]; done))); (try have bu0 : w3.frozen? ⟨w.heap.size, 0, none⟩ = false := (hf3 _ _ (by first | assumption | (simp; omega) | (simp [World.setCell]; omega)) n0).trans (by first | exact fu0 | (simp [go_sem, fu0]; done))); (try have au1 : w3.cell? ⟨w.heap.size, 1, none⟩ = some (.int .i64 0) := (hc3 _ _ (by first | assumption | (simp; omega) | (simp [World.setCell]; omega)) n0).trans (by first | exact u1 | (simp [go_sem, u1]; done))); (try have bu1 : w3.frozen? ⟨w.heap.size, 1, none⟩ = false := (hf3 _ _ (by first | assumption | (simp; omega) | (simp [World.setCell]; omega)) n0).trans (by first | exact fu1 | (simp [go_sem, fu1]; done))); (try have au2 : w3.cell? ⟨w.heap.size, 2, none⟩ = some (.int .i64 0) := (hc3 _ _ (by first | assumption | (simp; omega) | (simp [World.setCell]; omega)) n0).trans (by first | exact u2 | (simp [go_sem, u2]; done))); (try have bu2 : w3.frozen? ⟨w.heap.size, 2, none⟩ = false := (hf3 _ _ (by first | assumption | (simp; omega) | (simp [World.setCell]; omega)) n0).trans (by first | exact fu2 | (simp [go_sem, fu2]; done))); (try have au3 : w3.cell? ⟨w.heap.size, 3, none⟩ = some (.int .i64 0) := (hc3 _ _ (by first | assumption | (simp; omega) | (simp [World.setCell]; omega)) n0).trans (by first | exact u3 | (simp [go_sem, u3]; done))); (try have bu3 : w3.frozen? ⟨w.heap.size, 3, none⟩ = false := (hf3 _ _ (by first | assumption | (simp; omega) | (simp [World.setCell]; omega)) n0).trans (by first | exact fu3 | (simp [go_sem, fu3]; done))); (try have av0 : w3.cell? ⟨w.heap.size + 1, 0, none⟩ = some (.int .i64 0) := (hc3 _ _ (by first | assumption | (simp; omega) | (simp [World.setCell]; omega)) n1).trans (by first | exact v0 | (simp [go_sem, v0]; done))); (try have bv0 : w3.frozen? ⟨w.heap.size + 1, 0, none⟩ = false := (hf3 _ _ (by first | assumption | (simp; omega) | (simp [World.setCell]; omega)) n1).trans (by first | exact fv0 | (simp [go_sem, fv0]; done))); (try have av1 : w3.cell? ⟨w.heap.size + 1, 1, none⟩ = some (.int .i64 0) := (hc3 _ _ (by first | assumption | (simp; omega) | (simp [World.setCell]; omega)) n1).trans (by first | exact v1 | (simp [go_sem, v1]; done))); (try have bv1 : w3.frozen? ⟨w.heap.size + 1, 1, none⟩ = false := (hf3 _ _ (by first | assumption | (simp; omega) | (simp [World.setCell]; omega)) n1).trans (by first | exact fv1 | (simp [go_sem, fv1]; done))); (try have av2 : w3.cell? ⟨w.heap.size + 1, 2, none⟩ = some (.int .i64 0) := (hc3 _ _ (by first | assumption | (simp; omega) | (simp [World.setCell]; omega)) n1).trans (by first | exact v2 | (simp [go_sem, v2]; done))); (try have bv2 : w3.frozen? ⟨w.heap.size + 1, 2, none⟩ = false := (hf3 _ _ (by first | assumption | (simp; omega) | (simp [World.setCell]; omega)) n1).trans (by first | exact fv2 | (simp [go_sem, fv2]; done))); (try have av3 : w3.cell? ⟨w.heap.size + 1, 3, none⟩ = some (.int .i64 0) := (hc3 _ _ (by first | assumption | (simp; omega) | (simp [World.setCell]; omega)) n1).trans (by first | exact v3 | (simp [go_sem, v3]; done))); (try have bv3 : w3.frozen? ⟨w.heap.size + 1, 3, none⟩ = false := (hf3 _ _ (by first | assumption | (simp; omega) | (simp [World.setCell]; omega)) n1).trans (by first | exact fv3 | (simp [go_sem, fv3]; done))); (try have kc0 : w3.cell? ⟨w2.heap.size, 0, none⟩ = some (.int .i64 x) := (hc3 _ _ (by first | assumption | (simp; omega) | (simp [World.setCell]; omega)) n2).trans (by first | exact k0 | (simp [go_sem, k0]; done))); (try have kc1 : w3.cell? ⟨w2.heap.size, 1, none⟩ = some (.int .i64 y) := (hc3 _ _ (by first | assumption | (simp; omega) | (simp [World.setCell]; omega)) n2).trans (by first | exact k1 | (simp [go_sem, k1]; done))); (try have kc2 : w3.cell? ⟨w2.heap.size, 2, none⟩ = some (.int .i64 a) := (hc3 _ _ (by first | assumption | (simp; omega) | (simp [World.setCell]; omega)) n2).trans (by first | exact k2 | (simp [go_sem, k2]; done))); (try have kc3 : w3.cell? ⟨w2.heap.size, 3, none⟩ = some (.int .i64 b) := (hc3 _ _ (by first | assumption | (simp; omega) | (simp [World.setCell]; omega)) n2).trans (by first | exact k3 | (simp [go_sem, k3]; done))))
  all_goals go_wp2
  · refine bodyPost_ret (v := .tuple #[.agg #[.int .i64 x, .int .i64 y, .int .i64 a, .int .i64 b], .agg #[.int .i64 p, .int .i64 q, .int .i64 c2, .int .i64 d]]) (by simp [results, Try.results37, go_sem, au0, au1, au2, au3, av0, av1, av2, av3]) rfl ⟨_, _, _, _, _, _, _, _, rfl, ⟨hx, hy, ha, hb⟩, ⟨hp, hq, hc2, hd⟩, (by repeat (first | (with_reducible exact B0) | (with_reducible refine Below.drew ?_) | ((with_reducible refine Below.setCell ?_ ?_ _); rotate_left; (focus (dsimp only; omega))) | ((with_reducible refine bl_gb ?_ gb3 ?_ ?_); rotate_left; (focus (first | omega | (simp; omega) | (simp [World.setCell]; omega))); (focus omega))))⟩
  · have d0 := hc3 w.heap.size 0 (by simp; omega) n0
    have d1 := hc3 w.heap.size 1 (by simp; omega) n0
    have d2 := hc3 w.heap.size 2 (by simp; omega) n0
    have d3 := hc3 w.heap.size 3 (by simp; omega) n0
    simp [go_sem, u0, u1, u2, u3] at d0 d1 d2 d3
    refine bodyPost_ret (v := .tuple #[.agg #[.int .i64 x, .int .i64 y, .int .i64 a, .int .i64 b], .agg #[.int .i64 p, .int .i64 q, .int .i64 c2, .int .i64 d]]) (by simp [results, Try.results37, go_sem, d0, d1, d2, d3, av0, av1, av2, av3]) rfl ⟨_, _, _, _, _, _, _, _, rfl, ⟨hx, hy, ha, hb⟩, ⟨hp, hq, hc2, hd⟩, (by repeat (first | (with_reducible exact B0) | (with_reducible refine Below.drew ?_) | ((with_reducible refine Below.setCell ?_ ?_ _); rotate_left; (focus (dsimp only; omega))) | ((with_reducible refine bl_gb ?_ gb3 ?_ ?_); rotate_left; (focus (first | omega | (simp; omega) | (simp [World.setCell]; omega))); (focus omega))))⟩
set_option maxHeartbeats 1000000 in
theorem DrawHullOf_any (A : Option Addr) (n c : Nat) (zs : List Int) (w : World) (h : IsRow .u8 w A n c zs) :
    Calls Try.prog 36 #[.slice A n c] w (SomeRects (-300000) 300000 (Below w.heap.size w)) := by
  have hrow : IsRow .u8 ((w.alloc (.cells #[.int .i64 0, .int .i64 0, .int .i64 0, .int .i64 0] 26)).alloc (.cells #[.int .i64 0, .int .i64 0, .int .i64 0, .int .i64 0] 26)) A n c zs := isRow_alloc (isRow_alloc h _) _
  clear h
  go_enter Try.func36, Try.ntmps36
  go_wp2_with fail
  refine (DrawMeetRects_any A n c zs _ hrow).mono ?_
  rintro e w1 ⟨x, y, a, b, p, q, c2, d, rfl, h1, h2, hb1⟩
  obtain ⟨hc1, hf1⟩ := bcell2 hb1
  have hz1 := hb1.size
  simp only [World.size_alloc] at hz1
  have z1 : w.heap.size < w1.heap.size := by omega
  have z2 : w.heap.size + 1 < w1.heap.size := by omega
  have k0 := hc1 w.heap.size 0 (by simp only [World.size_alloc]; omega)
  have k1 := hc1 w.heap.size 1 (by simp only [World.size_alloc]; omega)
  have k2 := hc1 w.heap.size 2 (by simp only [World.size_alloc]; omega)
  have k3 := hc1 w.heap.size 3 (by simp only [World.size_alloc]; omega)
  have l0 := hc1 (w.heap.size + 1) 0 (by simp only [World.size_alloc]; omega)
  have l1 := hc1 (w.heap.size + 1) 1 (by simp only [World.size_alloc]; omega)
  have l2 := hc1 (w.heap.size + 1) 2 (by simp only [World.size_alloc]; omega)
  have l3 := hc1 (w.heap.size + 1) 3 (by simp only [World.size_alloc]; omega)
  simp [go_sem] at k0 k1 k2 k3 l0 l1 l2 l3
  go_wp2
  refine bodyPost_ret (v := .tuple #[.agg #[.int .i64 x, .int .i64 y, .int .i64 a, .int .i64 b], .agg #[.int .i64 p, .int .i64 q, .int .i64 c2, .int .i64 d]]) (by simp [results, Try.results36, go_sem, k0, k1, k2, k3, l0, l1, l2, l3]) rfl ⟨_, _, _, _, _, _, _, _, rfl, h1, h2, (by repeat (first | (with_reducible exact Below.refl _ _) | (with_reducible refine Below.drew ?_) | (with_reducible refine below_drewN ?_ _) | ((with_reducible refine Below.setCell ?_ ?_ _); rotate_left; (focus (dsimp only; omega))) | ((with_reducible refine Below.alloc ?_ ?_ _); rotate_left; (focus ((try simp only [World.size_alloc]); (first | omega | ((try simp); (try omega); done))))) | ((refine Below.trans ?_ (Below.mono (by assumption) ?_)); rotate_left; (focus ((try simp only [World.size_alloc]); (first | omega | ((try simp); (try omega); done)))))))⟩
end Go.Proofs.Ythpohaijjlfdoaa
