
/- The generator of rectangles: someRect, anyRect and the drawn arguments: all numbers lie in bounds; nothing that was there has turned. -/
import Derived.Test.YthbcdoblmflmbaaF
namespace Go.Proofs.Ythbcdoblmflmbaa
open Go.RowKit

theorem Rdr.bytes_lt {w : World} {g : Nat} {A : Option Addr} {n c K : Nat} (h : Rdr w g A n c K) : ∀ b off, A = some ⟨b, off, none⟩ → 0 < n → b < w.heap.size := by
  intro b off e hn
  obtain ⟨b', off', e', hb, _⟩ := h.2.2.2.2.2 hn
  rw [e] at e'
  injection e' with e'
  injection e' with e1
  omega
def SomeRect (lo hi : Int) (S : World → Prop) (e : Ending) (w' : World) : Prop :=
  ∃ x y a b : Int, e = .returned (.agg #[.int .i64 x, .int .i64 y, .int .i64 a, .int .i64 b]) ∧ (lo ≤ x ∧ x ≤ hi) ∧ (lo ≤ y ∧ y ≤ hi) ∧ (lo ≤ a ∧ a ≤ hi) ∧ (lo ≤ b ∧ b ≤ hi) ∧ S w'
set_option maxHeartbeats 2000000 in
theorem someRect_any (g : Nat) (A : Option Addr) (n c K : Nat) (w : World) (hr : Rdr w g A n c K) (hK : K ≤ 1000) :
    Calls Try.prog 16 #[.pointer (some ⟨g, 0, none⟩)] w (SomeRect (-1000) 1000 (AfterPick w g A n c (K + 4))) := by
  have hg := hr.lt
  have hne0 : ¬ w.heap.size = g := by omega
  have hne0' : ¬ g = w.heap.size := by omega
  have HB := Lib.hid hr.bytes_lt
  go_enter Try.func16, Try.ntmps16
  go_wp2_with fail
  refine (pick_any g A n c K 40 _ (hr.alloc _) (by omega) (by omega) (by omega)).mono ?_; rintro e w1 ⟨v1, rfl, lo_h1, hi_h1, rd_h1, gb_h1⟩; obtain ⟨hc_h1, hf_h1⟩ := gcell gb_h1; have hz_h1 := gb_h1.size; (try simp at hz_h1); (try have z0h1 : w.heap.size < w1.heap.size := (by omega)); (try have z1h1 : w.heap.size + 1 < w1.heap.size := (by omega)); (try have z2h1 : w.heap.size + 1 + 1 < w1.heap.size := (by omega)); (try have z3h1 : w.heap.size + 1 + 1 + 1 < w1.heap.size := (by omega)); (try have z4h1 : w.heap.size + 1 + 1 + 1 + 1 < w1.heap.size := (by omega)); (try have z5h1 : w.heap.size + 1 + 1 + 1 + 1 + 1 < w1.heap.size := (by omega)); (try have yyw2h1 : w2.heap.size < w1.heap.size := (by omega)); (try have yyw3h1 : w3.heap.size < w1.heap.size := (by omega)); (try have yyw4h1 : w4.heap.size < w1.heap.size := (by omega)); (try have yyw5h1 : w5.heap.size < w1.heap.size := (by omega)); (try have yyw6h1 : w6.heap.size < w1.heap.size := (by omega)); (have hn_h1 : ¬ w1.heap.size = g := (by have := rd_h1.lt; omega))
  go_wp2_with fail
  refine (pick_any g A n c (K + 1) 40 _ rd_h1 (by omega) (by omega) (by omega)).mono ?_; rintro e w2 ⟨v2, rfl, lo_h2, hi_h2, rd_h2, gb_h2⟩; obtain ⟨hc_h2, hf_h2⟩ := gcell gb_h2; have hz_h2 := gb_h2.size; (try simp at hz_h2); (try have z0h2 : w.heap.size < w2.heap.size := (by omega)); (try have z1h2 : w.heap.size + 1 < w2.heap.size := (by omega)); (try have z2h2 : w.heap.size + 1 + 1 < w2.heap.size := (by omega)); (try have z3h2 : w.heap.size + 1 + 1 + 1 < w2.heap.size := (by omega)); (try have z4h2 : w.heap.size + 1 + 1 + 1 + 1 < w2.heap.size := (by omega)); (try have z5h2 : w.heap.size + 1 + 1 + 1 + 1 + 1 < w2.heap.size := (by omega)); (try have yyw1h2 : w1.heap.size < w2.heap.size := (by omega)); (try have yyw3h2 : w3.heap.size < w2.heap.size := (by omega)); (try have yyw4h2 : w4.heap.size < w2.heap.size := (by omega)); (try have yyw5h2 : w5.heap.size < w2.heap.size := (by omega)); (try have yyw6h2 : w6.heap.size < w2.heap.size := (by omega)); (have hn_h2 : ¬ w2.heap.size = g := (by have := rd_h2.lt; omega))
  go_wp2_with fail
  refine (one_any g A n c (K + 1 + 1) w2.heap.size 6 _ 0 40 _ (rd_h2.alloc _) (by omega) (heap_alloc_new _ _) hn_h2 rfl (by omega) (by omega) (by repeat (first | exact allIn_nil _ _ | refine allIn_cons (by omega) (by omega) ?_))).mono ?_; rintro e w3 ⟨v3, rfl, lo_h3, hi_h3, rd_h3, gb_h3⟩; obtain ⟨hc_h3, hf_h3⟩ := gcell gb_h3; have hz_h3 := gb_h3.size; (try simp at hz_h3); (try have z0h3 : w.heap.size < w3.heap.size := (by omega)); (try have z1h3 : w.heap.size + 1 < w3.heap.size := (by omega)); (try have z2h3 : w.heap.size + 1 + 1 < w3.heap.size := (by omega)); (try have z3h3 : w.heap.size + 1 + 1 + 1 < w3.heap.size := (by omega)); (try have z4h3 : w.heap.size + 1 + 1 + 1 + 1 < w3.heap.size := (by omega)); (try have z5h3 : w.heap.size + 1 + 1 + 1 + 1 + 1 < w3.heap.size := (by omega)); (try have yyw1h3 : w1.heap.size < w3.heap.size := (by omega)); (try have yyw2h3 : w2.heap.size < w3.heap.size := (by omega)); (try have yyw4h3 : w4.heap.size < w3.heap.size := (by omega)); (try have yyw5h3 : w5.heap.size < w3.heap.size := (by omega)); (try have yyw6h3 : w6.heap.size < w3.heap.size := (by omega)); (have hn_h3 : ¬ w3.heap.size = g := (by have := rd_h3.lt; omega))
  go_wp2_with fail
  refine (one_any g A n c (K + 1 + 1 + 1) w3.heap.size 6 _ 0 40 _ (rd_h3.alloc _) (by omega) (heap_alloc_new _ _) hn_h3 rfl (by omega) (by omega) (by repeat (first | exact allIn_nil _ _ | refine allIn_cons (by omega) (by omega) ?_))).mono ?_; rintro e w4 ⟨v4, rfl, lo_h4, hi_h4, rd_h4, gb_h4⟩; obtain ⟨hc_h4, hf_h4⟩ := gcell gb_h4; have hz_h4 := gb_h4.size; (try simp at hz_h4); (try have z0h4 : w.heap.size < w4.heap.size := (by omega)); (try have z1h4 : w.heap.size + 1 < w4.heap.size := (by omega)); (try have z2h4 : w.heap.size + 1 + 1 < w4.heap.size := (by omega)); (try have z3h4 : w.heap.size + 1 + 1 + 1 < w4.heap.size := (by omega)); (try have z4h4 : w.heap.size + 1 + 1 + 1 + 1 < w4.heap.size := (by omega)); (try have z5h4 : w.heap.size + 1 + 1 + 1 + 1 + 1 < w4.heap.size := (by omega)); (try have yyw1h4 : w1.heap.size < w4.heap.size := (by omega)); (try have yyw2h4 : w2.heap.size < w4.heap.size := (by omega)); (try have yyw3h4 : w3.heap.size < w4.heap.size := (by omega)); (try have yyw5h4 : w5.heap.size < w4.heap.size := (by omega)); (try have yyw6h4 : w6.heap.size < w4.heap.size := (by omega)); (have hn_h4 : ¬ w4.heap.size = g := (by have := rd_h4.lt; omega))
  go_wp2
  have GB' : (w.alloc (.cells #[.int .i64 0, .int .i64 0, .int .i64 0, .int .i64 0] 24)).grownBy w4 (some g) := gb_trans (gb_trans (gb_trans gb_h1 gb_h2) (gb_trans (gb_alloc (World.grownBy.refl w2 _) _) gb_h3)) (gb_trans (gb_alloc (World.grownBy.refl w3 _) _) gb_h4)
  have GB : w.grownBy w4 (some g) := gb_trans (gb_alloc (World.grownBy.refl w _) _) GB'
  have k0 := (gcell GB').1 w.heap.size 0 (by simp) hne0
  have k1 := (gcell GB').1 w.heap.size 1 (by simp) hne0
  have k2 := (gcell GB').1 w.heap.size 2 (by simp) hne0
  have k3 := (gcell GB').1 w.heap.size 3 (by simp) hne0
  simp [go_sem] at k0 k1 k2 k3
  refine bodyPost_ret (v := .agg #[.int .i64 (v1 - 10), .int .i64 (v2 - 10), .int .i64 v3, .int .i64 v4]) (by simp [results, Try.results16, go_sem, k0, k1, k2, k3]) rfl ⟨_, _, _, _, rfl, ⟨by omega, by omega⟩, ⟨by omega, by omega⟩, ⟨by omega, by omega⟩, ⟨by omega, by omega⟩, ?_, ?_⟩
  · exact (((((rd_h4.far hg HB.out (Nat.le_refl _) _).far hg HB.out (Nat.le_refl _) _).far hg HB.out (Nat.le_refl _) _).far hg HB.out (Nat.le_refl _) _).mono (by omega))
  · exact gb_set (gb_set (gb_set (gb_set GB (.inr (Nat.le_refl _)) _) (.inr (Nat.le_refl _)) _) (.inr (Nat.le_refl _)) _) (.inr (Nat.le_refl _)) _
set_option maxHeartbeats 2000000 in
theorem anyRect_any (g : Nat) (A : Option Addr) (n c K : Nat) (w : World) (hr : Rdr w g A n c K) (hK : K ≤ 500) :
    Calls Try.prog 10 #[.pointer (some ⟨g, 0, none⟩)] w (SomeRect (-300000) 300000 (AfterPick w g A n c (K + 6))) := by
  have hg := hr.lt
  have hne0 : ¬ w.heap.size = g := by omega
  have hne0' : ¬ g = w.heap.size := by omega
  have HB := Lib.hid hr.bytes_lt
  go_enter Try.func10, Try.ntmps10
  go_wp2_with fail
  refine (someRect_any g A n c K _ (hr.alloc _) (by omega)).mono ?_
  rintro e w1 ⟨x, y, a, b, rfl, ⟨x0, x1⟩, ⟨y0, y1⟩, ⟨a0, a1⟩, ⟨b0, b1⟩, rd1, gb1⟩
  obtain ⟨hc1, hf1⟩ := gcell gb1
  have hz1 := gb1.size
  simp at hz1
  have z1 : w.heap.size < w1.heap.size := by omega
  have hn1 : ¬ w1.heap.size = g := by have := rd1.lt; omega
  go_wp2_with fail
  refine (pick_any g A n c (K + 4) 20 _ (rd1.alloc _) (by omega) (by omega) (by omega)).mono ?_; rintro e w2 ⟨v2, rfl, lo_h2, hi_h2, rd_h2, gb_h2⟩; obtain ⟨hc_h2, hf_h2⟩ := gcell gb_h2; have hz_h2 := gb_h2.size; (try simp at hz_h2); (try have z0h2 : w.heap.size < w2.heap.size := (by omega)); (try have z1h2 : w.heap.size + 1 < w2.heap.size := (by omega)); (try have z2h2 : w.heap.size + 1 + 1 < w2.heap.size := (by omega)); (try have z3h2 : w.heap.size + 1 + 1 + 1 < w2.heap.size := (by omega)); (try have z4h2 : w.heap.size + 1 + 1 + 1 + 1 < w2.heap.size := (by omega)); (try have z5h2 : w.heap.size + 1 + 1 + 1 + 1 + 1 < w2.heap.size := (by omega)); (try have yyw1h2 : w1.heap.size < w2.heap.size := (by omega)); (try have yyw3h2 : w3.heap.size < w2.heap.size := (by omega)); (try have yyw4h2 : w4.heap.size < w2.heap.size := (by omega)); (try have yyw5h2 : w5.heap.size < w2.heap.size := (by omega)); (try have yyw6h2 : w6.heap.size < w2.heap.size := (by omega)); (have hn_h2 : ¬ w2.heap.size = g := (by have := rd_h2.lt; omega))
  have GC2 : (w1.alloc (.cells #[.int .i64 x, .int .i64 y, .int .i64 a, .int .i64 b] 24)).grownBy w2 (some g) := gb_h2
  have GB2 : (w.alloc (.cells #[.int .i64 0, .int .i64 0, .int .i64 0, .int .i64 0] 24)).grownBy w2 (some g) := gb_trans gb1 (gb_trans (gb_alloc (World.grownBy.refl w1 _) _) gb_h2)
  have hne1 : ¬ w.heap.size = w1.heap.size := by omega
  have hx1 : w.heap.size < w1.heap.size := by omega
  by_cases c0 : v2 = 0
  · subst c0
    go_wp2_with fail
    refine (one_any g A n c (K + 4 + 1) w2.heap.size 3 _ (-300000) 300000 _ (rd_h2.alloc _) (by omega) (heap_alloc_new _ _) hn_h2 rfl (by omega) (by omega) (by repeat (first | exact allIn_nil _ _ | refine allIn_cons (by omega) (by omega) ?_))).mono ?_; rintro e w3 ⟨v3, rfl, lo_h3, hi_h3, rd_h3, gb_h3⟩; obtain ⟨hc_h3, hf_h3⟩ := gcell gb_h3; have hz_h3 := gb_h3.size; (try simp at hz_h3); (try have z0h3 : w.heap.size < w3.heap.size := (by omega)); (try have z1h3 : w.heap.size + 1 < w3.heap.size := (by omega)); (try have z2h3 : w.heap.size + 1 + 1 < w3.heap.size := (by omega)); (try have z3h3 : w.heap.size + 1 + 1 + 1 < w3.heap.size := (by omega)); (try have z4h3 : w.heap.size + 1 + 1 + 1 + 1 < w3.heap.size := (by omega)); (try have z5h3 : w.heap.size + 1 + 1 + 1 + 1 + 1 < w3.heap.size := (by omega)); (try have yyw1h3 : w1.heap.size < w3.heap.size := (by omega)); (try have yyw2h3 : w2.heap.size < w3.heap.size := (by omega)); (try have yyw4h3 : w4.heap.size < w3.heap.size := (by omega)); (try have yyw5h3 : w5.heap.size < w3.heap.size := (by omega)); (try have yyw6h3 : w6.heap.size < w3.heap.size := (by omega)); (have hn_h3 : ¬ w3.heap.size = g := (by have := rd_h3.lt; omega))
    have GB3 : (w.alloc (.cells #[.int .i64 0, .int .i64 0, .int .i64 0, .int .i64 0] 24)).grownBy w3 (some g) := gb_trans GB2 (gb_trans (gb_alloc (World.grownBy.refl w2 _) _) gb_h3)
    have GC3 : (w1.alloc (.cells #[.int .i64 x, .int .i64 y, .int .i64 a, .int .i64 b] 24)).grownBy w3 (some g) := gb_trans GC2 (gb_trans (gb_alloc (World.grownBy.refl w2 _) _) gb_h3)
    have GB : w.grownBy w3 (some g) := gb_trans (gb_alloc (World.grownBy.refl w _) _) GB3
    have k0 := (gcell GB3).1 w.heap.size 0 (by simp) hne0
    have k1 := (gcell GB3).1 w.heap.size 1 (by simp) hne0
    have k2 := (gcell GB3).1 w.heap.size 2 (by simp) hne0
    have k3 := (gcell GB3).1 w.heap.size 3 (by simp) hne0
    have e1 : ((0 : Int) == 1) = false := by decide
    have l0 := (gcell GC3).1 w1.heap.size 0 (by simp) hn1
    have l1 := (gcell GC3).1 w1.heap.size 1 (by simp) hn1
    have l2 := (gcell GC3).1 w1.heap.size 2 (by simp) hn1
    have l3 := (gcell GC3).1 w1.heap.size 3 (by simp) hn1
    have m0 := (gcell GC3).2 w1.heap.size 0 (by simp) hn1
    have m1 := (gcell GB3).2 w.heap.size 0 (by simp) hne0
    have m2 := (gcell GB3).2 w.heap.size 1 (by simp) hne0
    have m3 := (gcell GB3).2 w.heap.size 2 (by simp) hne0
    have m4 := (gcell GB3).2 w.heap.size 3 (by simp) hne0
    simp [go_sem] at k0 k1 k2 k3 l0 l1 l2 l3 m0 m1 m2 m3 m4
    go_wp2
    refine bodyPost_ret (v := .agg #[.int .i64 v3, .int .i64 y, .int .i64 a, .int .i64 b]) (by simp [results, Try.results10, go_sem, k0, k1, k2, k3]) rfl ⟨_, _, _, _, rfl, ⟨by omega, by omega⟩, ⟨by omega, by omega⟩, ⟨by omega, by omega⟩, ⟨by omega, by omega⟩, ?_, ?_⟩
    · exact ((((((rd_h3.far hg HB.out (show w.heap.size ≤ w1.heap.size by omega) _).far hg HB.out (Nat.le_refl _) _).far hg HB.out (Nat.le_refl _) _).far hg HB.out (Nat.le_refl _) _).far hg HB.out (Nat.le_refl _) _).mono (by omega))
    · exact gb_set (gb_set (gb_set (gb_set (gb_set GB (.inr (show w.heap.size ≤ w1.heap.size by omega)) _) (.inr (Nat.le_refl _)) _) (.inr (Nat.le_refl _)) _) (.inr (Nat.le_refl _)) _) (.inr (Nat.le_refl _)) _
  · by_cases c1 : v2 = 1
    · subst c1
      go_wp2_with fail
      refine (one_any g A n c (K + 4 + 1) w2.heap.size 3 _ (-300000) 300000 _ (rd_h2.alloc _) (by omega) (heap_alloc_new _ _) hn_h2 rfl (by omega) (by omega) (by repeat (first | exact allIn_nil _ _ | refine allIn_cons (by omega) (by omega) ?_))).mono ?_; rintro e w3 ⟨v3, rfl, lo_h3, hi_h3, rd_h3, gb_h3⟩; obtain ⟨hc_h3, hf_h3⟩ := gcell gb_h3; have hz_h3 := gb_h3.size; (try simp at hz_h3); (try have z0h3 : w.heap.size < w3.heap.size := (by omega)); (try have z1h3 : w.heap.size + 1 < w3.heap.size := (by omega)); (try have z2h3 : w.heap.size + 1 + 1 < w3.heap.size := (by omega)); (try have z3h3 : w.heap.size + 1 + 1 + 1 < w3.heap.size := (by omega)); (try have z4h3 : w.heap.size + 1 + 1 + 1 + 1 < w3.heap.size := (by omega)); (try have z5h3 : w.heap.size + 1 + 1 + 1 + 1 + 1 < w3.heap.size := (by omega)); (try have yyw1h3 : w1.heap.size < w3.heap.size := (by omega)); (try have yyw2h3 : w2.heap.size < w3.heap.size := (by omega)); (try have yyw4h3 : w4.heap.size < w3.heap.size := (by omega)); (try have yyw5h3 : w5.heap.size < w3.heap.size := (by omega)); (try have yyw6h3 : w6.heap.size < w3.heap.size := (by omega)); (have hn_h3 : ¬ w3.heap.size = g := (by have := rd_h3.lt; omega))
      have GB3 : (w.alloc (.cells #[.int .i64 0, .int .i64 0, .int .i64 0, .int .i64 0] 24)).grownBy w3 (some g) := gb_trans GB2 (gb_trans (gb_alloc (World.grownBy.refl w2 _) _) gb_h3)
      have GB : w.grownBy w3 (some g) := gb_trans (gb_alloc (World.grownBy.refl w _) _) GB3
      have k0 := (gcell GB3).1 w.heap.size 0 (by simp) hne0
      have k1 := (gcell GB3).1 w.heap.size 1 (by simp) hne0
      have k2 := (gcell GB3).1 w.heap.size 2 (by simp) hne0
      have k3 := (gcell GB3).1 w.heap.size 3 (by simp) hne0
      have GC3 : (w1.alloc (.cells #[.int .i64 x, .int .i64 y, .int .i64 a, .int .i64 b] 24)).grownBy w3 (some g) := gb_trans GC2 (gb_trans (gb_alloc (World.grownBy.refl w2 _) _) gb_h3)
      have l0 := (gcell GC3).1 w1.heap.size 0 (by simp) hn1
      have l1 := (gcell GC3).1 w1.heap.size 1 (by simp) hn1
      have l2 := (gcell GC3).1 w1.heap.size 2 (by simp) hn1
      have l3 := (gcell GC3).1 w1.heap.size 3 (by simp) hn1
      have m0 := (gcell GC3).2 w1.heap.size 2 (by simp) hn1
      have m1 := (gcell GB3).2 w.heap.size 0 (by simp) hne0
      have m2 := (gcell GB3).2 w.heap.size 1 (by simp) hne0
      have m3 := (gcell GB3).2 w.heap.size 2 (by simp) hne0
      have m4 := (gcell GB3).2 w.heap.size 3 (by simp) hne0
      simp [go_sem] at k0 k1 k2 k3 l0 l1 l2 l3 m0 m1 m2 m3 m4
      go_wp2
      refine bodyPost_ret (v := .agg #[.int .i64 x, .int .i64 y, .int .i64 v3, .int .i64 b]) (by simp [results, Try.results10, go_sem, k0, k1, k2, k3]) rfl ⟨_, _, _, _, rfl, ⟨by omega, by omega⟩, ⟨by omega, by omega⟩, ⟨by omega, by omega⟩, ⟨by omega, by omega⟩, ?_, ?_⟩
      · exact ((((((rd_h3.far hg HB.out (show w.heap.size ≤ w1.heap.size by omega) _).far hg HB.out (Nat.le_refl _) _).far hg HB.out (Nat.le_refl _) _).far hg HB.out (Nat.le_refl _) _).far hg HB.out (Nat.le_refl _) _).mono (by omega))
      · exact gb_set (gb_set (gb_set (gb_set (gb_set GB (.inr (show w.heap.size ≤ w1.heap.size by omega)) _) (.inr (Nat.le_refl _)) _) (.inr (Nat.le_refl _)) _) (.inr (Nat.le_refl _)) _) (.inr (Nat.le_refl _)) _
    · have e0 : (v2 == 0) = false := beq_eq_false_iff_ne.2 c0
      have e1 : (v2 == 1) = false := beq_eq_false_iff_ne.2 c1
      have GB : w.grownBy w2 (some g) := gb_trans (gb_alloc (World.grownBy.refl w _) _) GB2
      have k0 := (gcell GB2).1 w.heap.size 0 (by simp) hne0
      have k1 := (gcell GB2).1 w.heap.size 1 (by simp) hne0
      have k2 := (gcell GB2).1 w.heap.size 2 (by simp) hne0
      have k3 := (gcell GB2).1 w.heap.size 3 (by simp) hne0
      simp [go_sem] at k0 k1 k2 k3
      go_wp2
      refine bodyPost_ret (v := .agg #[.int .i64 x, .int .i64 y, .int .i64 a, .int .i64 b]) (by simp [results, Try.results10, go_sem, k0, k1, k2, k3]) rfl ⟨_, _, _, _, rfl, ⟨by omega, by omega⟩, ⟨by omega, by omega⟩, ⟨by omega, by omega⟩, ⟨by omega, by omega⟩, ?_, ?_⟩
      · exact (((((rd_h2.far hg HB.out (Nat.le_refl _) _).far hg HB.out (Nat.le_refl _) _).far hg HB.out (Nat.le_refl _) _).far hg HB.out (Nat.le_refl _) _).mono (by omega))
      · exact gb_set (gb_set (gb_set (gb_set GB (.inr (Nat.le_refl _)) _) (.inr (Nat.le_refl _)) _) (.inr (Nat.le_refl _)) _) (.inr (Nat.le_refl _)) _
/- The drawn arguments. -/
theorem bl_gb {w w1 w2 : World} {B g : Nat} (h : Below B w w1) (hg : w1.grownBy w2 (some g)) (h1 : B ≤ w1.heap.size) (h2 : B ≤ g) : Below B w w2 :=
  h.grown hg h1 (fun k e => by injection e with e; omega)
end Go.Proofs.Ythbcdoblmflmbaa
