/- The test of all elements by a closure (impl's allIn). -/
import Derived.Test.YtlijbopcllanfaaBJ
namespace Go.Proofs.Ytlijbopcllanfaa
open Go.RowKit

set_option maxHeartbeats 400000 in
theorem allIn1_any (v lo hi : Int) (g1 g2 : Nat) (w : World) (h1 : w.cell? ⟨g1, 0, none⟩ = some (.int .i64 lo)) (h2 : w.cell? ⟨g2, 0, none⟩ = some (.int .i64 hi)) :
    Calls Try.prog 62 #[.int .i64 v, .pointer (some ⟨g1, 0, none⟩), .pointer (some ⟨g2, 0, none⟩)] w fun e w' => e = .returned (.bool (!inB v lo hi)) ∧ w = w' := by
  go_enter Try.func62, Try.ntmps62
  go_wp2_with (go_at_call 35; refine (within_any _ _ _ _).mono ?_; rintro e w' ⟨rfl, rfl⟩)
  go_ret
  exact ⟨rfl, rfl⟩
def FstBad (zs : List Int) (lo hi : Int) (w : World) (e : Ending) (w' : World) : Prop := ∃ r : Int, e = .returned (.int .i64 r) ∧ -1 ≤ r ∧ decide (0 ≤ r) = !okB zs lo hi ∧ w = w'
set_option maxHeartbeats 1000000 in
theorem idxFunc_any (A : Option Addr) (n c : Nat) (zs : List Int) (lo hi : Int) (g1 g2 : Nat) (B : Nat) (w : World) (h : Rd w B A n zs) (hn : n ≤ 2000000) (h1 : w.cell? ⟨g1, 0, none⟩ = some (.int .i64 lo)) (h2 : w.cell? ⟨g2, 0, none⟩ = some (.int .i64 hi)) :
    Calls Try.prog 69 #[.slice A n c, .func (.func 62) #[] #[.pointer (some ⟨g1, 0, none⟩), .pointer (some ⟨g2, 0, none⟩)]] w (FstBad zs lo hi w) := by
  have hl := Lib.hid h.1
  have H := Lib.hid h
  have H1 := Lib.hid h1
  have H2 := Lib.hid h2
  clear h h1 h2
  go_enter Try.func69, Try.ntmps69
  go_wp2
  go_loop [8] (fun i => ∃ k : Nat, k ≤ n ∧ i = .int .i64 k ∧ Hid (∀ j, j < k → inB (zs.getD j 0) lo hi = true)) (fun i => n - (intOf i).toNat)
  case atStart => exact ⟨0, Nat.zero_le _, rfl, fun j hj => absurd hj (by omega)⟩
  case round =>
    obtain ⟨k, hk, rfl, hall⟩ := hrel
    by_cases hlt : k < n
    · obtain ⟨b, off, rfl, _, hc⟩ := H.out.cell (by omega)
      obtain ⟨v, hv⟩ : ∃ v, Hid (zs.getD k 0 = v) := ⟨_, rfl⟩
      have hcell : w.cell? ⟨b, off + k, none⟩ = some (.int .i64 v) := by rw [← hv.out]; exact hc k hlt
      clear hc
      cases hb : inB v lo hi
      · go_wp2_with (go_at_call 62; refine (allIn1_any _ _ _ _ _ _ H1.out H2.out).mono ?_; rintro e w' ⟨rfl, rfl⟩)
        go_ret
        exact ⟨_, rfl, by omega, by rw [okB_false (k := k) (by rw [hl.out]; exact hlt) (by rw [hv.out]; exact hb)]; simp, rfl⟩
      · go_wp2_with (go_at_call 62; refine (allIn1_any _ _ _ _ _ _ H1.out H2.out).mono ?_; rintro e w' ⟨rfl, rfl⟩)
        go_round
        case rel => exact ⟨k + 1, by omega, by go_num, fun j hj => by
          rcases Nat.lt_or_ge j k with h1 | h1
          · exact hall.out j h1
          · have : j = k := by omega
            subst this; rw [hv.out]; exact hb⟩
        case measure => simp [intOf]; omega
    · go_wp2
      go_ret
      exact ⟨_, rfl, by omega, by rw [okB_true fun j hj => hall.out j (by rw [hl.out] at hj; omega)]; simp, rfl⟩
set_option maxHeartbeats 1000000 in
theorem contFunc_any (A : Option Addr) (n c : Nat) (zs : List Int) (lo hi : Int) (g1 g2 : Nat) (B : Nat) (w : World) (h : Rd w B A n zs) (hn : n ≤ 2000000) (h1 : w.cell? ⟨g1, 0, none⟩ = some (.int .i64 lo)) (h2 : w.cell? ⟨g2, 0, none⟩ = some (.int .i64 hi)) :
    Calls Try.prog 61 #[.slice A n c, .func (.func 62) #[] #[.pointer (some ⟨g1, 0, none⟩), .pointer (some ⟨g2, 0, none⟩)]] w fun e w' => e = .returned (.bool (!okB zs lo hi)) ∧ w = w' := by
  have H := Lib.hid h
  have H1 := Lib.hid h1
  have H2 := Lib.hid h2
  clear h h1 h2
  go_enter Try.func61, Try.ntmps61
  go_wp2_with (go_at_call 69; refine (idxFunc_any _ _ _ zs lo hi _ _ _ _ H.out hn H1.out H2.out).mono ?_; rintro e w' ⟨r, rfl, hr1, hr2, rfl⟩; have hr := Lib.hid hr2; clear hr2)
  go_ret
  exact ⟨ret_bool hr.out, rfl⟩
set_option maxHeartbeats 1000000 in
theorem allIn_any (A : Option Addr) (n c : Nat) (zs : List Int) (lo hi : Int) (w : World) (h : Rd w w.heap.size A n zs) (hn : n ≤ 2000000) :
    Calls Try.prog 46 #[.slice A n c, .int .i64 lo, .int .i64 hi] w fun e w' => e = .returned (.bool (okB zs lo hi)) ∧ Below w.heap.size w w' := by
  have H : Hid (∀ o o' : Obj, Rd ((w.alloc o).alloc o') w.heap.size A n zs) := fun o o' => (h.alloc (Nat.le_refl _) o).alloc (by simp) o'
  clear h
  go_enter Try.func46, Try.ntmps46
  go_wp2_with (go_at_call 61; refine (contFunc_any _ _ _ zs lo hi _ _ _ _ (H.out _ _) hn (by simp [go_sem]) (by simp [go_sem])).mono ?_; rintro e w' ⟨rfl, rfl⟩)
  go_ret
  exact ⟨ret_bool (by simp), ((Below.refl _ _).alloc (Nat.le_refl _) _).alloc (by simp) _⟩
end Go.Proofs.Ytlijbopcllanfaa
