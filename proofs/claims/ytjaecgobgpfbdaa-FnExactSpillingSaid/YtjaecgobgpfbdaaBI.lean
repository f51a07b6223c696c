/- Contracts on slices of integers: tests, sums, copies, marks. -/
import Derived.Test.YtjaecgobgpfbdaaProg
import Derived.Test.YtjaecgobgpfbdaaP
namespace Go.Proofs.Ytjaecgobgpfbdaa
open Go.RowKit

theorem tot_bd {zs : List Int} (h : AllB zs (-1000000) 1000000) (k : Nat) (hk : k ≤ zs.length) (hn : zs.length ≤ 2000000) : -2000000000000 ≤ tot zs k ∧ tot zs k ≤ 2000000000000 := by
  have := tot_ge zs _ _ h k hk
  omega
theorem okB_false {zs : List Int} {lo hi : Int} {k : Nat} (hk : k < zs.length) (h : inB (zs.getD k 0) lo hi = false) : okB zs lo hi = false := by
  rw [Bool.eq_false_iff]
  intro h2
  have h3 := (okB_iff.1 h2).getD k hk
  rw [inB_not] at h
  exact h h3
theorem okB_true {zs : List Int} {lo hi : Int} (h : ∀ k, k < zs.length → inB (zs.getD k 0) lo hi = true) : okB zs lo hi = true := by
  rw [okB_iff]
  intro z hz
  obtain ⟨i, hi, rfl⟩ := List.mem_iff_getElem.1 hz
  have := h i hi
  rw [inB_iff] at this
  simpa [List.getD_eq_getElem?_getD, List.getElem?_eq_getElem hi] using this
set_option maxHeartbeats 400000 in
theorem inRange_any (n lo hi : Int) (w : World) :
    Calls Try.prog 49 #[.int .i64 n, .int .i64 lo, .int .i64 hi] w fun e w' => e = .returned (.bool (inB n lo hi)) ∧ w = w' := by
  go_enter Try.func49, Try.ntmps49
  go_wp2
  all_goals go_ret
  all_goals exact ⟨ret_bool (by unfold inB; rw [Bool.eq_iff_iff]; simp; omega), rfl⟩
set_option maxHeartbeats 400000 in
theorem within_any (n lo hi : Int) (w : World) :
    Calls Try.prog 51 #[.int .i64 n, .int .i64 lo, .int .i64 hi] w fun e w' => e = .returned (.bool (inB n lo hi)) ∧ w = w' := by
  go_enter Try.func51, Try.ntmps51
  go_wp2
  all_goals go_ret
  all_goals exact ⟨ret_bool (by unfold inB; rw [Bool.eq_iff_iff]; simp; omega), rfl⟩
set_option maxHeartbeats 1000000 in
theorem ssum_any (A : Option Addr) (n c : Nat) (zs : List Int) (B : Nat) (w : World) (h : Rd w B A n zs) (hn : n ≤ 2000000) (hb : AllB zs (-1000000) 1000000) :
    Calls Try.prog 97 #[.slice A n c] w fun e w' => e = .returned (.int .i64 (tot zs n)) ∧ w = w' := by
  have hl := Lib.hid h.1
  have H := Lib.hid h
  have HB := Lib.hid hb
  clear h hb
  go_enter Try.func97, Try.ntmps97
  go_wp2
  go_loop [3, 4] (fun s i => ∃ k : Nat, k ≤ n ∧ i = .int .i64 k ∧ s = .int .i64 (tot zs k)) (fun _ i => n - (intOf i).toNat)
  case atStart => exact ⟨0, Nat.zero_le _, rfl, by rw [tot_zero]⟩
  case round =>
    obtain ⟨k, hk, rfl, rfl⟩ := hrel
    have hz := hl.out
    obtain ⟨t0, t1⟩ := tot_bd HB.out k (by omega) (by omega)
    by_cases hlt : k < n
    · obtain ⟨b, off, rfl, _, hc⟩ := H.out.cell (by omega)
      obtain ⟨v0, v1⟩ := HB.out.getD k (by omega)
      obtain ⟨v, hv⟩ : ∃ v, Hid (zs.getD k 0 = v) := ⟨_, rfl⟩
      rw [hv.out] at v0 v1
      have hcell : w.cell? ⟨b, off + k, none⟩ = some (.int .i64 v) := by rw [← hv.out]; exact hc k hlt
      clear hc hz
      go_wp2
      go_round
      case rel => exact ⟨k + 1, by omega, by go_num, by rw [tot_succ, hv.out]⟩
      case measure => simp [intOf]; omega
    · obtain rfl : k = n := by omega
      clear hz
      go_wp2
      go_ret
      exact ⟨rfl, rfl⟩
set_option maxHeartbeats 1000000 in
theorem total_any (A : Option Addr) (n c : Nat) (zs : List Int) (B : Nat) (w : World) (h : Rd w B A n zs) (hn : n ≤ 2000000) (hb : AllB zs (-1000000) 1000000) :
    Calls Try.prog 91 #[.slice A n c] w fun e w' => e = .returned (.int .i64 (tot zs n)) ∧ w = w' := by
  have hl := Lib.hid h.1
  have H := Lib.hid h
  have HB := Lib.hid hb
  clear h hb
  go_enter Try.func91, Try.ntmps91
  go_wp2
  go_loop [3, 8] (fun s i => ∃ k : Nat, k ≤ n ∧ i = .int .i64 k ∧ s = .int .i64 (tot zs k)) (fun _ i => n - (intOf i).toNat)
  case atStart => exact ⟨0, Nat.zero_le _, rfl, by rw [tot_zero]⟩
  case round =>
    obtain ⟨k, hk, rfl, rfl⟩ := hrel
    have hz := hl.out
    obtain ⟨t0, t1⟩ := tot_bd HB.out k (by omega) (by omega)
    by_cases hlt : k < n
    · obtain ⟨b, off, rfl, _, hc⟩ := H.out.cell (by omega)
      obtain ⟨v0, v1⟩ := HB.out.getD k (by omega)
      obtain ⟨v, hv⟩ : ∃ v, Hid (zs.getD k 0 = v) := ⟨_, rfl⟩
      rw [hv.out] at v0 v1
      have hcell : w.cell? ⟨b, off + k, none⟩ = some (.int .i64 v) := by rw [← hv.out]; exact hc k hlt
      clear hc hz
      go_wp2
      go_round
      case rel => exact ⟨k + 1, by omega, by go_num, by rw [tot_succ, hv.out]⟩
      case measure => simp [intOf]; omega
    · obtain rfl : k = n := by omega
      clear hz
      go_wp2
      go_ret
      exact ⟨rfl, rfl⟩
set_option maxHeartbeats 1000000 in
theorem eqIntS_any (A A' : Option Addr) (n c c' : Nat) (zs : List Int) (B B' : Nat) (w : World) (h : Rd w B A n zs) (h' : Rd w B' A' n zs) (hn : n ≤ 2000000) :
    Calls Try.prog 22 #[.slice A n c, .slice A' n c'] w fun e w' => e = .returned (.bool true) ∧ Below w.heap.size w w' := by
  have H := Lib.hid h
  have H' := Lib.hid h'
  clear h h'
  go_enter Try.func22, Try.ntmps22
  go_wp2
  go_loopw [5] (fun i wr => ∃ k : Nat, k ≤ n ∧ i = .int .i64 k ∧ Hid (∃ m, wr = w.drewN m)) (fun i _ => n - (intOf i).toNat)
  case atStart => exact ⟨0, Nat.zero_le _, rfl, 0, rfl⟩
  case round =>
    obtain ⟨k, hk, rfl, hm⟩ := hrel
    obtain ⟨m, rfl⟩ := hm.out
    clear hm
    by_cases hlt : k < n
    · obtain ⟨b, off, rfl, _, hc⟩ := H.out.cell (by omega)
      obtain ⟨b', off', rfl, _, hc'⟩ := H'.out.cell (by omega)
      obtain ⟨v, hv⟩ : ∃ v, Hid (zs.getD k 0 = v) := ⟨_, rfl⟩
      have hcell : w.cell? ⟨b, off + k, none⟩ = some (.int .i64 v) := by rw [← hv.out]; exact hc k hlt
      have hcell' : w.cell? ⟨b', off' + k, none⟩ = some (.int .i64 v) := by rw [← hv.out]; exact hc' k hlt
      clear hc hc'
      have hk0 : (0 : Int) ≤ (k : Int) := by omega
      have hk1 : (k : Int) < (n : Int) := by omega
      go_wp2
      go_quiet (fail)
      go_wp2
      go_roundw
      case rel => exact ⟨k + 1, by omega, by go_num, _, rfl⟩
      case measure => simp [intOf]; omega
    · go_wp2
      go_ret
      exact ⟨rfl, below_drewN (Below.refl _ _) _⟩
end Go.Proofs.Ytjaecgobgpfbdaa
