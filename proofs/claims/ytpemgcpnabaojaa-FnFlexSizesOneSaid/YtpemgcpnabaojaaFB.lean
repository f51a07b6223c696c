/- Valid flexible sizes, by the program and by the reference. -/
import Derived.Test.YtpemgcpnabaojaaFA
namespace Go.Proofs.Ytpemgcpnabaojaa
open Go.RowKit

def fxB (x0 x1 x2 x3 x4 : Int) : Bool := (((inB x1 0 10000 && inB x2 x1 10000) && inB x0 x1 x2) && inB x3 0 10) && inB x4 0 10
theorem fxB_iff {x0 x1 x2 x3 x4 : Int} : fxB x0 x1 x2 x3 x4 = true ↔ 0 ≤ x1 ∧ x1 ≤ x0 ∧ x0 ≤ x2 ∧ x2 ≤ 10000 ∧ (0 ≤ x3 ∧ x3 ≤ 10) ∧ 0 ≤ x4 ∧ x4 ≤ 10 := by
  unfold fxB; simp only [Bool.and_eq_true, inB_iff]; omega
def fx (zs : List Int) (k : Nat) : Bool := fxB (zs.getD (5 * k) 0) (zs.getD (5 * k + 1) 0) (zs.getD (5 * k + 2) 0) (zs.getD (5 * k + 3) 0) (zs.getD (5 * k + 4) 0)
def okF (zs : List Int) (n : Nat) : Bool := (List.range n).all fun k => fx zs k
theorem okF_iff {zs : List Int} {n : Nat} : okF zs n = true ↔ ∀ k, k < n → fx zs k = true := by unfold okF; simp
theorem okF_false {zs : List Int} {n k : Nat} (hk : k < n) (h : fx zs k = false) : okF zs n = false := by
  rw [Bool.eq_false_iff]
  intro h2
  rw [okF_iff.1 h2 k hk] at h
  cases h
def vF (zs : List Int) (n : Nat) : Bool := inB (n : Int) 1 8 && okF zs n
theorem vF_iff {zs : List Int} {n : Nat} : vF zs n = true ↔ (1 ≤ n ∧ n ≤ 8) ∧ ∀ k, k < n → fx zs k = true := by
  unfold vF; simp only [Bool.and_eq_true, inB_iff, okF_iff]
  constructor
  · rintro ⟨h1, h2⟩; exact ⟨by omega, h2⟩
  · rintro ⟨h1, h2⟩; exact ⟨by omega, h2⟩
set_option maxHeartbeats 2000000 in
theorem valid_any (x0 x1 x2 x3 x4 : Int) (w : World) :
    Calls Try.prog 39 #[.agg #[.int .i64 x0, .int .i64 x1, .int .i64 x2, .int .i64 x3, .int .i64 x4]] w fun e w' => e = .returned (.bool (fxB x0 x1 x2 x3 x4)) ∧ Below w.heap.size w w' := by
  cases h0 : inB x1 0 10000
  · go_enter Try.func39, Try.ntmps39
    go_wp2_with (go_at_call 36; ((with_reducible refine (within_any _ _ _ _).mono ?_); rintro e w' ⟨rfl, rfl⟩))
    go_ret
    exact ⟨ret_bool (by simp [fxB, h0]), (Below.refl _ _).alloc (Nat.le_refl _) _⟩
  · skip
    cases h1 : inB x2 x1 10000
    · go_enter Try.func39, Try.ntmps39
      go_wp2_with (go_at_call 36; ((with_reducible refine (within_any _ _ _ _).mono ?_); rintro e w' ⟨rfl, rfl⟩))
      go_ret
      exact ⟨ret_bool (by simp [fxB, h0, h1]), (Below.refl _ _).alloc (Nat.le_refl _) _⟩
    · skip
      cases h2 : inB x0 x1 x2
      · go_enter Try.func39, Try.ntmps39
        go_wp2_with (go_at_call 36; ((with_reducible refine (within_any _ _ _ _).mono ?_); rintro e w' ⟨rfl, rfl⟩))
        go_ret
        exact ⟨ret_bool (by simp [fxB, h0, h1, h2]), (Below.refl _ _).alloc (Nat.le_refl _) _⟩
      · skip
        cases h3 : inB x3 0 10
        · go_enter Try.func39, Try.ntmps39
          go_wp2_with (go_at_call 36; ((with_reducible refine (within_any _ _ _ _).mono ?_); rintro e w' ⟨rfl, rfl⟩))
          go_ret
          exact ⟨ret_bool (by simp [fxB, h0, h1, h2, h3]), (Below.refl _ _).alloc (Nat.le_refl _) _⟩
        · skip
          cases h4 : inB x4 0 10
          · go_enter Try.func39, Try.ntmps39
            go_wp2_with (go_at_call 36; ((with_reducible refine (within_any _ _ _ _).mono ?_); rintro e w' ⟨rfl, rfl⟩))
            go_ret
            exact ⟨ret_bool (by simp [fxB, h0, h1, h2, h3, h4]), (Below.refl _ _).alloc (Nat.le_refl _) _⟩
          · skip
            go_enter Try.func39, Try.ntmps39
            go_wp2_with (go_at_call 36; ((with_reducible refine (within_any _ _ _ _).mono ?_); rintro e w' ⟨rfl, rfl⟩))
            go_ret
            exact ⟨ret_bool (by simp [fxB, h0, h1, h2, h3, h4]), (Below.refl _ _).alloc (Nat.le_refl _) _⟩
set_option maxHeartbeats 2000000 in
theorem svalid_any (x0 x1 x2 x3 x4 : Int) (w : World) :
    Calls Try.prog 48 #[.agg #[.int .i64 x0, .int .i64 x1, .int .i64 x2, .int .i64 x3, .int .i64 x4]] w fun e w' => e = .returned (.bool (fxB x0 x1 x2 x3 x4)) ∧ Below w.heap.size w w' := by
  cases h0 : inB x1 0 10000
  · go_enter Try.func48, Try.ntmps48
    go_wp2_with (go_at_call 33; ((with_reducible refine (inRange_any _ _ _ _).mono ?_); rintro e w' ⟨rfl, rfl⟩))
    go_ret
    exact ⟨ret_bool (by simp [fxB, h0]), (Below.refl _ _).alloc (Nat.le_refl _) _⟩
  · skip
    cases h1 : inB x2 x1 10000
    · go_enter Try.func48, Try.ntmps48
      go_wp2_with (go_at_call 33; ((with_reducible refine (inRange_any _ _ _ _).mono ?_); rintro e w' ⟨rfl, rfl⟩))
      go_ret
      exact ⟨ret_bool (by simp [fxB, h0, h1]), (Below.refl _ _).alloc (Nat.le_refl _) _⟩
    · skip
      cases h2 : inB x0 x1 x2
      · go_enter Try.func48, Try.ntmps48
        go_wp2_with (go_at_call 33; ((with_reducible refine (inRange_any _ _ _ _).mono ?_); rintro e w' ⟨rfl, rfl⟩))
        go_ret
        exact ⟨ret_bool (by simp [fxB, h0, h1, h2]), (Below.refl _ _).alloc (Nat.le_refl _) _⟩
      · skip
        cases h3 : inB x3 0 10
        · go_enter Try.func48, Try.ntmps48
          go_wp2_with (go_at_call 33; ((with_reducible refine (inRange_any _ _ _ _).mono ?_); rintro e w' ⟨rfl, rfl⟩))
          go_ret
          exact ⟨ret_bool (by simp [fxB, h0, h1, h2, h3]), (Below.refl _ _).alloc (Nat.le_refl _) _⟩
        · skip
          cases h4 : inB x4 0 10
          · go_enter Try.func48, Try.ntmps48
            go_wp2_with (go_at_call 33; ((with_reducible refine (inRange_any _ _ _ _).mono ?_); rintro e w' ⟨rfl, rfl⟩))
            go_ret
            exact ⟨ret_bool (by simp [fxB, h0, h1, h2, h3, h4]), (Below.refl _ _).alloc (Nat.le_refl _) _⟩
          · skip
            go_enter Try.func48, Try.ntmps48
            go_wp2_with (go_at_call 33; ((with_reducible refine (inRange_any _ _ _ _).mono ?_); rintro e w' ⟨rfl, rfl⟩))
            go_ret
            exact ⟨ret_bool (by simp [fxB, h0, h1, h2, h3, h4]), (Below.refl _ _).alloc (Nat.le_refl _) _⟩
set_option maxHeartbeats 1000000 in
theorem valid1_any (x0 x1 x2 x3 x4 : Int) (w : World) :
    Calls Try.prog 38 #[.agg #[.int .i64 x0, .int .i64 x1, .int .i64 x2, .int .i64 x3, .int .i64 x4]] w fun e w' => e = .returned (.bool (!fxB x0 x1 x2 x3 x4)) ∧ Below w.heap.size w w' := by
  go_enter Try.func38, Try.ntmps38
  go_wp2_with (go_at_call 39; ((with_reducible refine (valid_any _ _ _ _ _ _).mono ?_); rintro e w1 ⟨rfl, hb1⟩; have HB := Lib.hid hb1; clear hb1))
  go_ret
  exact ⟨rfl, ((Below.refl _ _).alloc (Nat.le_refl _) _).trans (HB.out.mono (by simp))⟩
def FstBadF (zs : List Int) (n : Nat) (w : World) (e : Ending) (w' : World) : Prop := ∃ r : Int, e = .returned (.int .i64 r) ∧ -1 ≤ r ∧ decide (0 ≤ r) = !okF zs n ∧ Below w.heap.size w w'
set_option maxHeartbeats 2000000 in
theorem idxFlex_any (A : Option Addr) (n c : Nat) (zs : List Int) (w : World) (h : Rd w w.heap.size A (5 * n) zs) (hn : n ≤ 2000000) :
    Calls Try.prog 52 #[.slice A n c, .func (.func 38) #[] #[]] w (FstBadF zs n w) := by
  have H := Lib.hid h
  clear h
  go_enter Try.func52, Try.ntmps52
  go_wp2
  go_loopw [8] (fun i wr => ∃ k : Nat, k ≤ n ∧ i = .int .i64 k ∧ Hid ((∀ j, j < k → fx zs j = true) ∧ Below w.heap.size w wr)) (fun i _ => n - (intOf i).toNat)
  case atStart => exact ⟨0, Nat.zero_le _, rfl, fun j hj => absurd hj (by omega), Below.refl _ _⟩
  case round =>
    obtain ⟨k, hk, rfl, hS⟩ := hrel
    by_cases hlt : k < n
    · obtain ⟨b, off, rfl, hb, hc⟩ := H.out.cell (by omega)
      have hcell : ∀ j, j < 5 * n → wr.cell? ⟨b, off + j, none⟩ = some (.int .i64 (zs.getD j 0)) := fun j hj => by rw [hS.out.2.cell (p := ⟨b, off + j, none⟩) hb]; exact hc j hj
      obtain ⟨c0, c1, c2, c3, c4⟩ := at5 hcell hlt
      clear hcell hc
      obtain ⟨x0, h0⟩ : ∃ x, Hid (zs.getD (5 * k) 0 = x) := ⟨_, rfl⟩
      rw [h0.out] at c0
      obtain ⟨x1, h1⟩ : ∃ x, Hid (zs.getD (5 * k + 1) 0 = x) := ⟨_, rfl⟩
      rw [h1.out] at c1
      obtain ⟨x2, h2⟩ : ∃ x, Hid (zs.getD (5 * k + 2) 0 = x) := ⟨_, rfl⟩
      rw [h2.out] at c2
      obtain ⟨x3, h3⟩ : ∃ x, Hid (zs.getD (5 * k + 3) 0 = x) := ⟨_, rfl⟩
      rw [h3.out] at c3
      obtain ⟨x4, h4⟩ : ∃ x, Hid (zs.getD (5 * k + 4) 0 = x) := ⟨_, rfl⟩
      rw [h4.out] at c4
      obtain ⟨v, hv⟩ : ∃ v, Hid (fx zs k = v) := ⟨_, rfl⟩
      have HV : Hid (fxB x0 x1 x2 x3 x4 = v) := by rw [← h0.out, ← h1.out, ← h2.out, ← h3.out, ← h4.out]; exact hv
      go_wp2_with fail
      refine (valid1_any _ _ _ _ _ _).mono ?_
      rintro e w1 ⟨rfl, hb1⟩
      rw [HV.out]
      have HB1 := Lib.hid (hS.out.2.trans (hb1.mono hS.out.2.size))
      clear hb1 c0 c1 c2 c3 c4
      cases v
      · go_wp2
        go_ret
        exact ⟨_, rfl, by omega, by rw [okF_false hlt hv.out]; simp, HB1.out⟩
      · go_wp2
        go_roundw
        case rel => exact ⟨k + 1, by omega, by go_num, (fun j hj => by
          rcases Nat.lt_or_ge j k with h1 | h1
          · exact hS.out.1 j h1
          · have : j = k := by omega
            subst this; exact hv.out), HB1.out⟩
        case measure => simp [intOf]; omega
    · obtain rfl : k = n := by omega
      go_wp2
      go_ret
      exact ⟨_, rfl, by omega, by rw [okF_iff.2 hS.out.1]; simp, hS.out.2⟩
set_option maxHeartbeats 1000000 in
theorem contFlex_any (A : Option Addr) (n c : Nat) (zs : List Int) (w : World) (h : Rd w w.heap.size A (5 * n) zs) (hn : n ≤ 2000000) :
    Calls Try.prog 37 #[.slice A n c, .func (.func 38) #[] #[]] w fun e w' => e = .returned (.bool (!okF zs n)) ∧ Below w.heap.size w w' := by
  have H := Lib.hid h
  clear h
  go_enter Try.func37, Try.ntmps37
  go_wp2_with fail
  refine (idxFlex_any A n c zs _ H.out hn).mono ?_
  rintro e w1 ⟨r, rfl, hr1, hr2, hb1⟩
  have hr := Lib.hid hr2
  have HB := Lib.hid hb1
  clear hr2 hb1
  go_wp2
  go_ret
  exact ⟨ret_bool hr.out, HB.out⟩
set_option maxHeartbeats 1000000 in
theorem iValidFlexes_any (A : Option Addr) (n c : Nat) (zs : List Int) (w : World) (h : Rd w w.heap.size A (5 * n) zs) (hn : n ≤ 2000000) :
    Calls Try.prog 16 #[.slice A n c] w fun e w' => e = .returned (.bool (vF zs n)) ∧ Below w.heap.size w w' := by
  have H := Lib.hid h
  clear h
  cases h1 : inB (n : Int) 1 8
  · go_enter Try.func16, Try.ntmps16
    go_wp2_with (go_at_call 36; ((with_reducible refine (within_any _ _ _ _).mono ?_); rintro e w' ⟨rfl, rfl⟩))
    go_ret
    exact ⟨ret_bool (by simp [vF, h1]), Below.refl _ _⟩
  · go_enter Try.func16, Try.ntmps16
    go_wp2_with (first
      | (go_at_call 36; ((with_reducible refine (within_any _ _ _ _).mono ?_); rintro e w' ⟨rfl, rfl⟩))
      | (go_at_call 37; ((with_reducible refine (contFlex_any A n c zs _ H.out hn).mono ?_); rintro e w1 ⟨rfl, hb1⟩; have HB := Lib.hid hb1; clear hb1)))
    go_ret
    exact ⟨ret_bool (by simp [vF, h1]), HB.out⟩
set_option maxHeartbeats 2000000 in
theorem svalidFlexes_any (A : Option Addr) (n c : Nat) (zs : List Int) (w : World) (h : Rd w w.heap.size A (5 * n) zs) (hn : n ≤ 2000000) :
    Calls Try.prog 32 #[.slice A n c] w fun e w' => e = .returned (.bool (vF zs n)) ∧ Below w.heap.size w w' := by
  have H := Lib.hid h
  clear h
  go_enter Try.func32, Try.ntmps32
  go_wp2
  go_loopw [3] (fun i wr => ∃ k : Nat, k ≤ n ∧ i = .int .i64 k ∧ Hid ((∀ j, j < k → fx zs j = true) ∧ Below w.heap.size w wr)) (fun i _ => n - (intOf i).toNat)
  case atStart => exact ⟨0, Nat.zero_le _, rfl, fun j hj => absurd hj (by omega), Below.refl _ _⟩
  case round =>
    obtain ⟨k, hk, rfl, hS⟩ := hrel
    by_cases hlt : k < n
    · obtain ⟨b, off, rfl, hb, hc⟩ := H.out.cell (by omega)
      have hcell : ∀ j, j < 5 * n → wr.cell? ⟨b, off + j, none⟩ = some (.int .i64 (zs.getD j 0)) := fun j hj => by rw [hS.out.2.cell (p := ⟨b, off + j, none⟩) hb]; exact hc j hj
      obtain ⟨c0, c1, c2, c3, c4⟩ := at5 hcell hlt
      clear hcell hc
      obtain ⟨x0, h0⟩ : ∃ x, Hid (zs.getD (5 * k) 0 = x) := ⟨_, rfl⟩
      rw [h0.out] at c0
      obtain ⟨x1, h1⟩ : ∃ x, Hid (zs.getD (5 * k + 1) 0 = x) := ⟨_, rfl⟩
      rw [h1.out] at c1
      obtain ⟨x2, h2⟩ : ∃ x, Hid (zs.getD (5 * k + 2) 0 = x) := ⟨_, rfl⟩
      rw [h2.out] at c2
      obtain ⟨x3, h3⟩ : ∃ x, Hid (zs.getD (5 * k + 3) 0 = x) := ⟨_, rfl⟩
      rw [h3.out] at c3
      obtain ⟨x4, h4⟩ : ∃ x, Hid (zs.getD (5 * k + 4) 0 = x) := ⟨_, rfl⟩
      rw [h4.out] at c4
      obtain ⟨v, hv⟩ : ∃ v, Hid (fx zs k = v) := ⟨_, rfl⟩
      have HV : Hid (fxB x0 x1 x2 x3 x4 = v) := by rw [← h0.out, ← h1.out, ← h2.out, ← h3.out, ← h4.out]; exact hv
      go_wp2_with fail
      refine (svalid_any _ _ _ _ _ _).mono ?_
      rintro e w1 ⟨rfl, hb1⟩
      rw [HV.out]
      have HB1 := Lib.hid (hS.out.2.trans (hb1.mono hS.out.2.size))
      clear hb1 c0 c1 c2 c3 c4
      cases v
      · go_wp2
        go_ret
        exact ⟨ret_bool (by simp [vF, okF_false hlt hv.out]), HB1.out⟩
      · go_wp2
        go_roundw
        case rel => exact ⟨k + 1, by omega, by go_num, (fun j hj => by
          rcases Nat.lt_or_ge j k with h1 | h1
          · exact hS.out.1 j h1
          · have : j = k := by omega
            subst this; exact hv.out), HB1.out⟩
        case measure => simp [intOf]; omega
    · obtain rfl : k = n := by omega
      go_wp2_with (go_at_call 33; ((with_reducible refine (inRange_any _ _ _ _).mono ?_); rintro e w' ⟨rfl, rfl⟩))
      go_ret
      exact ⟨ret_bool (by simp [vF, okF_iff.2 hS.out.1]), hS.out.2⟩
end Go.Proofs.Ytpemgcpnabaojaa
