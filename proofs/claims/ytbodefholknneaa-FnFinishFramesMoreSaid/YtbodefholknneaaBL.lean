/- Frames: the tests of costs and budgets; how many frames are needed; idle time. -/
import Derived.Test.YtbodefholknneaaBK
import Derived.Test.YtbodefholknneaaPF
namespace Go.Proofs.Ytbodefholknneaa
open Go.RowKit

def cB (zs : List Int) : Bool := decide (zs.length ≤ 12) && okB zs 0 1000
theorem cB_iff {zs : List Int} : cB zs = true ↔ zs.length ≤ 12 ∧ AllB zs 0 1000 := by unfold cB; simp [okB_iff]
theorem cB_val {zs : List Int} {n : Nat} {v : Bool} (h : zs.length = n) (h2 : okB zs 0 1000 = v) : cB zs = (decide (n ≤ 12) && v) := by unfold cB; rw [h, h2]
set_option maxHeartbeats 1000000 in
theorem validCosts_any (A A' : Option Addr) (n c m c' : Nat) (zs ys : List Int) (B B' : Nat) (w : World) (h : Rd w B A n zs) (h' : Rd w B' A' m ys) (hn : n ≤ 2000000) (hm : m ≤ 2000000) :
    Calls Try.prog 32 #[.slice A n c, .slice A' m c'] w fun e w' => e = .returned (.bool (cB zs && cB ys)) ∧ w = w' := by
  have H := Lib.hid h
  have H' := Lib.hid h'
  clear h h'
  cases hb : okB zs 0 1000 <;> cases hb' : okB ys 0 1000 <;> by_cases h1 : n ≤ 12 <;> by_cases h2 : m ≤ 12
  all_goals
    go_enter Try.func32, Try.ntmps32
    go_wp2_with (first
      | (go_at_call 42; ((with_reducible refine (sallIn_any A n c zs _ _ _ _ H.out hn).mono ?_); rintro e w' ⟨rfl, rfl⟩))
      | (go_at_call 42; ((with_reducible refine (sallIn_any A' m c' ys _ _ _ _ H'.out hm).mono ?_); rintro e w' ⟨rfl, rfl⟩)))
    go_ret
    exact ⟨ret_bool (by rw [cB_val H.out.1 hb, cB_val H'.out.1 hb']; simp [h1, h2]), rfl⟩
set_option maxHeartbeats 1000000 in
theorem costsOk_any (A : Option Addr) (n c : Nat) (zs : List Int) (w : World) (h : Rd w w.heap.size A n zs) (hn : n ≤ 2000000) :
    Calls Try.prog 35 #[.slice A n c] w fun e w' => e = .returned (.bool (cB zs)) ∧ Below w.heap.size w w' := by
  have H := Lib.hid h
  clear h
  cases hb : okB zs 0 1000 <;> by_cases h1 : n ≤ 12
  all_goals
    go_enter Try.func35, Try.ntmps35
    go_wp2_with (go_at_call 43; ((with_reducible refine (allIn_any A n c zs _ _ _ H.out hn).mono ?_); rintro e w1 ⟨rfl, hb1⟩))
    go_ret
    exact ⟨ret_bool (by rw [cB_val H.out.1 hb]; simp [h1]), by first | exact hb1 | exact Below.refl _ _⟩
set_option maxHeartbeats 1000000 in
theorem workOk_any (A A' : Option Addr) (n c m c' : Nat) (zs ys : List Int) (w : World) (h : Rd w w.heap.size A n zs) (h' : Rd w w.heap.size A' m ys) (hn : n ≤ 2000000) (hm : m ≤ 2000000) :
    Calls Try.prog 38 #[.slice A n c, .slice A' m c'] w fun e w' => e = .returned (.bool (cB zs && cB ys)) ∧ Below w.heap.size w w' := by
  have H := Lib.hid h
  have H' := Lib.hid h'
  clear h h'
  cases ha : cB zs <;> cases hb' : okB ys 0 1000 <;> by_cases h2 : m ≤ 12
  all_goals
    go_enter Try.func38, Try.ntmps38
    go_wp2_with (first
      | (go_at_call 35; ((with_reducible refine (costsOk_any A n c zs _ H.out hn).mono ?_); rintro e w1 ⟨rfl, hb1⟩; have HB := Lib.hid hb1; clear hb1))
      | (go_at_call 43; ((with_reducible refine (allIn_any A' m c' ys _ _ _ ((H'.out.below HB.out).more HB.out.size) hm).mono ?_); rintro e w2 ⟨rfl, hb2⟩; have HB2 := Lib.hid hb2; clear hb2)))
    go_ret
    exact ⟨ret_bool (by rw [cB_val H'.out.1 hb']; simp [h2]), by first | exact HB.out.trans (HB2.out.mono HB.out.size) | exact HB.out⟩
/- The plain functions. -/
def frN (zs : List Int) (b : Int) : Int := if (cB zs && inB b 1 1000) = true then (tot zs zs.length + b - 1) / b else -1
def idT (zs ys : List Int) : Int := if (cB zs && cB ys) = true then max (tot ys ys.length - tot zs zs.length) 0 else -1
theorem cB_bd {zs : List Int} (h : cB zs = true) (k : Nat) (hk : k ≤ zs.length) : 0 ≤ tot zs k ∧ tot zs k ≤ 12000 := by
  obtain ⟨h1, h2⟩ := cB_iff.1 h
  have := tot_ge zs 0 1000 h2 k hk
  omega
theorem cB_all {zs : List Int} (h : cB zs = true) : AllB zs (-1000000) 1000000 := (cB_iff.1 h).2.mono (by omega) (by omega)
set_option maxHeartbeats 1000000 in
theorem sFramesNeeded_any (A : Option Addr) (n c : Nat) (zs : List Int) (b : Int) (B : Nat) (w : World) (h : Rd w B A n zs) (hn : n ≤ 2000000) :
    Calls Try.prog 14 #[.slice A n c, .int .i64 b] w fun e w' => e = .returned (.int .i64 (frN zs b)) ∧ w = w' := by
  have H := Lib.hid h
  clear h
  have hnil : cB [] = true := by decide
  cases hb : cB zs <;> cases hr : inB b 1 1000
  · go_enter Try.func14, Try.ntmps14
    go_wp2_with (go_at_call 32; ((with_reducible refine (validCosts_any A none n c 0 0 zs [] _ 0 _ H.out (Rd.nil _ _ _) hn (by omega)).mono ?_); rintro e w' ⟨rfl, rfl⟩))
    go_ret
    exact ⟨ret_int (by simp [frN, hb]), rfl⟩
  · go_enter Try.func14, Try.ntmps14
    go_wp2_with (go_at_call 32; ((with_reducible refine (validCosts_any A none n c 0 0 zs [] _ 0 _ H.out (Rd.nil _ _ _) hn (by omega)).mono ?_); rintro e w' ⟨rfl, rfl⟩))
    go_ret
    exact ⟨ret_int (by simp [frN, hb]), rfl⟩
  · go_enter Try.func14, Try.ntmps14
    go_wp2_with (first
      | (go_at_call 32; ((with_reducible refine (validCosts_any A none n c 0 0 zs [] _ 0 _ H.out (Rd.nil _ _ _) hn (by omega)).mono ?_); rintro e w' ⟨rfl, rfl⟩))
      | (go_at_call 33; ((with_reducible refine (inRange_any _ _ _ _).mono ?_); rintro e w' ⟨rfl, rfl⟩)))
    go_ret
    exact ⟨ret_int (by simp [frN, hb, hr]), rfl⟩
  · obtain ⟨t0, t1⟩ := cB_bd hb n (by rw [H.out.1]; omega)
    obtain ⟨b0, b1⟩ := inB_iff.1 hr
    have HA := Lib.hid (cB_all hb)
    go_enter Try.func14, Try.ntmps14
    go_wp2_with (first
      | (go_at_call 32; ((with_reducible refine (validCosts_any A none n c 0 0 zs [] _ 0 _ H.out (Rd.nil _ _ _) hn (by omega)).mono ?_); rintro e w' ⟨rfl, rfl⟩))
      | (go_at_call 33; ((with_reducible refine (inRange_any _ _ _ _).mono ?_); rintro e w' ⟨rfl, rfl⟩))
      | (go_at_call 34; ((with_reducible refine (ssum_any A n c zs _ _ H.out hn HA.out).mono ?_); rintro e w' ⟨rfl, rfl⟩)))
    go_ret
    exact ⟨ret_int (by simp [frN, hb, hr, H.out.1]), rfl⟩
set_option maxHeartbeats 1000000 in
theorem iFramesNeeded_any (A : Option Addr) (n c : Nat) (zs : List Int) (b : Int) (w : World) (h : Rd w w.heap.size A n zs) (hn : n ≤ 2000000) :
    Calls Try.prog 16 #[.slice A n c, .int .i64 b] w fun e w' => e = .returned (.int .i64 (frN zs b)) ∧ Below w.heap.size w w' := by
  have H := Lib.hid h
  clear h
  cases hb : cB zs
  · go_enter Try.func16, Try.ntmps16
    go_wp2_with (go_at_call 35; ((with_reducible refine (costsOk_any A n c zs _ H.out hn).mono ?_); rintro e w1 ⟨rfl, hb1⟩; have HB := Lib.hid hb1; clear hb1))
    go_ret
    exact ⟨ret_int (by simp [frN, hb]), HB.out⟩
  · cases hr : inB b 1 1000
    · go_enter Try.func16, Try.ntmps16
      go_wp2_with (first
        | (go_at_call 35; ((with_reducible refine (costsOk_any A n c zs _ H.out hn).mono ?_); rintro e w1 ⟨rfl, hb1⟩; have HB := Lib.hid hb1; clear hb1))
        | (go_at_call 36; ((with_reducible refine (within_any _ _ _ _).mono ?_); rintro e w' ⟨rfl, rfl⟩)))
      go_ret
      exact ⟨ret_int (by simp [frN, hr]), HB.out⟩
    · obtain ⟨t0, t1⟩ := cB_bd hb n (by rw [H.out.1]; omega)
      obtain ⟨b0, b1⟩ := inB_iff.1 hr
      have HA := Lib.hid (cB_all hb)
      go_enter Try.func16, Try.ntmps16
      go_wp2_with (first
        | (go_at_call 35; ((with_reducible refine (costsOk_any A n c zs _ H.out hn).mono ?_); rintro e w1 ⟨rfl, hb1⟩; have HB := Lib.hid hb1; clear hb1))
        | (go_at_call 36; ((with_reducible refine (within_any _ _ _ _).mono ?_); rintro e w' ⟨rfl, rfl⟩))
        | (go_at_call 37; ((with_reducible refine (total_any A n c zs _ _ (H.out.below HB.out) hn HA.out).mono ?_); rintro e w' ⟨rfl, rfl⟩)))
      go_ret
      exact ⟨ret_int (by simp [frN, hb, hr, H.out.1]), HB.out⟩
set_option maxHeartbeats 1000000 in
theorem sIdleTime_any (A A' : Option Addr) (n c m c' : Nat) (zs ys : List Int) (B B' : Nat) (w : World) (h : Rd w B A n zs) (h' : Rd w B' A' m ys) (hn : n ≤ 2000000) (hm : m ≤ 2000000) :
    Calls Try.prog 18 #[.slice A n c, .slice A' m c'] w fun e w' => e = .returned (.int .i64 (idT zs ys)) ∧ w = w' := by
  have H := Lib.hid h
  have H' := Lib.hid h'
  clear h h'
  cases hv : (cB zs && cB ys)
  · go_enter Try.func18, Try.ntmps18
    go_wp2_with (go_at_call 32; ((with_reducible refine (validCosts_any A A' n c m c' zs ys _ _ _ H.out H'.out hn hm).mono ?_); rintro e w' ⟨rfl, rfl⟩))
    go_ret
    exact ⟨ret_int (by simp [idT, hv]), rfl⟩
  · obtain ⟨hz, hy⟩ := Bool.and_eq_true_iff.1 hv
    obtain ⟨t0, t1⟩ := cB_bd hz n (by rw [H.out.1]; omega)
    obtain ⟨s0, s1⟩ := cB_bd hy m (by rw [H'.out.1]; omega)
    have HA := Lib.hid (cB_all hz)
    have HA' := Lib.hid (cB_all hy)
    go_enter Try.func18, Try.ntmps18
    go_wp2_with (first
      | (go_at_call 32; ((with_reducible refine (validCosts_any A A' n c m c' zs ys _ _ _ H.out H'.out hn hm).mono ?_); rintro e w' ⟨rfl, rfl⟩))
      | (go_at_call 34; ((with_reducible refine (ssum_any A' m c' ys _ _ H'.out hm HA'.out).mono ?_); rintro e w' ⟨rfl, rfl⟩))
      | (go_at_call 34; ((with_reducible refine (ssum_any A n c zs _ _ H.out hn HA.out).mono ?_); rintro e w' ⟨rfl, rfl⟩)))
    all_goals go_ret
    all_goals exact ⟨ret_int (by unfold idT; rw [hv, H.out.1, H'.out.1, if_pos rfl]; omega), rfl⟩
set_option maxHeartbeats 1000000 in
theorem iIdleTime_any (A A' : Option Addr) (n c m c' : Nat) (zs ys : List Int) (w : World) (h : Rd w w.heap.size A n zs) (h' : Rd w w.heap.size A' m ys) (hn : n ≤ 2000000) (hm : m ≤ 2000000) :
    Calls Try.prog 19 #[.slice A n c, .slice A' m c'] w fun e w' => e = .returned (.int .i64 (idT zs ys)) ∧ Below w.heap.size w w' := by
  have H := Lib.hid h
  have H' := Lib.hid h'
  clear h h'
  cases hv : (cB zs && cB ys)
  · go_enter Try.func19, Try.ntmps19
    go_wp2_with (go_at_call 38; ((with_reducible refine (workOk_any A A' n c m c' zs ys _ H.out H'.out hn hm).mono ?_); rintro e w1 ⟨rfl, hb1⟩; have HB := Lib.hid hb1; clear hb1))
    go_ret
    exact ⟨ret_int (by simp [idT, hv]), HB.out⟩
  · obtain ⟨hz, hy⟩ := Bool.and_eq_true_iff.1 hv
    obtain ⟨t0, t1⟩ := cB_bd hz n (by rw [H.out.1]; omega)
    obtain ⟨s0, s1⟩ := cB_bd hy m (by rw [H'.out.1]; omega)
    have HA := Lib.hid (cB_all hz)
    have HA' := Lib.hid (cB_all hy)
    go_enter Try.func19, Try.ntmps19
    go_wp2_with (first
      | (go_at_call 38; ((with_reducible refine (workOk_any A A' n c m c' zs ys _ H.out H'.out hn hm).mono ?_); rintro e w1 ⟨rfl, hb1⟩; have HB := Lib.hid hb1; clear hb1))
      | (go_at_call 37; ((with_reducible refine (total_any A' m c' ys _ _ (H'.out.below HB.out) hm HA'.out).mono ?_); rintro e w' ⟨rfl, rfl⟩))
      | (go_at_call 37; ((with_reducible refine (total_any A n c zs _ _ (H.out.below HB.out) hn HA.out).mono ?_); rintro e w' ⟨rfl, rfl⟩)))
    all_goals go_ret
    all_goals exact ⟨ret_int (by unfold idT; rw [hv, H.out.1, H'.out.1, if_pos rfl]), HB.out⟩
end Go.Proofs.Ytbodefholknneaa
