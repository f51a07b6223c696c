/- ShareSpace, by the program and by the reference. -/
import Derived.Test.YtlijbopcllanfaaSC
import Derived.Test.YtlijbopcllanfaaSD
import Derived.Test.YtlijbopcllanfaaBK
namespace Go.Proofs.Ytlijbopcllanfaa
open Go.RowKit

def shV (sp : Int) (ws : List Int) : Bool := inB sp 0 200000 && (inB (ws.length : Int) 1 8 && okB ws 0 200000)
def shL (sp : Int) (ws : List Int) : List Int := if shV sp ws = true then shr sp ws else []
theorem shV_iff {sp : Int} {ws : List Int} : shV sp ws = true ↔ (0 ≤ sp ∧ sp ≤ 200000) ∧ (1 ≤ ws.length ∧ ws.length ≤ 8) ∧ AllB ws 0 200000 := by
  unfold shV; simp only [Bool.and_eq_true, inB_iff, okB_iff]
  constructor
  · rintro ⟨h1, h2, h3⟩; exact ⟨h1, by omega, h3⟩
  · rintro ⟨h1, h2, h3⟩; exact ⟨h1, by omega, h3⟩
set_option maxHeartbeats 400000 in
theorem sizeOk_any (n : Int) (w : World) : Calls Try.prog 45 #[.int .i64 n] w fun e w' => e = .returned (.bool (inB n 0 200000)) ∧ w = w' := by
  go_enter Try.func45, Try.ntmps45
  go_wp2_with (go_at_call 35; refine (within_any _ _ _ _).mono ?_; rintro e w' ⟨rfl, rfl⟩)
  go_ret
  exact ⟨rfl, rfl⟩
set_option maxHeartbeats 2000000 in
theorem sShareSpace_any (sp : Int) (A : Option Addr) (n c : Nat) (ws : List Int) (w : World) (h : Rd w w.heap.size A n ws) (hn : n ≤ 2000000) :
    Calls Try.prog 21 #[.int .i64 sp, .slice A n c] w (GotI w (shL sp ws)) := by
  have H := Lib.hid h
  have hl := Lib.hid h.1
  clear h
  cases h1 : inB sp 0 200000
  · go_enter Try.func21, Try.ntmps21
    go_wp2_with (go_at_call 42; ((with_reducible refine (inRange_any _ _ _ _).mono ?_); rintro e w' ⟨rfl, rfl⟩))
    go_ret
    have e : shL sp ws = [] := by simp [shL, shV, h1]
    rw [e]
    exact GotI.nil w (Below.refl _ _)
  · cases h2 : inB (n : Int) 1 8
    · go_enter Try.func21, Try.ntmps21
      go_wp2_with (go_at_call 42; ((with_reducible refine (inRange_any _ _ _ _).mono ?_); rintro e w' ⟨rfl, rfl⟩))
      go_ret
      have e : shL sp ws = [] := by simp [shL, shV, hl.out, h2]
      rw [e]
      exact GotI.nil w (Below.refl _ _)
    · cases h3 : okB ws 0 200000
      · go_enter Try.func21, Try.ntmps21
        go_wp2_with (first
          | (go_at_call 42; ((with_reducible refine (inRange_any _ _ _ _).mono ?_); rintro e w' ⟨rfl, rfl⟩))
          | (go_at_call 43; ((with_reducible refine (sallIn_any A n c ws _ _ _ _ H.out hn).mono ?_); rintro e w' ⟨rfl, rfl⟩)))
        go_ret
        have e : shL sp ws = [] := by simp [shL, shV, h3]
        rw [e]
        exact GotI.nil w (Below.refl _ _)
      · have hV : shV sp ws = true := by simp [shV, h1, hl.out, h2, h3]
        obtain ⟨⟨s0, s1⟩, ⟨m0, m1⟩, ha⟩ := shV_iff.1 hV
        rw [hl.out] at m0 m1
        have HA := Lib.hid ha
        clear ha
        go_enter Try.func21, Try.ntmps21
        go_wp2_with (first
          | (go_at_call 42; ((with_reducible refine (inRange_any _ _ _ _).mono ?_); rintro e w' ⟨rfl, rfl⟩))
          | (go_at_call 43; ((with_reducible refine (sallIn_any A n c ws _ _ _ _ H.out hn).mono ?_); rintro e w' ⟨rfl, rfl⟩))
          | (go_at_call 44; ((with_reducible refine (sshare_any sp A n c ws _ H.out (by omega) s0 s1 HA.out).mono ?_); rintro e w1 ⟨A1, n1, c1, rfl, hc1, hw1, hb1⟩)))
        go_ret
        have e : shL sp ws = shr sp ws := by simp [shL, hV]
        rw [e]
        exact ⟨A1, n1, c1, rfl, hc1, hw1, hb1⟩
set_option maxHeartbeats 2000000 in
theorem iShareSpace_any (sp : Int) (A : Option Addr) (n c : Nat) (ws : List Int) (w : World) (h : Rd w w.heap.size A n ws) (hn : n ≤ 2000000) :
    Calls Try.prog 23 #[.int .i64 sp, .slice A n c] w (GotI w (shL sp ws)) := by
  have H := Lib.hid h
  have hl := Lib.hid h.1
  clear h
  cases h1 : inB sp 0 200000
  · go_enter Try.func23, Try.ntmps23
    go_wp2_with (go_at_call 45; ((with_reducible refine (sizeOk_any _ _).mono ?_); rintro e w' ⟨rfl, rfl⟩))
    go_ret
    have e : shL sp ws = [] := by simp [shL, shV, h1]
    rw [e]
    exact GotI.nil w (Below.refl _ _)
  · cases h2 : inB (n : Int) 1 8
    · go_enter Try.func23, Try.ntmps23
      go_wp2_with (first
        | (go_at_call 45; ((with_reducible refine (sizeOk_any _ _).mono ?_); rintro e w' ⟨rfl, rfl⟩))
        | (go_at_call 35; ((with_reducible refine (within_any _ _ _ _).mono ?_); rintro e w' ⟨rfl, rfl⟩)))
      go_ret
      have e : shL sp ws = [] := by simp [shL, shV, hl.out, h2]
      rw [e]
      exact GotI.nil w (Below.refl _ _)
    · cases h3 : okB ws 0 200000
      · go_enter Try.func23, Try.ntmps23
        go_wp2_with (first
          | (go_at_call 45; ((with_reducible refine (sizeOk_any _ _).mono ?_); rintro e w' ⟨rfl, rfl⟩))
          | (go_at_call 35; ((with_reducible refine (within_any _ _ _ _).mono ?_); rintro e w' ⟨rfl, rfl⟩))
          | (go_at_call 46; ((with_reducible refine (allIn_any A n c ws _ _ _ H.out hn).mono ?_); rintro e w1 ⟨rfl, hb1⟩; have HB := Lib.hid hb1; clear hb1)))
        go_ret
        have e : shL sp ws = [] := by simp [shL, shV, h3]
        rw [e]
        exact GotI.nil w HB.out
      · have hV : shV sp ws = true := by simp [shV, h1, hl.out, h2, h3]
        obtain ⟨⟨s0, s1⟩, ⟨m0, m1⟩, ha⟩ := shV_iff.1 hV
        rw [hl.out] at m0 m1
        have HA := Lib.hid ha
        clear ha
        go_enter Try.func23, Try.ntmps23
        go_wp2_with (first
          | (go_at_call 45; ((with_reducible refine (sizeOk_any _ _).mono ?_); rintro e w' ⟨rfl, rfl⟩))
          | (go_at_call 35; ((with_reducible refine (within_any _ _ _ _).mono ?_); rintro e w' ⟨rfl, rfl⟩))
          | (go_at_call 46; ((with_reducible refine (allIn_any A n c ws _ _ _ H.out hn).mono ?_); rintro e w1 ⟨rfl, hb1⟩; have HB := Lib.hid hb1; clear hb1))
          | (go_at_call 47; ((with_reducible refine (share_any sp A n c ws _ ((H.out.below HB.out).more HB.out.size) (by omega) s0 s1 HA.out).mono ?_); rintro e w2 ⟨A1, n1, c1, rfl, hc1, hw1, hb1⟩)))
        go_ret
        have e : shL sp ws = shr sp ws := by simp [shL, hV]
        rw [e]
        exact ⟨A1, n1, c1, rfl, hc1, hw1.low HB.out.size, HB.out.trans (hb1.mono HB.out.size)⟩
theorem shL_len (sp : Int) (ws : List Int) : (shL sp ws).length ≤ ws.length := by unfold shL; split <;> simp [shr_len]
end Go.Proofs.Ytlijbopcllanfaa
