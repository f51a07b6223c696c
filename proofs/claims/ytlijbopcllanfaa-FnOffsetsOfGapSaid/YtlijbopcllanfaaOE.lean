/- OffsetsOf, by the program and by the reference. -/
import Derived.Test.YtlijbopcllanfaaOB
import Derived.Test.YtlijbopcllanfaaOC
import Derived.Test.YtlijbopcllanfaaSE
namespace Go.Proofs.Ytlijbopcllanfaa
open Go.RowKit

set_option maxHeartbeats 400000 in
theorem edgeOk_any (n : Int) (w : World) : Calls Try.prog 52 #[.int .i64 n] w fun e w' => e = .returned (.bool (inB n 0 50)) ∧ w = w' := by
  go_enter Try.func52, Try.ntmps52
  go_wp2_with (go_at_call 35; refine (within_any _ _ _ _).mono ?_; rintro e w' ⟨rfl, rfl⟩)
  go_ret
  exact ⟨rfl, rfl⟩
set_option maxHeartbeats 400000 in
theorem justifyOk_any (n : Int) (w : World) : Calls Try.prog 53 #[.int .i64 n] w fun e w' => e = .returned (.bool (inB n 0 3)) ∧ w = w' := by
  go_enter Try.func53, Try.ntmps53
  go_wp2_with (go_at_call 35; refine (within_any _ _ _ _).mono ?_; rintro e w' ⟨rfl, rfl⟩)
  go_ret
  exact ⟨rfl, rfl⟩
set_option maxHeartbeats 4000000 in
theorem sOffsetsOf_any (A : Option Addr) (n c : Nat) (zs : List Int) (sp gap j : Int) (w : World) (h : Rd w w.heap.size A n zs) (hn : n ≤ 2000000) :
    Calls Try.prog 30 #[.slice A n c, .int .i64 sp, .int .i64 gap, .int .i64 j] w (GotI w (ofL zs sp gap j)) := by
  have H := Lib.hid h
  have hl := Lib.hid h.1
  clear h
  cases h0 : inB (n : Int) 1 8
  · go_enter Try.func30, Try.ntmps30
    go_wp2_with (first
      | (go_at_call 42; ((with_reducible refine (inRange_any _ _ _ _).mono ?_); rintro e w' ⟨rfl, rfl⟩))
      | (go_at_call 43; ((with_reducible refine (sallIn_any A n c zs _ _ _ _ H.out hn).mono ?_); rintro e w' ⟨rfl, rfl⟩)))
    go_ret
    have e : ofL zs sp gap j = [] := by simp [ofL, ofV, hl.out, h0]
    rw [e]
    exact GotI.nil w (Below.refl _ _)
  · skip
    cases h1 : okB zs 0 10000
    · go_enter Try.func30, Try.ntmps30
      go_wp2_with (first
        | (go_at_call 42; ((with_reducible refine (inRange_any _ _ _ _).mono ?_); rintro e w' ⟨rfl, rfl⟩))
        | (go_at_call 43; ((with_reducible refine (sallIn_any A n c zs _ _ _ _ H.out hn).mono ?_); rintro e w' ⟨rfl, rfl⟩)))
      go_ret
      have e : ofL zs sp gap j = [] := by simp [ofL, ofV, hl.out, h0, h1]
      rw [e]
      exact GotI.nil w (Below.refl _ _)
    · skip
      cases h2 : inB sp 0 200000
      · go_enter Try.func30, Try.ntmps30
        go_wp2_with (first
          | (go_at_call 42; ((with_reducible refine (inRange_any _ _ _ _).mono ?_); rintro e w' ⟨rfl, rfl⟩))
          | (go_at_call 43; ((with_reducible refine (sallIn_any A n c zs _ _ _ _ H.out hn).mono ?_); rintro e w' ⟨rfl, rfl⟩)))
        go_ret
        have e : ofL zs sp gap j = [] := by simp [ofL, ofV, hl.out, h0, h1, h2]
        rw [e]
        exact GotI.nil w (Below.refl _ _)
      · skip
        cases h3 : inB gap 0 50
        · go_enter Try.func30, Try.ntmps30
          go_wp2_with (first
            | (go_at_call 42; ((with_reducible refine (inRange_any _ _ _ _).mono ?_); rintro e w' ⟨rfl, rfl⟩))
            | (go_at_call 43; ((with_reducible refine (sallIn_any A n c zs _ _ _ _ H.out hn).mono ?_); rintro e w' ⟨rfl, rfl⟩)))
          go_ret
          have e : ofL zs sp gap j = [] := by simp [ofL, ofV, hl.out, h0, h1, h2, h3]
          rw [e]
          exact GotI.nil w (Below.refl _ _)
        · skip
          cases h4 : inB j 0 3
          · go_enter Try.func30, Try.ntmps30
            go_wp2_with (first
              | (go_at_call 42; ((with_reducible refine (inRange_any _ _ _ _).mono ?_); rintro e w' ⟨rfl, rfl⟩))
              | (go_at_call 43; ((with_reducible refine (sallIn_any A n c zs _ _ _ _ H.out hn).mono ?_); rintro e w' ⟨rfl, rfl⟩)))
            go_ret
            have e : ofL zs sp gap j = [] := by simp [ofL, ofV, hl.out, h0, h1, h2, h3, h4]
            rw [e]
            exact GotI.nil w (Below.refl _ _)
          · skip
            have hV : ofV zs sp gap j = true := by simp [ofV, hl.out, h0, h1, h2, h3, h4]
            obtain ⟨⟨m0, m1⟩, ha, ⟨s0, s1⟩, ⟨g0, g1⟩, j0, j1⟩ := ofV_iff.1 hV
            rw [hl.out] at m0 m1
            have HA := Lib.hid ha
            clear ha
            go_enter Try.func30, Try.ntmps30
            go_wp2_with (first
              | (go_at_call 42; ((with_reducible refine (inRange_any _ _ _ _).mono ?_); rintro e w' ⟨rfl, rfl⟩))
              | (go_at_call 43; ((with_reducible refine (sallIn_any A n c zs _ _ _ _ H.out hn).mono ?_); rintro e w' ⟨rfl, rfl⟩))
              | (go_at_call 51; ((with_reducible refine (soffsets_any A n c zs sp gap j _ H.out m0 m1 HA.out s0 s1 g0 g1 j0 j1).mono ?_); rintro e w1 ⟨A1, n1, c1, rfl, hc1, hw1, hb1⟩)))
            go_ret
            have e : ofL zs sp gap j = mk n (ofF zs sp gap j) := by simp [ofL, hV, hl.out]
            rw [e]
            exact ⟨A1, n1, c1, rfl, hc1, hw1, hb1⟩
set_option maxHeartbeats 4000000 in
theorem iOffsetsOf_any (A : Option Addr) (n c : Nat) (zs : List Int) (sp gap j : Int) (w : World) (h : Rd w w.heap.size A n zs) (hn : n ≤ 2000000) :
    Calls Try.prog 31 #[.slice A n c, .int .i64 sp, .int .i64 gap, .int .i64 j] w (GotI w (ofL zs sp gap j)) := by
  have H := Lib.hid h
  have hl := Lib.hid h.1
  clear h
  cases h0 : inB (n : Int) 1 8
  · go_enter Try.func31, Try.ntmps31
    go_wp2_with (first
      | (go_at_call 35; ((with_reducible refine (within_any _ _ _ _).mono ?_); rintro e w' ⟨rfl, rfl⟩))
      | (go_at_call 45; ((with_reducible refine (sizeOk_any _ _).mono ?_); rintro e w' ⟨rfl, rfl⟩))
      | (go_at_call 52; ((with_reducible refine (edgeOk_any _ _).mono ?_); rintro e w' ⟨rfl, rfl⟩))
      | (go_at_call 53; ((with_reducible refine (justifyOk_any _ _).mono ?_); rintro e w' ⟨rfl, rfl⟩))
      | (go_at_call 46; ((with_reducible refine (allIn_any A n c zs _ _ _ H.out hn).mono ?_); rintro e w1 ⟨rfl, hb1⟩; have HB := Lib.hid hb1; clear hb1)))
    go_ret
    have e : ofL zs sp gap j = [] := by simp [ofL, ofV, hl.out, h0]
    rw [e]
    exact GotI.nil w (Below.refl _ _)
  · skip
    cases h1 : okB zs 0 10000
    · go_enter Try.func31, Try.ntmps31
      go_wp2_with (first
        | (go_at_call 35; ((with_reducible refine (within_any _ _ _ _).mono ?_); rintro e w' ⟨rfl, rfl⟩))
        | (go_at_call 45; ((with_reducible refine (sizeOk_any _ _).mono ?_); rintro e w' ⟨rfl, rfl⟩))
        | (go_at_call 52; ((with_reducible refine (edgeOk_any _ _).mono ?_); rintro e w' ⟨rfl, rfl⟩))
        | (go_at_call 53; ((with_reducible refine (justifyOk_any _ _).mono ?_); rintro e w' ⟨rfl, rfl⟩))
        | (go_at_call 46; ((with_reducible refine (allIn_any A n c zs _ _ _ H.out hn).mono ?_); rintro e w1 ⟨rfl, hb1⟩; have HB := Lib.hid hb1; clear hb1)))
      go_ret
      have e : ofL zs sp gap j = [] := by simp [ofL, ofV, hl.out, h0, h1]
      rw [e]
      exact GotI.nil w HB.out
    · skip
      cases h2 : inB sp 0 200000
      · go_enter Try.func31, Try.ntmps31
        go_wp2_with (first
          | (go_at_call 35; ((with_reducible refine (within_any _ _ _ _).mono ?_); rintro e w' ⟨rfl, rfl⟩))
          | (go_at_call 45; ((with_reducible refine (sizeOk_any _ _).mono ?_); rintro e w' ⟨rfl, rfl⟩))
          | (go_at_call 52; ((with_reducible refine (edgeOk_any _ _).mono ?_); rintro e w' ⟨rfl, rfl⟩))
          | (go_at_call 53; ((with_reducible refine (justifyOk_any _ _).mono ?_); rintro e w' ⟨rfl, rfl⟩))
          | (go_at_call 46; ((with_reducible refine (allIn_any A n c zs _ _ _ H.out hn).mono ?_); rintro e w1 ⟨rfl, hb1⟩; have HB := Lib.hid hb1; clear hb1)))
        go_ret
        have e : ofL zs sp gap j = [] := by simp [ofL, ofV, hl.out, h0, h1, h2]
        rw [e]
        exact GotI.nil w HB.out
      · skip
        cases h3 : inB gap 0 50
        · go_enter Try.func31, Try.ntmps31
          go_wp2_with (first
            | (go_at_call 35; ((with_reducible refine (within_any _ _ _ _).mono ?_); rintro e w' ⟨rfl, rfl⟩))
            | (go_at_call 45; ((with_reducible refine (sizeOk_any _ _).mono ?_); rintro e w' ⟨rfl, rfl⟩))
            | (go_at_call 52; ((with_reducible refine (edgeOk_any _ _).mono ?_); rintro e w' ⟨rfl, rfl⟩))
            | (go_at_call 53; ((with_reducible refine (justifyOk_any _ _).mono ?_); rintro e w' ⟨rfl, rfl⟩))
            | (go_at_call 46; ((with_reducible refine (allIn_any A n c zs _ _ _ H.out hn).mono ?_); rintro e w1 ⟨rfl, hb1⟩; have HB := Lib.hid hb1; clear hb1)))
          go_ret
          have e : ofL zs sp gap j = [] := by simp [ofL, ofV, hl.out, h0, h1, h2, h3]
          rw [e]
          exact GotI.nil w HB.out
        · skip
          cases h4 : inB j 0 3
          · go_enter Try.func31, Try.ntmps31
            go_wp2_with (first
              | (go_at_call 35; ((with_reducible refine (within_any _ _ _ _).mono ?_); rintro e w' ⟨rfl, rfl⟩))
              | (go_at_call 45; ((with_reducible refine (sizeOk_any _ _).mono ?_); rintro e w' ⟨rfl, rfl⟩))
              | (go_at_call 52; ((with_reducible refine (edgeOk_any _ _).mono ?_); rintro e w' ⟨rfl, rfl⟩))
              | (go_at_call 53; ((with_reducible refine (justifyOk_any _ _).mono ?_); rintro e w' ⟨rfl, rfl⟩))
              | (go_at_call 46; ((with_reducible refine (allIn_any A n c zs _ _ _ H.out hn).mono ?_); rintro e w1 ⟨rfl, hb1⟩; have HB := Lib.hid hb1; clear hb1)))
            go_ret
            have e : ofL zs sp gap j = [] := by simp [ofL, ofV, hl.out, h0, h1, h2, h3, h4]
            rw [e]
            exact GotI.nil w HB.out
          · skip
            have hV : ofV zs sp gap j = true := by simp [ofV, hl.out, h0, h1, h2, h3, h4]
            obtain ⟨⟨m0, m1⟩, ha, ⟨s0, s1⟩, ⟨g0, g1⟩, j0, j1⟩ := ofV_iff.1 hV
            rw [hl.out] at m0 m1
            have HA := Lib.hid ha
            clear ha
            go_enter Try.func31, Try.ntmps31
            go_wp2_with (first
              | (go_at_call 35; ((with_reducible refine (within_any _ _ _ _).mono ?_); rintro e w' ⟨rfl, rfl⟩))
              | (go_at_call 45; ((with_reducible refine (sizeOk_any _ _).mono ?_); rintro e w' ⟨rfl, rfl⟩))
              | (go_at_call 52; ((with_reducible refine (edgeOk_any _ _).mono ?_); rintro e w' ⟨rfl, rfl⟩))
              | (go_at_call 53; ((with_reducible refine (justifyOk_any _ _).mono ?_); rintro e w' ⟨rfl, rfl⟩))
              | (go_at_call 46; ((with_reducible refine (allIn_any A n c zs _ _ _ H.out hn).mono ?_); rintro e w1 ⟨rfl, hb1⟩; have HB := Lib.hid hb1; clear hb1))
              | (go_at_call 54; ((with_reducible refine (offsets_any A n c zs sp gap j _ ((H.out.below HB.out).more HB.out.size) m0 m1 HA.out s0 s1 g0 g1 j0 j1).mono ?_); rintro e w2 ⟨A1, n1, c1, rfl, hc1, hw1, hb1⟩)))
            go_ret
            have e : ofL zs sp gap j = mk n (ofF zs sp gap j) := by simp [ofL, hV, hl.out]
            rw [e]
            exact ⟨A1, n1, c1, rfl, hc1, hw1.low HB.out.size, HB.out.trans (hb1.mono HB.out.size)⟩
end Go.Proofs.Ytlijbopcllanfaa
