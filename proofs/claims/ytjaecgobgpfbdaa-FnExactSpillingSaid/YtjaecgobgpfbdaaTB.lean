/- Valid boxes, by the program and by the reference. -/
import Derived.Test.YtjaecgobgpfbdaaTA
import Derived.Test.YtjaecgobgpfbdaaBI
import Derived.Test.YtjaecgobgpfbdaaGA
namespace Go.Proofs.Ytjaecgobgpfbdaa
open Go.RowKit

theorem stB_in (x1 x2 x3 x4 x5 x6 x7 x8 : Int) : stB x1 x2 x3 x4 x5 x6 x7 x8 = (((((((inB x1 0 3 && inB x2 0 (if x1 = 0 then 100 else 0)) && inB x3 0 (if x1 = 0 then 100 else 0)) && inB x4 0 50) && inB x5 0 50) && inB x6 0 10) && inB x7 0 10) && inB x8 0 3) := by
  rw [Bool.eq_iff_iff, stB_iff]
  simp only [Bool.and_eq_true, inB_iff, and_assoc]
theorem stB_spec (x1 x2 x3 x4 x5 x6 x7 x8 : Int) : stB x1 x2 x3 x4 x5 x6 x7 x8 = ((((((((inB x1 0 3 && inB x2 0 100) && inB x3 0 100) && inB x4 0 50) && inB x5 0 50) && inB x6 0 10) && inB x7 0 10) && inB x8 0 3) && (x1 == 0 || (x2 == 0 && x3 == 0))) := by
  rw [Bool.eq_iff_iff, stB_iff]
  simp only [Bool.and_eq_true, Bool.or_eq_true, inB_iff, beq_iff_eq]
  by_cases h : x1 = 0
  · rw [if_pos h]; omega
  · rw [if_neg h]; omega
set_option maxHeartbeats 400000 in
theorem edgeOk_any (n : Int) (w : World) : Calls Try.prog 78 #[.int .i64 n] w fun e w' => e = .returned (.bool (inB n 0 50)) ∧ w = w' := by
  go_enter Try.func78, Try.ntmps78
  go_wp2_with (go_at_call 51; ((with_reducible refine (within_any _ _ _ _).mono ?_); rintro e w' ⟨rfl, rfl⟩))
  go_ret
  exact ⟨rfl, rfl⟩
set_option maxHeartbeats 400000 in
theorem justifyOk_any (n : Int) (w : World) : Calls Try.prog 79 #[.int .i64 n] w fun e w' => e = .returned (.bool (inB n 0 3)) ∧ w = w' := by
  go_enter Try.func79, Try.ntmps79
  go_wp2_with (go_at_call 51; ((with_reducible refine (within_any _ _ _ _).mono ?_); rintro e w' ⟨rfl, rfl⟩))
  go_ret
  exact ⟨rfl, rfl⟩
set_option maxHeartbeats 2000000 in
theorem styled0 (x0 x1 x2 x3 x4 x5 x6 x7 x8 : Int) (w : World) (e : x1 = 0) :
    Calls Try.prog 59 #[.agg #[.int .i64 x0, .int .i64 x1, .int .i64 x2, .int .i64 x3, .int .i64 x4, .int .i64 x5, .int .i64 x6, .int .i64 x7, .int .i64 x8]] w fun e w' => e = .returned (.bool (stB x1 x2 x3 x4 x5 x6 x7 x8)) ∧ Below w.heap.size w w' := by
  subst e
  have e : inB (0 : Int) 0 3 = true := rfl
  cases h0 : inB x2 0 100
  · go_enter Try.func59, Try.ntmps59
    go_wp2_with (first | (go_at_call 51; ((with_reducible refine (within_any _ _ _ _).mono ?_); rintro e w' ⟨rfl, rfl⟩)) | (go_at_call 78; ((with_reducible refine (edgeOk_any _ _).mono ?_); rintro e w' ⟨rfl, rfl⟩)) | (go_at_call 79; ((with_reducible refine (justifyOk_any _ _).mono ?_); rintro e w' ⟨rfl, rfl⟩)))
    go_ret
    exact ⟨ret_bool (by rw [stB_in]; simp [h0, e]), (Below.refl _ _).alloc (Nat.le_refl _) _⟩
  · skip
    cases h1 : inB x3 0 100
    · go_enter Try.func59, Try.ntmps59
      go_wp2_with (first | (go_at_call 51; ((with_reducible refine (within_any _ _ _ _).mono ?_); rintro e w' ⟨rfl, rfl⟩)) | (go_at_call 78; ((with_reducible refine (edgeOk_any _ _).mono ?_); rintro e w' ⟨rfl, rfl⟩)) | (go_at_call 79; ((with_reducible refine (justifyOk_any _ _).mono ?_); rintro e w' ⟨rfl, rfl⟩)))
      go_ret
      exact ⟨ret_bool (by rw [stB_in]; simp [h0, h1, e]), (Below.refl _ _).alloc (Nat.le_refl _) _⟩
    · skip
      cases h2 : inB x4 0 50
      · go_enter Try.func59, Try.ntmps59
        go_wp2_with (first | (go_at_call 51; ((with_reducible refine (within_any _ _ _ _).mono ?_); rintro e w' ⟨rfl, rfl⟩)) | (go_at_call 78; ((with_reducible refine (edgeOk_any _ _).mono ?_); rintro e w' ⟨rfl, rfl⟩)) | (go_at_call 79; ((with_reducible refine (justifyOk_any _ _).mono ?_); rintro e w' ⟨rfl, rfl⟩)))
        go_ret
        exact ⟨ret_bool (by rw [stB_in]; simp [h0, h1, h2, e]), (Below.refl _ _).alloc (Nat.le_refl _) _⟩
      · skip
        cases h3 : inB x5 0 50
        · go_enter Try.func59, Try.ntmps59
          go_wp2_with (first | (go_at_call 51; ((with_reducible refine (within_any _ _ _ _).mono ?_); rintro e w' ⟨rfl, rfl⟩)) | (go_at_call 78; ((with_reducible refine (edgeOk_any _ _).mono ?_); rintro e w' ⟨rfl, rfl⟩)) | (go_at_call 79; ((with_reducible refine (justifyOk_any _ _).mono ?_); rintro e w' ⟨rfl, rfl⟩)))
          go_ret
          exact ⟨ret_bool (by rw [stB_in]; simp [h0, h1, h2, h3, e]), (Below.refl _ _).alloc (Nat.le_refl _) _⟩
        · skip
          cases h4 : inB x6 0 10
          · go_enter Try.func59, Try.ntmps59
            go_wp2_with (first | (go_at_call 51; ((with_reducible refine (within_any _ _ _ _).mono ?_); rintro e w' ⟨rfl, rfl⟩)) | (go_at_call 78; ((with_reducible refine (edgeOk_any _ _).mono ?_); rintro e w' ⟨rfl, rfl⟩)) | (go_at_call 79; ((with_reducible refine (justifyOk_any _ _).mono ?_); rintro e w' ⟨rfl, rfl⟩)))
            go_ret
            exact ⟨ret_bool (by rw [stB_in]; simp [h0, h1, h2, h3, h4, e]), (Below.refl _ _).alloc (Nat.le_refl _) _⟩
          · skip
            cases h5 : inB x7 0 10
            · go_enter Try.func59, Try.ntmps59
              go_wp2_with (first | (go_at_call 51; ((with_reducible refine (within_any _ _ _ _).mono ?_); rintro e w' ⟨rfl, rfl⟩)) | (go_at_call 78; ((with_reducible refine (edgeOk_any _ _).mono ?_); rintro e w' ⟨rfl, rfl⟩)) | (go_at_call 79; ((with_reducible refine (justifyOk_any _ _).mono ?_); rintro e w' ⟨rfl, rfl⟩)))
              go_ret
              exact ⟨ret_bool (by rw [stB_in]; simp [h0, h1, h2, h3, h4, h5, e]), (Below.refl _ _).alloc (Nat.le_refl _) _⟩
            · skip
              cases h6 : inB x8 0 3
              · go_enter Try.func59, Try.ntmps59
                go_wp2_with (first | (go_at_call 51; ((with_reducible refine (within_any _ _ _ _).mono ?_); rintro e w' ⟨rfl, rfl⟩)) | (go_at_call 78; ((with_reducible refine (edgeOk_any _ _).mono ?_); rintro e w' ⟨rfl, rfl⟩)) | (go_at_call 79; ((with_reducible refine (justifyOk_any _ _).mono ?_); rintro e w' ⟨rfl, rfl⟩)))
                go_ret
                exact ⟨ret_bool (by rw [stB_in]; simp [h0, h1, h2, h3, h4, h5, h6, e]), (Below.refl _ _).alloc (Nat.le_refl _) _⟩
              · skip
                go_enter Try.func59, Try.ntmps59
                go_wp2_with (first | (go_at_call 51; ((with_reducible refine (within_any _ _ _ _).mono ?_); rintro e w' ⟨rfl, rfl⟩)) | (go_at_call 78; ((with_reducible refine (edgeOk_any _ _).mono ?_); rintro e w' ⟨rfl, rfl⟩)) | (go_at_call 79; ((with_reducible refine (justifyOk_any _ _).mono ?_); rintro e w' ⟨rfl, rfl⟩)))
                go_ret
                exact ⟨ret_bool (by rw [stB_in]; simp [h0, h1, h2, h3, h4, h5, h6, e]), (Below.refl _ _).alloc (Nat.le_refl _) _⟩
set_option maxHeartbeats 2000000 in
theorem styled1 (x0 x1 x2 x3 x4 x5 x6 x7 x8 : Int) (w : World) (e : ¬ x1 = 0) :
    Calls Try.prog 59 #[.agg #[.int .i64 x0, .int .i64 x1, .int .i64 x2, .int .i64 x3, .int .i64 x4, .int .i64 x5, .int .i64 x6, .int .i64 x7, .int .i64 x8]] w fun e w' => e = .returned (.bool (stB x1 x2 x3 x4 x5 x6 x7 x8)) ∧ Below w.heap.size w w' := by
  cases h0 : inB x1 0 3
  · go_enter Try.func59, Try.ntmps59
    go_wp2_with (first | (go_at_call 51; ((with_reducible refine (within_any _ _ _ _).mono ?_); rintro e w' ⟨rfl, rfl⟩)) | (go_at_call 78; ((with_reducible refine (edgeOk_any _ _).mono ?_); rintro e w' ⟨rfl, rfl⟩)) | (go_at_call 79; ((with_reducible refine (justifyOk_any _ _).mono ?_); rintro e w' ⟨rfl, rfl⟩)))
    go_ret
    exact ⟨ret_bool (by rw [stB_in]; simp [h0, e]), (Below.refl _ _).alloc (Nat.le_refl _) _⟩
  · skip
    cases h1 : inB x2 0 0
    · go_enter Try.func59, Try.ntmps59
      go_wp2_with (first | (go_at_call 51; ((with_reducible refine (within_any _ _ _ _).mono ?_); rintro e w' ⟨rfl, rfl⟩)) | (go_at_call 78; ((with_reducible refine (edgeOk_any _ _).mono ?_); rintro e w' ⟨rfl, rfl⟩)) | (go_at_call 79; ((with_reducible refine (justifyOk_any _ _).mono ?_); rintro e w' ⟨rfl, rfl⟩)))
      go_ret
      exact ⟨ret_bool (by rw [stB_in]; simp [h0, h1, e]), (Below.refl _ _).alloc (Nat.le_refl _) _⟩
    · skip
      cases h2 : inB x3 0 0
      · go_enter Try.func59, Try.ntmps59
        go_wp2_with (first | (go_at_call 51; ((with_reducible refine (within_any _ _ _ _).mono ?_); rintro e w' ⟨rfl, rfl⟩)) | (go_at_call 78; ((with_reducible refine (edgeOk_any _ _).mono ?_); rintro e w' ⟨rfl, rfl⟩)) | (go_at_call 79; ((with_reducible refine (justifyOk_any _ _).mono ?_); rintro e w' ⟨rfl, rfl⟩)))
        go_ret
        exact ⟨ret_bool (by rw [stB_in]; simp [h0, h1, h2, e]), (Below.refl _ _).alloc (Nat.le_refl _) _⟩
      · skip
        cases h3 : inB x4 0 50
        · go_enter Try.func59, Try.ntmps59
          go_wp2_with (first | (go_at_call 51; ((with_reducible refine (within_any _ _ _ _).mono ?_); rintro e w' ⟨rfl, rfl⟩)) | (go_at_call 78; ((with_reducible refine (edgeOk_any _ _).mono ?_); rintro e w' ⟨rfl, rfl⟩)) | (go_at_call 79; ((with_reducible refine (justifyOk_any _ _).mono ?_); rintro e w' ⟨rfl, rfl⟩)))
          go_ret
          exact ⟨ret_bool (by rw [stB_in]; simp [h0, h1, h2, h3, e]), (Below.refl _ _).alloc (Nat.le_refl _) _⟩
        · skip
          cases h4 : inB x5 0 50
          · go_enter Try.func59, Try.ntmps59
            go_wp2_with (first | (go_at_call 51; ((with_reducible refine (within_any _ _ _ _).mono ?_); rintro e w' ⟨rfl, rfl⟩)) | (go_at_call 78; ((with_reducible refine (edgeOk_any _ _).mono ?_); rintro e w' ⟨rfl, rfl⟩)) | (go_at_call 79; ((with_reducible refine (justifyOk_any _ _).mono ?_); rintro e w' ⟨rfl, rfl⟩)))
            go_ret
            exact ⟨ret_bool (by rw [stB_in]; simp [h0, h1, h2, h3, h4, e]), (Below.refl _ _).alloc (Nat.le_refl _) _⟩
          · skip
            cases h5 : inB x6 0 10
            · go_enter Try.func59, Try.ntmps59
              go_wp2_with (first | (go_at_call 51; ((with_reducible refine (within_any _ _ _ _).mono ?_); rintro e w' ⟨rfl, rfl⟩)) | (go_at_call 78; ((with_reducible refine (edgeOk_any _ _).mono ?_); rintro e w' ⟨rfl, rfl⟩)) | (go_at_call 79; ((with_reducible refine (justifyOk_any _ _).mono ?_); rintro e w' ⟨rfl, rfl⟩)))
              go_ret
              exact ⟨ret_bool (by rw [stB_in]; simp [h0, h1, h2, h3, h4, h5, e]), (Below.refl _ _).alloc (Nat.le_refl _) _⟩
            · skip
              cases h6 : inB x7 0 10
              · go_enter Try.func59, Try.ntmps59
                go_wp2_with (first | (go_at_call 51; ((with_reducible refine (within_any _ _ _ _).mono ?_); rintro e w' ⟨rfl, rfl⟩)) | (go_at_call 78; ((with_reducible refine (edgeOk_any _ _).mono ?_); rintro e w' ⟨rfl, rfl⟩)) | (go_at_call 79; ((with_reducible refine (justifyOk_any _ _).mono ?_); rintro e w' ⟨rfl, rfl⟩)))
                go_ret
                exact ⟨ret_bool (by rw [stB_in]; simp [h0, h1, h2, h3, h4, h5, h6, e]), (Below.refl _ _).alloc (Nat.le_refl _) _⟩
              · skip
                cases h7 : inB x8 0 3
                · go_enter Try.func59, Try.ntmps59
                  go_wp2_with (first | (go_at_call 51; ((with_reducible refine (within_any _ _ _ _).mono ?_); rintro e w' ⟨rfl, rfl⟩)) | (go_at_call 78; ((with_reducible refine (edgeOk_any _ _).mono ?_); rintro e w' ⟨rfl, rfl⟩)) | (go_at_call 79; ((with_reducible refine (justifyOk_any _ _).mono ?_); rintro e w' ⟨rfl, rfl⟩)))
                  go_ret
                  exact ⟨ret_bool (by rw [stB_in]; simp [h0, h1, h2, h3, h4, h5, h6, h7, e]), (Below.refl _ _).alloc (Nat.le_refl _) _⟩
                · skip
                  go_enter Try.func59, Try.ntmps59
                  go_wp2_with (first | (go_at_call 51; ((with_reducible refine (within_any _ _ _ _).mono ?_); rintro e w' ⟨rfl, rfl⟩)) | (go_at_call 78; ((with_reducible refine (edgeOk_any _ _).mono ?_); rintro e w' ⟨rfl, rfl⟩)) | (go_at_call 79; ((with_reducible refine (justifyOk_any _ _).mono ?_); rintro e w' ⟨rfl, rfl⟩)))
                  go_ret
                  exact ⟨ret_bool (by rw [stB_in]; simp [h0, h1, h2, h3, h4, h5, h6, h7, e]), (Below.refl _ _).alloc (Nat.le_refl _) _⟩
theorem styled_any (x0 x1 x2 x3 x4 x5 x6 x7 x8 : Int) (w : World) :
    Calls Try.prog 59 #[.agg #[.int .i64 x0, .int .i64 x1, .int .i64 x2, .int .i64 x3, .int .i64 x4, .int .i64 x5, .int .i64 x6, .int .i64 x7, .int .i64 x8]] w fun e w' => e = .returned (.bool (stB x1 x2 x3 x4 x5 x6 x7 x8)) ∧ Below w.heap.size w w' := by
  by_cases e : x1 = 0
  · exact styled0 x0 x1 x2 x3 x4 x5 x6 x7 x8 w e
  · exact styled1 x0 x1 x2 x3 x4 x5 x6 x7 x8 w e
set_option maxHeartbeats 2000000 in
theorem svalidBox_any (x0 x1 x2 x3 x4 x5 x6 x7 x8 : Int) (w : World) :
    Calls Try.prog 75 #[.agg #[.int .i64 x0, .int .i64 x1, .int .i64 x2, .int .i64 x3, .int .i64 x4, .int .i64 x5, .int .i64 x6, .int .i64 x7, .int .i64 x8]] w fun e w' => e = .returned (.bool (stB x1 x2 x3 x4 x5 x6 x7 x8)) ∧ Below w.heap.size w w' := by
  cases h0 : inB x1 0 3
  · go_enter Try.func75, Try.ntmps75
    go_wp2_with (first | (go_at_call 49; ((with_reducible refine (inRange_any _ _ _ _).mono ?_); rintro e w' ⟨rfl, rfl⟩)))
    go_ret
    exact ⟨ret_bool (by rw [stB_spec]; simp [h0]), (Below.refl _ _).alloc (Nat.le_refl _) _⟩
  · skip
    cases h1 : inB x2 0 100
    · go_enter Try.func75, Try.ntmps75
      go_wp2_with (first | (go_at_call 49; ((with_reducible refine (inRange_any _ _ _ _).mono ?_); rintro e w' ⟨rfl, rfl⟩)))
      go_ret
      exact ⟨ret_bool (by rw [stB_spec]; simp [h0, h1]), (Below.refl _ _).alloc (Nat.le_refl _) _⟩
    · skip
      cases h2 : inB x3 0 100
      · go_enter Try.func75, Try.ntmps75
        go_wp2_with (first | (go_at_call 49; ((with_reducible refine (inRange_any _ _ _ _).mono ?_); rintro e w' ⟨rfl, rfl⟩)))
        go_ret
        exact ⟨ret_bool (by rw [stB_spec]; simp [h0, h1, h2]), (Below.refl _ _).alloc (Nat.le_refl _) _⟩
      · skip
        cases h3 : inB x4 0 50
        · go_enter Try.func75, Try.ntmps75
          go_wp2_with (first | (go_at_call 49; ((with_reducible refine (inRange_any _ _ _ _).mono ?_); rintro e w' ⟨rfl, rfl⟩)))
          go_ret
          exact ⟨ret_bool (by rw [stB_spec]; simp [h0, h1, h2, h3]), (Below.refl _ _).alloc (Nat.le_refl _) _⟩
        · skip
          cases h4 : inB x5 0 50
          · go_enter Try.func75, Try.ntmps75
            go_wp2_with (first | (go_at_call 49; ((with_reducible refine (inRange_any _ _ _ _).mono ?_); rintro e w' ⟨rfl, rfl⟩)))
            go_ret
            exact ⟨ret_bool (by rw [stB_spec]; simp [h0, h1, h2, h3, h4]), (Below.refl _ _).alloc (Nat.le_refl _) _⟩
          · skip
            cases h5 : inB x6 0 10
            · go_enter Try.func75, Try.ntmps75
              go_wp2_with (first | (go_at_call 49; ((with_reducible refine (inRange_any _ _ _ _).mono ?_); rintro e w' ⟨rfl, rfl⟩)))
              go_ret
              exact ⟨ret_bool (by rw [stB_spec]; simp [h0, h1, h2, h3, h4, h5]), (Below.refl _ _).alloc (Nat.le_refl _) _⟩
            · skip
              cases h6 : inB x7 0 10
              · go_enter Try.func75, Try.ntmps75
                go_wp2_with (first | (go_at_call 49; ((with_reducible refine (inRange_any _ _ _ _).mono ?_); rintro e w' ⟨rfl, rfl⟩)))
                go_ret
                exact ⟨ret_bool (by rw [stB_spec]; simp [h0, h1, h2, h3, h4, h5, h6]), (Below.refl _ _).alloc (Nat.le_refl _) _⟩
              · skip
                cases h7 : inB x8 0 3
                · go_enter Try.func75, Try.ntmps75
                  go_wp2_with (first | (go_at_call 49; ((with_reducible refine (inRange_any _ _ _ _).mono ?_); rintro e w' ⟨rfl, rfl⟩)))
                  go_ret
                  exact ⟨ret_bool (by rw [stB_spec]; simp [h0, h1, h2, h3, h4, h5, h6, h7]), (Below.refl _ _).alloc (Nat.le_refl _) _⟩
                · skip
                  by_cases e1 : x1 = 0
                  · go_enter Try.func75, Try.ntmps75
                    go_wp2_with (first | (go_at_call 49; ((with_reducible refine (inRange_any _ _ _ _).mono ?_); rintro e w' ⟨rfl, rfl⟩)))
                    go_ret
                    exact ⟨ret_bool (by rw [stB_spec]; subst e1; simp [h0, h1, h2, h3, h4, h5, h6, h7]), (Below.refl _ _).alloc (Nat.le_refl _) _⟩
                  by_cases e2 : x2 = 0
                  · go_enter Try.func75, Try.ntmps75
                    go_wp2_with (first | (go_at_call 49; ((with_reducible refine (inRange_any _ _ _ _).mono ?_); rintro e w' ⟨rfl, rfl⟩)))
                    go_ret
                    exact ⟨ret_bool (by rw [stB_spec]; subst e2; simp [h0, h1, h2, h3, h4, h5, h6, h7]), (Below.refl _ _).alloc (Nat.le_refl _) _⟩
                  go_enter Try.func75, Try.ntmps75
                  go_wp2_with (first | (go_at_call 49; ((with_reducible refine (inRange_any _ _ _ _).mono ?_); rintro e w' ⟨rfl, rfl⟩)))
                  go_ret
                  exact ⟨ret_bool (by rw [stB_spec]; simp [h0, h1, h2, h3, h4, h5, h6, h7, e1, e2]), (Below.refl _ _).alloc (Nat.le_refl _) _⟩
end Go.Proofs.Ytjaecgobgpfbdaa
