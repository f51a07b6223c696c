/- Points in rectangles: the walks. -/
import Derived.Test.YthbcdoblmflmbaaG6
import Derived.Test.YthbcdoblmflmbaaA
namespace Go.Proofs.Ythbcdoblmflmbaa
open Go.RowKit

theorem inR_v {x y a b p q : Int} (h : vR x y a b = false) : inR x y a b p q = false := by unfold inR; rw [h]; rfl
theorem inR_t {x y a b p q : Int} (h : vR x y a b = true) (h1 : x ≤ p) (h2 : p < x + a) (h3 : y ≤ q) (h4 : q < y + b) : inR x y a b p q = true := by unfold inR hasB; rw [h]; simp; omega
theorem inR_f {x y a b p q : Int} (h : ¬ (x ≤ p ∧ p < x + a ∧ y ≤ q ∧ q < y + b)) : inR x y a b p q = false := by
  rw [Bool.eq_false_iff]
  intro h1
  unfold inR hasB at h1
  simp only [Bool.and_eq_true, decide_eq_true_eq] at h1
  omega
theorem inR_move {x y a b p q : Int} (h : vR x y a b = true) (h2 : vR (x + 3) (y - 2) a b = true) : inR (x + 3) (y - 2) a b (p + 3) (q - 2) = inR x y a b p q := by
  unfold inR hasB
  rw [h, h2, Bool.true_and, Bool.true_and, Bool.eq_iff_iff]
  simp
  omega
set_option maxRecDepth 100000 in
set_option maxHeartbeats 8000000 in
theorem walkFnInRect (A : Option Addr) (n c : Nat) (zs : List Int) (w : World) (h : IsRow .u8 w A n c zs) :
    Calls Try.prog 3 #[.slice A n c] w fun e w' => e = .returned (.bool true) ∧ Below w.heap.size w w' := by
  have H := Lib.hid h
  have hn : (n : Int) ≤ 9223372036854775807 := by obtain ⟨h1, h2, _⟩ := bytes_of_row h; unfold maxLen at h2; omega
  clear h
  by_cases hl : (1048576 : Int) < n
  · go_enter Try.func3, Try.ntmps3
    go_wp2
    go_ret
    exact ⟨rfl, Below.refl _ _⟩
  go_enter Try.func3, Try.ntmps3
  go_wp2_with fail
  refine (DrawInRect_any _ _ _ _ _ H.out).mono ?_
  rintro e w1 ⟨x, y, a, b, p, q, rfl, ⟨⟨x0, x1⟩, ⟨y0, y1⟩, ⟨a0, a1⟩, b0, b1⟩, ⟨p0, p1⟩, ⟨q0, q1⟩, hb1⟩
  have B1 := Lib.hid ((hb1.alloc hb1.size (.cells #[.int .i64 x, .int .i64 y, .int .i64 a, .int .i64 b] 24)))
  have Z1 := Lib.hid (show Q4 w1.heap.size x y a b (w1.alloc (.cells #[.int .i64 x, .int .i64 y, .int .i64 a, .int .i64 b] 24)) from ⟨by simp [go_sem], by simp [go_sem], by simp [go_sem], by simp [go_sem], by simp [go_sem], by simp [go_sem], by simp [go_sem], by simp [go_sem]⟩)
  obtain ⟨R, hR⟩ : ∃ R, Hid (inR x y a b p q = R) := ⟨_, Lib.hid rfl⟩
  obtain ⟨V, hV⟩ : ∃ V, Hid (vR x y a b = V) := ⟨_, Lib.hid rfl⟩
  clear hb1
  cases V
  · skip
    go_wp2_with fail
    refine (iInRect_any x y a b p q _).mono ?_
    rintro e w2 ⟨rfl, hb⟩
    rw [hR.out]
    have B2 := Lib.hid (B1.out.trans (hb.mono B1.out.size))
    have Z2 := Lib.hid (Z1.out.keep (hb.block _ Z1.out.lt))
    clear hb
    try clear c0 c1 c2 c3
    have c0 := Z2.out.c0
    have c1 := Z2.out.c1
    have c2 := Z2.out.c2
    have c3 := Z2.out.c3
    go_wp2_with fail
    refine (sInRect_any x y a b p q _).mono ?_
    rintro e w3 ⟨rfl, hb⟩
    rw [hR.out]
    have B3 := Lib.hid (B2.out.trans (hb.mono B2.out.size))
    have Z3 := Lib.hid (Z2.out.keep (hb.block _ Z2.out.lt))
    clear hb
    try clear c0 c1 c2 c3
    have c0 := Z3.out.c0
    have c1 := Z3.out.c1
    have c2 := Z3.out.c2
    have c3 := Z3.out.c3
    go_wp2_with fail
    refine (iValidRect_any x y a b _).mono ?_
    rintro e w4 ⟨rfl, hb⟩
    rw [hV.out]
    have B4 := Lib.hid (B3.out.trans (hb.mono B3.out.size))
    have Z4 := Lib.hid (Z3.out.keep (hb.block _ Z3.out.lt))
    clear hb
    try clear c0 c1 c2 c3
    have c0 := Z4.out.c0
    have c1 := Z4.out.c1
    have c2 := Z4.out.c2
    have c3 := Z4.out.c3
    go_wp2_with fail
    refine (sInRect_any x y a b p q _).mono ?_
    rintro e w5 ⟨rfl, hb⟩
    rw [hR.out]
    have B5 := Lib.hid (B4.out.trans (hb.mono B4.out.size))
    have Z5 := Lib.hid (Z4.out.keep (hb.block _ Z4.out.lt))
    clear hb
    try clear c0 c1 c2 c3
    have c0 := Z5.out.c0
    have c1 := Z5.out.c1
    have c2 := Z5.out.c2
    have c3 := Z5.out.c3
    go_wp2
    go_ret
    exact ⟨ret_bool (by simp), B5.out⟩
  · obtain ⟨⟨v1, v2⟩, ⟨v3, v4⟩, ⟨v5, v6⟩, v7, v8⟩ := vR_iff.1 hV.out
    have HF1 : Hid (inR x y a b (x + a) y = false) := Lib.hid (inR_f (by omega))
    have HF2 : Hid (inR x y a b x (y + b) = false) := Lib.hid (inR_f (by omega))
    by_cases ha : 0 < a
    · have had : decide (0 < a) = true := by simpa using ha
      by_cases hb0 : 0 < b
      · have hbd : decide (0 < b) = true := by simpa using hb0
        have HS : Hid (inR x y a b x y = true) := Lib.hid (inR_t hV.out (by omega) (by omega) (by omega) (by omega))
        have HT : Hid (inR x y a b (x + a - 1) (y + b - 1) = true) := Lib.hid (inR_t hV.out (by omega) (by omega) (by omega) (by omega))
        go_wp2_with fail
        refine (iInRect_any x y a b p q _).mono ?_
        rintro e w2 ⟨rfl, hb⟩
        rw [hR.out]
        have B2 := Lib.hid (B1.out.trans (hb.mono B1.out.size))
        have Z2 := Lib.hid (Z1.out.keep (hb.block _ Z1.out.lt))
        clear hb
        try clear c0 c1 c2 c3
        have c0 := Z2.out.c0
        have c1 := Z2.out.c1
        have c2 := Z2.out.c2
        have c3 := Z2.out.c3
        go_wp2_with fail
        refine (sInRect_any x y a b p q _).mono ?_
        rintro e w3 ⟨rfl, hb⟩
        rw [hR.out]
        have B3 := Lib.hid (B2.out.trans (hb.mono B2.out.size))
        have Z3 := Lib.hid (Z2.out.keep (hb.block _ Z2.out.lt))
        clear hb
        try clear c0 c1 c2 c3
        have c0 := Z3.out.c0
        have c1 := Z3.out.c1
        have c2 := Z3.out.c2
        have c3 := Z3.out.c3
        go_wp2_with fail
        refine (iValidRect_any x y a b _).mono ?_
        rintro e w4 ⟨rfl, hb⟩
        rw [hV.out]
        have B4 := Lib.hid (B3.out.trans (hb.mono B3.out.size))
        have Z4 := Lib.hid (Z3.out.keep (hb.block _ Z3.out.lt))
        clear hb
        try clear c0 c1 c2 c3
        have c0 := Z4.out.c0
        have c1 := Z4.out.c1
        have c2 := Z4.out.c2
        have c3 := Z4.out.c3
        go_wp2_with fail
        refine (iInRect_any x y a b x y _).mono ?_
        rintro e w5 ⟨rfl, hb⟩
        rw [HS.out]
        have B5 := Lib.hid (B4.out.trans (hb.mono B4.out.size))
        have Z5 := Lib.hid (Z4.out.keep (hb.block _ Z4.out.lt))
        clear hb
        try clear c0 c1 c2 c3
        have c0 := Z5.out.c0
        have c1 := Z5.out.c1
        have c2 := Z5.out.c2
        have c3 := Z5.out.c3
        go_wp2_with fail
        refine (iInRect_any x y a b (x + a) y _).mono ?_
        rintro e w6 ⟨rfl, hb⟩
        rw [HF1.out]
        have B6 := Lib.hid (B5.out.trans (hb.mono B5.out.size))
        have Z6 := Lib.hid (Z5.out.keep (hb.block _ Z5.out.lt))
        clear hb
        try clear c0 c1 c2 c3
        have c0 := Z6.out.c0
        have c1 := Z6.out.c1
        have c2 := Z6.out.c2
        have c3 := Z6.out.c3
        go_wp2_with fail
        refine (iInRect_any x y a b x (y + b) _).mono ?_
        rintro e w7 ⟨rfl, hb⟩
        rw [HF2.out]
        have B7 := Lib.hid (B6.out.trans (hb.mono B6.out.size))
        have Z7 := Lib.hid (Z6.out.keep (hb.block _ Z6.out.lt))
        clear hb
        try clear c0 c1 c2 c3
        have c0 := Z7.out.c0
        have c1 := Z7.out.c1
        have c2 := Z7.out.c2
        have c3 := Z7.out.c3
        go_wp2_with fail
        refine (iInRect_any x y a b (x + a - 1) (y + b - 1) _).mono ?_
        rintro e w8 ⟨rfl, hb⟩
        rw [HT.out]
        have B8 := Lib.hid (B7.out.trans (hb.mono B7.out.size))
        have Z8 := Lib.hid (Z7.out.keep (hb.block _ Z7.out.lt))
        clear hb
        try clear c0 c1 c2 c3
        have c0 := Z8.out.c0
        have c1 := Z8.out.c1
        have c2 := Z8.out.c2
        have c3 := Z8.out.c3
        go_wp2
        go_ret
        exact ⟨rfl, B8.out⟩
      · have hbd : decide (0 < b) = false := by simpa using hb0
        have HS : Hid (inR x y a b x y = false) := Lib.hid (inR_f (by omega))
        go_wp2_with fail
        refine (iInRect_any x y a b p q _).mono ?_
        rintro e w2 ⟨rfl, hb⟩
        rw [hR.out]
        have B2 := Lib.hid (B1.out.trans (hb.mono B1.out.size))
        have Z2 := Lib.hid (Z1.out.keep (hb.block _ Z1.out.lt))
        clear hb
        try clear c0 c1 c2 c3
        have c0 := Z2.out.c0
        have c1 := Z2.out.c1
        have c2 := Z2.out.c2
        have c3 := Z2.out.c3
        go_wp2_with fail
        refine (sInRect_any x y a b p q _).mono ?_
        rintro e w3 ⟨rfl, hb⟩
        rw [hR.out]
        have B3 := Lib.hid (B2.out.trans (hb.mono B2.out.size))
        have Z3 := Lib.hid (Z2.out.keep (hb.block _ Z2.out.lt))
        clear hb
        try clear c0 c1 c2 c3
        have c0 := Z3.out.c0
        have c1 := Z3.out.c1
        have c2 := Z3.out.c2
        have c3 := Z3.out.c3
        go_wp2_with fail
        refine (iValidRect_any x y a b _).mono ?_
        rintro e w4 ⟨rfl, hb⟩
        rw [hV.out]
        have B4 := Lib.hid (B3.out.trans (hb.mono B3.out.size))
        have Z4 := Lib.hid (Z3.out.keep (hb.block _ Z3.out.lt))
        clear hb
        try clear c0 c1 c2 c3
        have c0 := Z4.out.c0
        have c1 := Z4.out.c1
        have c2 := Z4.out.c2
        have c3 := Z4.out.c3
        go_wp2_with fail
        refine (iInRect_any x y a b x y _).mono ?_
        rintro e w5 ⟨rfl, hb⟩
        rw [HS.out]
        have B5 := Lib.hid (B4.out.trans (hb.mono B4.out.size))
        have Z5 := Lib.hid (Z4.out.keep (hb.block _ Z4.out.lt))
        clear hb
        try clear c0 c1 c2 c3
        have c0 := Z5.out.c0
        have c1 := Z5.out.c1
        have c2 := Z5.out.c2
        have c3 := Z5.out.c3
        go_wp2_with fail
        refine (iInRect_any x y a b (x + a) y _).mono ?_
        rintro e w6 ⟨rfl, hb⟩
        rw [HF1.out]
        have B6 := Lib.hid (B5.out.trans (hb.mono B5.out.size))
        have Z6 := Lib.hid (Z5.out.keep (hb.block _ Z5.out.lt))
        clear hb
        try clear c0 c1 c2 c3
        have c0 := Z6.out.c0
        have c1 := Z6.out.c1
        have c2 := Z6.out.c2
        have c3 := Z6.out.c3
        go_wp2_with fail
        refine (iInRect_any x y a b x (y + b) _).mono ?_
        rintro e w7 ⟨rfl, hb⟩
        rw [HF2.out]
        have B7 := Lib.hid (B6.out.trans (hb.mono B6.out.size))
        have Z7 := Lib.hid (Z6.out.keep (hb.block _ Z6.out.lt))
        clear hb
        try clear c0 c1 c2 c3
        have c0 := Z7.out.c0
        have c1 := Z7.out.c1
        have c2 := Z7.out.c2
        have c3 := Z7.out.c3
        go_wp2
        go_ret
        exact ⟨rfl, B7.out⟩
    · have had : decide (0 < a) = false := by simpa using ha
      have HS : Hid (inR x y a b x y = false) := Lib.hid (inR_f (by omega))
      go_wp2_with fail
      refine (iInRect_any x y a b p q _).mono ?_
      rintro e w2 ⟨rfl, hb⟩
      rw [hR.out]
      have B2 := Lib.hid (B1.out.trans (hb.mono B1.out.size))
      have Z2 := Lib.hid (Z1.out.keep (hb.block _ Z1.out.lt))
      clear hb
      try clear c0 c1 c2 c3
      have c0 := Z2.out.c0
      have c1 := Z2.out.c1
      have c2 := Z2.out.c2
      have c3 := Z2.out.c3
      go_wp2_with fail
      refine (sInRect_any x y a b p q _).mono ?_
      rintro e w3 ⟨rfl, hb⟩
      rw [hR.out]
      have B3 := Lib.hid (B2.out.trans (hb.mono B2.out.size))
      have Z3 := Lib.hid (Z2.out.keep (hb.block _ Z2.out.lt))
      clear hb
      try clear c0 c1 c2 c3
      have c0 := Z3.out.c0
      have c1 := Z3.out.c1
      have c2 := Z3.out.c2
      have c3 := Z3.out.c3
      go_wp2_with fail
      refine (iValidRect_any x y a b _).mono ?_
      rintro e w4 ⟨rfl, hb⟩
      rw [hV.out]
      have B4 := Lib.hid (B3.out.trans (hb.mono B3.out.size))
      have Z4 := Lib.hid (Z3.out.keep (hb.block _ Z3.out.lt))
      clear hb
      try clear c0 c1 c2 c3
      have c0 := Z4.out.c0
      have c1 := Z4.out.c1
      have c2 := Z4.out.c2
      have c3 := Z4.out.c3
      go_wp2_with fail
      refine (iInRect_any x y a b x y _).mono ?_
      rintro e w5 ⟨rfl, hb⟩
      rw [HS.out]
      have B5 := Lib.hid (B4.out.trans (hb.mono B4.out.size))
      have Z5 := Lib.hid (Z4.out.keep (hb.block _ Z4.out.lt))
      clear hb
      try clear c0 c1 c2 c3
      have c0 := Z5.out.c0
      have c1 := Z5.out.c1
      have c2 := Z5.out.c2
      have c3 := Z5.out.c3
      go_wp2_with fail
      refine (iInRect_any x y a b (x + a) y _).mono ?_
      rintro e w6 ⟨rfl, hb⟩
      rw [HF1.out]
      have B6 := Lib.hid (B5.out.trans (hb.mono B5.out.size))
      have Z6 := Lib.hid (Z5.out.keep (hb.block _ Z5.out.lt))
      clear hb
      try clear c0 c1 c2 c3
      have c0 := Z6.out.c0
      have c1 := Z6.out.c1
      have c2 := Z6.out.c2
      have c3 := Z6.out.c3
      go_wp2_with fail
      refine (iInRect_any x y a b x (y + b) _).mono ?_
      rintro e w7 ⟨rfl, hb⟩
      rw [HF2.out]
      have B7 := Lib.hid (B6.out.trans (hb.mono B6.out.size))
      have Z7 := Lib.hid (Z6.out.keep (hb.block _ Z6.out.lt))
      clear hb
      try clear c0 c1 c2 c3
      have c0 := Z7.out.c0
      have c1 := Z7.out.c1
      have c2 := Z7.out.c2
      have c3 := Z7.out.c3
      go_wp2
      go_ret
      exact ⟨rfl, B7.out⟩
set_option maxRecDepth 100000 in
set_option maxHeartbeats 8000000 in
theorem walkFnInRectMove (A : Option Addr) (n c : Nat) (zs : List Int) (w : World) (h : IsRow .u8 w A n c zs) :
    Calls Try.prog 4 #[.slice A n c] w fun e w' => e = .returned (.bool true) ∧ Below w.heap.size w w' := by
  have H := Lib.hid h
  have hn : (n : Int) ≤ 9223372036854775807 := by obtain ⟨h1, h2, _⟩ := bytes_of_row h; unfold maxLen at h2; omega
  clear h
  by_cases hl : (1048576 : Int) < n
  · go_enter Try.func4, Try.ntmps4
    go_wp2
    go_ret
    exact ⟨rfl, Below.refl _ _⟩
  go_enter Try.func4, Try.ntmps4
  go_wp2_with fail
  refine (DrawInRect_any _ _ _ _ _ H.out).mono ?_
  rintro e w1 ⟨x, y, a, b, p, q, rfl, ⟨⟨x0, x1⟩, ⟨y0, y1⟩, ⟨a0, a1⟩, b0, b1⟩, ⟨p0, p1⟩, ⟨q0, q1⟩, hb1⟩
  have B1 := Lib.hid ((hb1.alloc hb1.size (.cells #[.int .i64 x, .int .i64 y, .int .i64 a, .int .i64 b] 24)))
  have Z1 := Lib.hid (show Q4 w1.heap.size x y a b (w1.alloc (.cells #[.int .i64 x, .int .i64 y, .int .i64 a, .int .i64 b] 24)) from ⟨by simp [go_sem], by simp [go_sem], by simp [go_sem], by simp [go_sem], by simp [go_sem], by simp [go_sem], by simp [go_sem], by simp [go_sem]⟩)
  obtain ⟨R, hR⟩ : ∃ R, Hid (inR x y a b p q = R) := ⟨_, Lib.hid rfl⟩
  obtain ⟨V, hV⟩ : ∃ V, Hid (vR x y a b = V) := ⟨_, Lib.hid rfl⟩
  clear hb1
  cases V
  · skip
    go_wp2_with fail
    refine (iInRect_any x y a b p q _).mono ?_
    rintro e w2 ⟨rfl, hb⟩
    rw [hR.out]
    have B2 := Lib.hid (B1.out.trans (hb.mono B1.out.size))
    have Z2 := Lib.hid (Z1.out.keep (hb.block _ Z1.out.lt))
    clear hb
    try clear c0 c1 c2 c3
    have c0 := Z2.out.c0
    have c1 := Z2.out.c1
    have c2 := Z2.out.c2
    have c3 := Z2.out.c3
    go_wp2_with fail
    refine (sInRect_any x y a b p q _).mono ?_
    rintro e w3 ⟨rfl, hb⟩
    rw [hR.out]
    have B3 := Lib.hid (B2.out.trans (hb.mono B2.out.size))
    have Z3 := Lib.hid (Z2.out.keep (hb.block _ Z2.out.lt))
    clear hb
    try clear c0 c1 c2 c3
    have c0 := Z3.out.c0
    have c1 := Z3.out.c1
    have c2 := Z3.out.c2
    have c3 := Z3.out.c3
    go_wp2_with fail
    refine (iValidRect_any x y a b _).mono ?_
    rintro e w4 ⟨rfl, hb⟩
    rw [hV.out]
    have B4 := Lib.hid (B3.out.trans (hb.mono B3.out.size))
    have Z4 := Lib.hid (Z3.out.keep (hb.block _ Z3.out.lt))
    clear hb
    try clear c0 c1 c2 c3
    have c0 := Z4.out.c0
    have c1 := Z4.out.c1
    have c2 := Z4.out.c2
    have c3 := Z4.out.c3
    go_wp2_with fail
    refine (sInRect_any x y a b p q _).mono ?_
    rintro e w5 ⟨rfl, hb⟩
    rw [hR.out]
    have B5 := Lib.hid (B4.out.trans (hb.mono B4.out.size))
    have Z5 := Lib.hid (Z4.out.keep (hb.block _ Z4.out.lt))
    clear hb
    try clear c0 c1 c2 c3
    have c0 := Z5.out.c0
    have c1 := Z5.out.c1
    have c2 := Z5.out.c2
    have c3 := Z5.out.c3
    go_wp2
    go_ret
    exact ⟨ret_bool (by simp), B5.out⟩
  · obtain ⟨⟨v1, v2⟩, ⟨v3, v4⟩, ⟨v5, v6⟩, v7, v8⟩ := vR_iff.1 hV.out
    obtain ⟨M, hM⟩ : ∃ M, Hid (vR (x + 3) (y - 2) a b = M) := ⟨_, Lib.hid rfl⟩
    cases M
    · skip
      go_wp2_with fail
      refine (iInRect_any x y a b p q _).mono ?_
      rintro e w2 ⟨rfl, hb⟩
      rw [hR.out]
      have B2 := Lib.hid (B1.out.trans (hb.mono B1.out.size))
      have Z2 := Lib.hid (Z1.out.keep (hb.block _ Z1.out.lt))
      clear hb
      try clear c0 c1 c2 c3
      have c0 := Z2.out.c0
      have c1 := Z2.out.c1
      have c2 := Z2.out.c2
      have c3 := Z2.out.c3
      go_wp2_with fail
      refine (sInRect_any x y a b p q _).mono ?_
      rintro e w3 ⟨rfl, hb⟩
      rw [hR.out]
      have B3 := Lib.hid (B2.out.trans (hb.mono B2.out.size))
      have Z3 := Lib.hid (Z2.out.keep (hb.block _ Z2.out.lt))
      clear hb
      try clear c0 c1 c2 c3
      have c0 := Z3.out.c0
      have c1 := Z3.out.c1
      have c2 := Z3.out.c2
      have c3 := Z3.out.c3
      go_wp2_with fail
      refine (iValidRect_any x y a b _).mono ?_
      rintro e w4 ⟨rfl, hb⟩
      rw [hV.out]
      have B4 := Lib.hid (B3.out.trans (hb.mono B3.out.size))
      have Z4 := Lib.hid (Z3.out.keep (hb.block _ Z3.out.lt))
      clear hb
      try clear c0 c1 c2 c3
      have c0 := Z4.out.c0
      have c1 := Z4.out.c1
      have c2 := Z4.out.c2
      have c3 := Z4.out.c3
      have M4 := Lib.hid (show Q4 w4.heap.size (x + 3) (y - 2) a b (w4.alloc (.cells #[.int .i64 (x + 3), .int .i64 (y - 2), .int .i64 a, .int .i64 b] 24)) from ⟨by simp [go_sem], by simp [go_sem], by simp [go_sem], by simp [go_sem], by simp [go_sem], by simp [go_sem], by simp [go_sem], by simp [go_sem]⟩)
      have BM := Lib.hid (B4.out.alloc B4.out.size (.cells #[.int .i64 (x + 3), .int .i64 (y - 2), .int .i64 a, .int .i64 b] 24))
      go_wp2_with fail
      refine (iValidRect_any (x + 3) (y - 2) a b _).mono ?_
      rintro e w5 ⟨rfl, hb⟩
      rw [hM.out]
      have B5 := Lib.hid (BM.out.trans (hb.mono BM.out.size))
      have M5 := Lib.hid (M4.out.keep (hb.block _ M4.out.lt))
      clear hb
      try clear c0 c1 c2 c3
      have c0 := M5.out.c0
      have c1 := M5.out.c1
      have c2 := M5.out.c2
      have c3 := M5.out.c3
      go_wp2
      go_ret
      exact ⟨rfl, B5.out⟩
    · skip
      have HI : Hid (inR (x + 3) (y - 2) a b (p + 3) (q - 2) = R) := Lib.hid ((inR_move hV.out hM.out).trans hR.out)
      go_wp2_with fail
      refine (iInRect_any x y a b p q _).mono ?_
      rintro e w2 ⟨rfl, hb⟩
      rw [hR.out]
      have B2 := Lib.hid (B1.out.trans (hb.mono B1.out.size))
      have Z2 := Lib.hid (Z1.out.keep (hb.block _ Z1.out.lt))
      clear hb
      try clear c0 c1 c2 c3
      have c0 := Z2.out.c0
      have c1 := Z2.out.c1
      have c2 := Z2.out.c2
      have c3 := Z2.out.c3
      go_wp2_with fail
      refine (sInRect_any x y a b p q _).mono ?_
      rintro e w3 ⟨rfl, hb⟩
      rw [hR.out]
      have B3 := Lib.hid (B2.out.trans (hb.mono B2.out.size))
      have Z3 := Lib.hid (Z2.out.keep (hb.block _ Z2.out.lt))
      clear hb
      try clear c0 c1 c2 c3
      have c0 := Z3.out.c0
      have c1 := Z3.out.c1
      have c2 := Z3.out.c2
      have c3 := Z3.out.c3
      go_wp2_with fail
      refine (iValidRect_any x y a b _).mono ?_
      rintro e w4 ⟨rfl, hb⟩
      rw [hV.out]
      have B4 := Lib.hid (B3.out.trans (hb.mono B3.out.size))
      have Z4 := Lib.hid (Z3.out.keep (hb.block _ Z3.out.lt))
      clear hb
      try clear c0 c1 c2 c3
      have c0 := Z4.out.c0
      have c1 := Z4.out.c1
      have c2 := Z4.out.c2
      have c3 := Z4.out.c3
      have M4 := Lib.hid (show Q4 w4.heap.size (x + 3) (y - 2) a b (w4.alloc (.cells #[.int .i64 (x + 3), .int .i64 (y - 2), .int .i64 a, .int .i64 b] 24)) from ⟨by simp [go_sem], by simp [go_sem], by simp [go_sem], by simp [go_sem], by simp [go_sem], by simp [go_sem], by simp [go_sem], by simp [go_sem]⟩)
      have BM := Lib.hid (B4.out.alloc B4.out.size (.cells #[.int .i64 (x + 3), .int .i64 (y - 2), .int .i64 a, .int .i64 b] 24))
      go_wp2_with fail
      refine (iValidRect_any (x + 3) (y - 2) a b _).mono ?_
      rintro e w5 ⟨rfl, hb⟩
      rw [hM.out]
      have B5 := Lib.hid (BM.out.trans (hb.mono BM.out.size))
      have M5 := Lib.hid (M4.out.keep (hb.block _ M4.out.lt))
      clear hb
      try clear c0 c1 c2 c3
      have c0 := M5.out.c0
      have c1 := M5.out.c1
      have c2 := M5.out.c2
      have c3 := M5.out.c3
      go_wp2_with fail
      refine (iInRect_any (x + 3) (y - 2) a b (p + 3) (q - 2) _).mono ?_
      rintro e w6 ⟨rfl, hb⟩
      rw [HI.out]
      have B6 := Lib.hid (B5.out.trans (hb.mono B5.out.size))
      have M6 := Lib.hid (M5.out.keep (hb.block _ M5.out.lt))
      clear hb
      try clear c0 c1 c2 c3
      have c0 := M6.out.c0
      have c1 := M6.out.c1
      have c2 := M6.out.c2
      have c3 := M6.out.c3
      go_wp2
      go_ret
      exact ⟨ret_bool (by simp), B6.out⟩
end Go.Proofs.Ythbcdoblmflmbaa
