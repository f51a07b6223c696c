/- The laws of idle time, of needed frames, and of resumed work: the walks. -/
import Derived.Test.YtbodefholknneaaV
namespace Go.Proofs.Ytbodefholknneaa
open Go.RowKit

theorem idT_cases {xs ys : List Int} {F : Int} (h : idT xs ys = F) : F = -1 ∨ (0 ≤ F ∧ cB xs = true ∧ cB ys = true ∧ max (tot ys ys.length - tot xs xs.length) 0 = F) := by
  unfold idT at h
  by_cases hv : (cB xs && cB ys) = true
  · rw [if_pos hv] at h
    obtain ⟨h1, h2⟩ := Bool.and_eq_true_iff.1 hv
    exact .inr ⟨by omega, h1, h2, h⟩
  · rw [if_neg hv] at h
    exact .inl h.symm
theorem wkL_val {xs ys : List Int} (h1 : cB xs = true) (h2 : cB ys = true) : wkL xs ys = workList xs (tot ys ys.length) := by
  unfold wkL; rw [h1, h2]; rfl
theorem wkL_sum {xs ys : List Int} (h1 : cB xs = true) (h2 : cB ys = true) : tot (wkL xs ys) xs.length = max (tot xs xs.length - tot ys ys.length) 0 := by
  rw [wkL_val h1 h2]
  exact tot_work (cB_iff.1 h1).2 (cB_bd h2 _ (Nat.le_refl _)).1 _ (Nat.le_refl _)
theorem wkL_length {xs ys : List Int} (h1 : cB xs = true) (h2 : cB ys = true) : (wkL xs ys).length = xs.length := by
  rw [wkL_val h1 h2, workList_len]
theorem wkL_all {xs ys : List Int} (h1 : cB xs = true) (h2 : cB ys = true) : AllB (wkL xs ys) 0 1000 := by
  rw [wkL_val h1 h2]; exact workList_AllB (cB_iff.1 h1).2 _
theorem AllB.wide {xs : List Int} (h : AllB xs 0 1000) : AllB xs (-1000000) 1000000 := h.mono (by omega) (by omega)
set_option maxHeartbeats 4000000 in
theorem walkFnIdleTime (A : Option Addr) (n c : Nat) (zs : List Int) (w : World) (h : IsRow .u8 w A n c zs) :
    Calls Try.prog 9 #[.slice A n c] w fun e w' => e = .returned (.bool true) ∧ Below w.heap.size w w' := by
  have H := Lib.hid h
  have hn : (n : Int) ≤ 9223372036854775807 := by obtain ⟨h1, h2, _⟩ := bytes_of_row h; unfold maxLen at h2; omega
  clear h
  by_cases hl : (1048576 : Int) < n
  · go_enter Try.func9, Try.ntmps9
    go_wp2
    go_ret
    exact ⟨rfl, Below.refl _ _⟩
  go_enter Try.func9, Try.ntmps9
  go_wp2_with fail
  refine (DrawIdleTime_any _ _ _ _ _ H.out).mono ?_
  rintro e w1 ⟨A1, m, c1, xs, A2, k, c2, ys, rfl, hL, hM, hb1⟩
  have hm : m ≤ 14 := hL.1
  have hk : k ≤ 14 := hM.1
  have L := Lib.hid hL
  have M := Lib.hid hM
  have B1 := Lib.hid hb1
  clear hL hM hb1
  obtain ⟨F, hF⟩ : ∃ F, Hid (idT xs ys = F) := ⟨_, rfl⟩
  have HC := Lib.hid (idT_cases hF.out)
  have hlx := Lib.hid L.out.2.2.2.2.2.1
  have hly := Lib.hid M.out.2.2.2.2.2.1
  go_wp2_with fail
  refine (iIdleTime_any A1 A2 m c1 k c2 xs ys w1 L.out.rd M.out.rd (by omega) (by omega)).mono ?_
  rintro e w2 ⟨rfl, hb⟩
  rw [hF.out]
  have B2 := Lib.hid hb
  clear hb
  go_wp2_with fail
  refine (sIdleTime_any A1 A2 m c1 k c2 xs ys _ _ w2 (L.out.rd.below B2.out) (M.out.rd.below B2.out) (by omega) (by omega)).mono ?_
  rintro e w' ⟨rfl, rfl⟩
  rw [hF.out]
  have BB := Lib.hid (B1.out.trans (B2.out.mono B1.out.size))
  rcases HC.out with e1 | ⟨F0, v1, v2, v4⟩
  · have e2 : F < 0 := by omega
    clear e1
    go_wp2_with (go_at_call 18; ((with_reducible refine (sIdleTime_any A1 A2 m c1 k c2 xs ys _ _ w2 (L.out.rd.below B2.out) (M.out.rd.below B2.out) (by omega) (by omega)).mono ?_); rintro e w' ⟨rfl, rfl⟩; rw [hF.out]))
    go_ret
    exact ⟨ret_bool (by simp), BB.out⟩
  · have V1 := Lib.hid v1
    have V2 := Lib.hid v2
    have V4 := Lib.hid v4
    clear v1 v2 v4
    obtain ⟨t0, t1⟩ := cB_bd V1.out m (by rw [hlx.out]; omega)
    obtain ⟨s0, s1⟩ := cB_bd V2.out k (by rw [hly.out]; omega)
    obtain ⟨T, hT⟩ : ∃ T, Hid (tot xs m = T) := ⟨_, rfl⟩
    obtain ⟨S, hS⟩ : ∃ S, Hid (tot ys k = S) := ⟨_, rfl⟩
    rw [hT.out] at t0 t1
    rw [hS.out] at s0 s1
    have h4 := V4.out
    have h5 := wkL_sum V1.out V2.out
    have h6 := Lib.hid (wkL_length V1.out V2.out)
    rw [hlx.out, hly.out, hT.out, hS.out] at h4 h5
    have H4 := Lib.hid h4
    obtain ⟨U, hU⟩ : ∃ U, Hid (tot (wkL xs ys) m = U) := ⟨_, rfl⟩
    rw [hU.out] at h5
    have H5 := Lib.hid h5
    have u0 : 0 ≤ U ∧ U ≤ 12000 := by omega
    have f1 : F ≤ 12000 := by omega
    clear h4 h5
    obtain ⟨u0, u1⟩ := u0
    go_wp2_with fail
    refine (lsum_any A2 k c2 ys _ w2 (M.out.rd.below B2.out) (by omega) (M.out.all (by omega) (by omega))).mono ?_
    rintro e w' ⟨rfl, rfl⟩
    rw [hS.out]
    go_wp2_with fail
    refine (lsum_any A1 m c1 xs _ w2 (L.out.rd.below B2.out) (by omega) (L.out.all (by omega) (by omega))).mono ?_
    rintro e w' ⟨rfl, rfl⟩
    rw [hT.out]
    go_wp2_with fail
    refine (iWorkLeft_any A1 A2 m c1 k c2 xs ys w2 ((L.out.rd.below B2.out).more B2.out.size) ((M.out.rd.below B2.out).more B2.out.size) (by omega) (by omega)).mono ?_
    rintro e w3 ⟨A3, q, c3, rfl, hq, hW, hb⟩
    obtain rfl : m = q := by have := hW.1; rw [h6.out, hlx.out] at this; exact this
    have W3 := Lib.hid hW
    have B3 := Lib.hid hb
    clear hW hb
    go_wp2_with fail
    refine (lsum_any A3 m c3 (wkL xs ys) _ w3 W3.out.rd (by omega) (wkL_all V1.out V2.out).wide).mono ?_
    rintro e w' ⟨rfl, rfl⟩
    rw [hU.out]
    go_wp2
    go_ret
    exact ⟨ret_bool (by have := H4.out; have := H5.out; simp; omega), BB.out.trans (B3.out.mono BB.out.size)⟩
theorem idT_nil {ys : List Int} (h : cB ys = true) : idT [] ys = tot ys ys.length := by
  have h1 : cB [] = true := by decide
  have h2 := cB_bd h ys.length (Nat.le_refl _)
  unfold idT
  rw [h1, h]
  simp [tot_zero]
  omega
set_option maxHeartbeats 4000000 in
theorem walkFnIdleTimeLeft (A : Option Addr) (n c : Nat) (zs : List Int) (w : World) (h : IsRow .u8 w A n c zs) :
    Calls Try.prog 10 #[.slice A n c] w fun e w' => e = .returned (.bool true) ∧ Below w.heap.size w w' := by
  have H := Lib.hid h
  have hn : (n : Int) ≤ 9223372036854775807 := by obtain ⟨h1, h2, _⟩ := bytes_of_row h; unfold maxLen at h2; omega
  clear h
  by_cases hl : (1048576 : Int) < n
  · go_enter Try.func10, Try.ntmps10
    go_wp2
    go_ret
    exact ⟨rfl, Below.refl _ _⟩
  go_enter Try.func10, Try.ntmps10
  go_wp2_with fail
  refine (DrawIdleTime_any _ _ _ _ _ H.out).mono ?_
  rintro e w1 ⟨A1, m, c1, xs, A2, k, c2, ys, rfl, hL, hM, hb1⟩
  have hm : m ≤ 14 := hL.1
  have hk : k ≤ 14 := hM.1
  have L := Lib.hid hL
  have M := Lib.hid hM
  have B1 := Lib.hid hb1
  clear hL hM hb1
  obtain ⟨F, hF⟩ : ∃ F, Hid (idT xs ys = F) := ⟨_, rfl⟩
  have HC := Lib.hid (idT_cases hF.out)
  have hlx := Lib.hid L.out.2.2.2.2.2.1
  have hly := Lib.hid M.out.2.2.2.2.2.1
  go_wp2_with fail
  refine (iIdleTime_any A1 A2 m c1 k c2 xs ys w1 L.out.rd M.out.rd (by omega) (by omega)).mono ?_
  rintro e w2 ⟨rfl, hb⟩
  rw [hF.out]
  have B2 := Lib.hid hb
  clear hb
  go_wp2_with fail
  refine (sIdleTime_any A1 A2 m c1 k c2 xs ys _ _ w2 (L.out.rd.below B2.out) (M.out.rd.below B2.out) (by omega) (by omega)).mono ?_
  rintro e w' ⟨rfl, rfl⟩
  rw [hF.out]
  have BB := Lib.hid (B1.out.trans (B2.out.mono B1.out.size))
  rcases HC.out with e1 | ⟨F0, v1, v2, v4⟩
  · have e2 : F < 0 := by omega
    clear e1
    go_wp2_with (go_at_call 18; ((with_reducible refine (sIdleTime_any A1 A2 m c1 k c2 xs ys _ _ w2 (L.out.rd.below B2.out) (M.out.rd.below B2.out) (by omega) (by omega)).mono ?_); rintro e w' ⟨rfl, rfl⟩; rw [hF.out]))
    go_ret
    exact ⟨ret_bool (by simp), BB.out⟩
  · have V1 := Lib.hid v1
    have V2 := Lib.hid v2
    have V4 := Lib.hid v4
    clear v1 v2 v4
    obtain ⟨s0, s1⟩ := cB_bd V2.out k (by rw [hly.out]; omega)
    obtain ⟨T, hT⟩ : ∃ T, Hid (tot xs m = T) := ⟨_, rfl⟩
    obtain ⟨S, hS⟩ : ∃ S, Hid (tot ys k = S) := ⟨_, rfl⟩
    rw [hS.out] at s0 s1
    have h4 := V4.out
    have h5 := wkL_sum V1.out V2.out
    have h6 := Lib.hid (wkL_length V1.out V2.out)
    have h7 := idT_nil V2.out
    rw [hly.out, hS.out] at h7
    have H7 := Lib.hid h7
    rw [hlx.out, hly.out, hT.out, hS.out] at h4 h5
    obtain ⟨U, hU⟩ : ∃ U, Hid (tot (wkL xs ys) m = U) := ⟨_, rfl⟩
    rw [hU.out] at h5
    have h8 : (U == 0) = true ∨ ((U == 0) = false ∧ (F == 0) = true) := by
      by_cases hu : U = 0
      · exact .inl (by simp [hu])
      · exact .inr ⟨by simp [hu], by simp; omega⟩
    clear h4 h5 h7
    go_wp2_with fail
    refine (iWorkLeft_any A1 A2 m c1 k c2 xs ys w2 ((L.out.rd.below B2.out).more B2.out.size) ((M.out.rd.below B2.out).more B2.out.size) (by omega) (by omega)).mono ?_
    rintro e w3 ⟨A3, q, c3, rfl, hq, hW, hb⟩
    obtain rfl : m = q := by have := hW.1; rw [h6.out, hlx.out] at this; exact this
    have W3 := Lib.hid hW
    have B3 := Lib.hid hb
    clear hW hb
    go_wp2_with fail
    refine (lsum_any A3 m c3 (wkL xs ys) _ w3 W3.out.rd (by omega) (wkL_all V1.out V2.out).wide).mono ?_
    rintro e w' ⟨rfl, rfl⟩
    rw [hU.out]
    rcases h8 with h8 | ⟨h8, h9⟩
    all_goals
      go_wp2_with (first
        | (go_at_call 19; ((with_reducible refine (iIdleTime_any none A2 0 0 k c2 [] ys w3 (Rd.nil _ _ _) ((((M.out.rd.below B2.out).more B2.out.size).below B3.out).more B3.out.size) (by omega) (by omega)).mono ?_); rintro e w4 ⟨rfl, hb⟩; rw [H7.out]; have B4 := Lib.hid hb; clear hb))
        | (go_at_call 27; ((with_reducible refine (lsum_any A2 k c2 ys _ w4 (((((M.out.rd.below B2.out).more B2.out.size).below B3.out).more B3.out.size).below B4.out) (by omega) (M.out.all (by omega) (by omega))).mono ?_); rintro e w' ⟨rfl, rfl⟩; rw [hS.out])))
      go_ret
      exact ⟨ret_bool (by simp), (BB.out.trans (B3.out.mono BB.out.size)).trans (B4.out.mono (Nat.le_trans BB.out.size B3.out.size))⟩
end Go.Proofs.Ytbodefholknneaa
