/- The laws of resumed work and of frames that are enough: the walks. -/
import Derived.Test.YtbodefholknneaaX
namespace Go.Proofs.Ytbodefholknneaa
open Go.RowKit

theorem wkL_no {xs ys : List Int} (h : ¬ (cB xs && cB ys) = true) : wkL xs ys = [] := by unfold wkL; rw [if_neg h]
theorem cB_take {ys : List Int} (h : cB ys = true) (k : Nat) : cB (ys.take k) = true := by
  obtain ⟨h1, h2⟩ := cB_iff.1 h
  exact cB_iff.2 ⟨by rw [List.length_take]; omega, h2.take k⟩
theorem cB_drop {ys : List Int} (h : cB ys = true) (k : Nat) : cB (ys.drop k) = true := by
  obtain ⟨h1, h2⟩ := cB_iff.1 h
  exact cB_iff.2 ⟨by rw [List.length_drop]; omega, h2.drop k⟩
theorem cB_wk {xs ys : List Int} (h1 : cB xs = true) (h2 : cB ys = true) : cB (wkL xs ys) = true :=
  cB_iff.2 ⟨by rw [wkL_length h1 h2]; exact (cB_iff.1 h1).1, wkL_all h1 h2⟩
theorem wk_resume {xs ys : List Int} (h1 : cB xs = true) (h2 : cB ys = true) (h : Nat) (hh : h ≤ ys.length) : wkL (wkL xs (ys.take h)) (ys.drop h) = wkL xs ys := by
  have a1 := cB_take h2 h
  have a2 := cB_drop h2 h
  rw [wkL_val (cB_wk h1 a1) a2, wkL_val h1 a1, wkL_val h1 h2]
  rw [List.length_take, Nat.min_eq_left hh, tot_take _ _ _ (Nat.le_refl _), List.length_drop, tot_drop, show h + (ys.length - h) = ys.length from by omega]
  have b1 := (cB_bd h2 h hh).1
  have b2 := tot_mono ys 1000 (cB_iff.1 h2).2 h ys.length hh (Nat.le_refl _)
  rw [work_work (cB_iff.1 h1).2 b1 (by omega)]
  congr 1
  omega
set_option maxHeartbeats 4000000 in
theorem walkFnWorkLeftResume (A : Option Addr) (n c : Nat) (zs : List Int) (w : World) (h : IsRow .u8 w A n c zs) :
    Calls Try.prog 11 #[.slice A n c] w fun e w' => e = .returned (.bool true) ∧ Below w.heap.size w w' := by
  have H := Lib.hid h
  have hn : (n : Int) ≤ 9223372036854775807 := by obtain ⟨h1, h2, _⟩ := bytes_of_row h; unfold maxLen at h2; omega
  clear h
  by_cases hl : (1048576 : Int) < n
  · go_enter Try.func11, Try.ntmps11
    go_wp2
    go_ret
    exact ⟨rfl, Below.refl _ _⟩
  go_enter Try.func11, Try.ntmps11
  go_wp2_with fail
  refine (DrawWorkLeft_any _ _ _ _ _ H.out).mono ?_
  rintro e w1 ⟨A1, m, c1, xs, A2, k, c2, ys, rfl, hL, hM, hb1⟩
  have hm : m ≤ 14 := hL.1
  have hk : k ≤ 14 := hM.1
  have hkc : (k : Int) ≤ (c2 : Int) := by have := hM.2.1; omega
  have hcm : (c2 : Int) ≤ 9223372036854775807 := by have := hM.2.2.1; unfold maxLen at this; omega
  have L := Lib.hid hL
  have M := Lib.hid hM
  have B1 := Lib.hid hb1
  clear hL hM hb1
  have hlx := Lib.hid L.out.2.2.2.2.2.1
  have hly := Lib.hid M.out.2.2.2.2.2.1
  go_wp2_with fail
  refine (iWorkLeft_any A1 A2 m c1 k c2 xs ys w1 L.out.rd M.out.rd (by omega) (by omega)).mono ?_
  rintro e w2 ⟨A3, q, c3, rfl, hq, hW, hb⟩
  have W2 := Lib.hid hW
  have B2 := Lib.hid hb
  have hqm : q ≤ m := by have h1 := hW.1; have h2 := wkL_len' xs ys; have h3 := hlx.out; omega
  clear hW hb hq
  go_wp2_with fail
  refine (sWorkLeft_any A1 A2 m c1 k c2 xs ys w2 ((L.out.rd.below B2.out).more B2.out.size) ((M.out.rd.below B2.out).more B2.out.size) (by omega) (by omega)).mono ?_
  rintro e w3 ⟨A4, q', c4, rfl, hq', hW, hb⟩
  obtain rfl : q = q' := W2.out.1.symm.trans hW.1
  have W3 := Lib.hid hW
  have W23 := Lib.hid (W2.out.below hb)
  have B3 := Lib.hid hb
  clear hW hb hq'
  go_wp2_with fail
  refine (equalInts_any A3 A4 q c3 c4 (wkL xs ys) _ _ w3 W23.out.rd W3.out.rd (by omega)).mono ?_
  rintro e w4 ⟨rfl, hb⟩
  have B4 := Lib.hid hb
  have W24 := Lib.hid (W23.out.below hb)
  clear hb
  have R1 := Lib.hid ((((((L.out.rd.below B2.out).more B2.out.size).below B3.out).more B3.out.size).below B4.out).more B4.out.size)
  have R2 := Lib.hid ((((((M.out.rd.below B2.out).more B2.out.size).below B3.out).more B3.out.size).below B4.out).more B4.out.size)
  have BB := Lib.hid (((B1.out.trans (B2.out.mono B1.out.size)).trans (B3.out.mono (Nat.le_trans B1.out.size B2.out.size))).trans (B4.out.mono (Nat.le_trans (Nat.le_trans B1.out.size B2.out.size) B3.out.size)))
  by_cases hq0 : q = 0
  · subst hq0
    go_wp2_with fail
    refine (sWorkLeft_any A1 A2 m c1 k c2 xs ys w4 R1.out R2.out (by omega) (by omega)).mono ?_
    rintro e w5 ⟨A5, q', c5, rfl, hq', hW, hb⟩
    obtain rfl : 0 = q' := W2.out.1.symm.trans hW.1
    have W5 := Lib.hid hW
    have W25 := Lib.hid (W24.out.below hb)
    have B5 := Lib.hid hb
    clear hW hb hq'
    go_wp2_with fail
    refine (equalInts_any A3 A5 0 c3 c5 (wkL xs ys) _ _ w5 W25.out.rd W5.out.rd (by omega)).mono ?_
    rintro e w6 ⟨rfl, hb⟩
    have B6 := Lib.hid hb
    clear hb
    go_wp2
    go_ret
    exact ⟨rfl, (BB.out.trans (B5.out.mono BB.out.size)).trans (B6.out.mono (Nat.le_trans BB.out.size B5.out.size))⟩
  · have hqp : 0 < q := by omega
    have hv : (cB xs && cB ys) = true := Decidable.byContradiction fun h => by
      have h1 := W2.out.1
      rw [wkL_no h] at h1
      simp at h1
      omega
    obtain ⟨v1, v2⟩ := Bool.and_eq_true_iff.1 hv
    have V1 := Lib.hid v1
    have V2 := Lib.hid v2
    clear hv v1 v2 hq0
    obtain ⟨h, hh⟩ : ∃ h : Nat, h = k / 2 := ⟨_, rfl⟩
    have hh1 : (k : Int) / 2 = (h : Int) := by omega
    have hhk : h ≤ k := by omega
    have HH := Lib.hid hh
    clear hh
    have hi1 : (h : Int) ≤ (c2 : Int) := by omega
    have hi2 : (h : Int) ≤ (k : Int) := by omega
    by_cases hc2 : c2 = h
    · have hk0 : k = 0 := by have := HH.out; omega
      have hc0 : c2 = 0 := by have := HH.out; omega
      subst hk0 hc0
      obtain rfl : h = 0 := by omega
      clear hc2 hh1
      go_wp2_with fail
      refine (iWorkLeft_any A1 A2 m c1 0 0 xs (ys.take 0) w4 R1.out (R2.out.take (Nat.le_refl _)) (by omega) (by omega)).mono ?_
      rintro e w5 ⟨A5, q5, c5, rfl, hq5, hW, hb⟩
      have W5 := Lib.hid hW
      have B5 := Lib.hid hb
      obtain rfl : m = q5 := by have h1 := hW.1; rw [wkL_length V1.out (cB_take V2.out 0), hlx.out] at h1; exact h1
      clear hW hb hq5
      go_wp2_with fail
      refine (iWorkLeft_any A5 A2 m c5 0 0 (wkL xs (ys.take 0)) (ys.drop 0) w5 W5.out.rd (((R2.out.below B5.out).more B5.out.size)) (by omega) (by omega)).mono ?_
      rintro e w6 ⟨A6, q6, c6, rfl, hq6, hW, hb⟩
      rw [wk_resume V1.out V2.out 0 (Nat.zero_le _)] at hW
      obtain rfl : q = q6 := W2.out.1.symm.trans hW.1
      have W6 := Lib.hid hW
      have W26 := Lib.hid ((W24.out.below B5.out).below hb)
      have B6 := Lib.hid hb
      clear hW hb hq6
      go_wp2_with fail
      refine (equalInts_any A6 A3 q c6 c3 (wkL xs ys) _ _ w6 W6.out.rd W26.out.rd (by omega)).mono ?_
      rintro e w7 ⟨rfl, hb⟩
      have B7 := Lib.hid hb
      clear hb
      go_wp2
      go_ret
      exact ⟨rfl, ((BB.out.trans (B5.out.mono BB.out.size)).trans (B6.out.mono (Nat.le_trans BB.out.size B5.out.size))).trans (B7.out.mono (Nat.le_trans (Nat.le_trans BB.out.size B5.out.size) B6.out.size))⟩
    · have hcut := Lib.hid (R2.out.cut (k := h) (cap := c2) hhk (by omega))
      rw [if_neg hc2] at hcut
      go_wp2_with fail
      refine (iWorkLeft_any A1 A2 m c1 h c2 xs (ys.take h) w4 R1.out (R2.out.take hhk) (by omega) (by omega)).mono ?_
      rintro e w5 ⟨A5, q5, c5, rfl, hq5, hW, hb⟩
      have W5 := Lib.hid hW
      have B5 := Lib.hid hb
      obtain rfl : m = q5 := by have h1 := hW.1; rw [wkL_length V1.out (cB_take V2.out h), hlx.out] at h1; exact h1
      clear hW hb hq5
      rcases A2 with _ | ad
      · have hc0 : c2 = 0 := M.out.2.2.2.1 rfl
        omega
      go_wp2_with fail
      refine (iWorkLeft_any A5 (some (ad.add h)) m c5 (k - h) (c2 - h) (wkL xs (ys.take h)) (ys.drop h) w5 W5.out.rd ((Rd.below (A := some (ad.add h)) hcut.out B5.out).more B5.out.size) (by omega) (by omega)).mono ?_
      rintro e w6 ⟨A6, q6, c6, rfl, hq6, hW, hb⟩
      rw [wk_resume V1.out V2.out h (by rw [hly.out]; exact hhk)] at hW
      obtain rfl : q = q6 := W2.out.1.symm.trans hW.1
      have W6 := Lib.hid hW
      have W26 := Lib.hid ((W24.out.below B5.out).below hb)
      have B6 := Lib.hid hb
      clear hW hb hq6
      go_wp2_with fail
      refine (equalInts_any A6 A3 q c6 c3 (wkL xs ys) _ _ w6 W6.out.rd W26.out.rd (by omega)).mono ?_
      rintro e w7 ⟨rfl, hb⟩
      have B7 := Lib.hid hb
      clear hb
      go_wp2
      go_ret
      exact ⟨rfl, ((BB.out.trans (B5.out.mono BB.out.size)).trans (B6.out.mono (Nat.le_trans BB.out.size B5.out.size))).trans (B7.out.mono (Nat.le_trans (Nat.le_trans BB.out.size B5.out.size) B6.out.size))⟩
end Go.Proofs.Ytbodefholknneaa
