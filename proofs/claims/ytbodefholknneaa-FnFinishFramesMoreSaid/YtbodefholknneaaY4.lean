/- The law of larger budgets: the walk. -/
import Derived.Test.YtbodefholknneaaY3
namespace Go.Proofs.Ytbodefholknneaa
open Go.RowKit

theorem cB_set0 {ys : List Int} (h : cB ys = true) (x : Int) (h1 : 0 ≤ x) (h2 : x ≤ 1000) : cB (ys.set 0 x) = true := by
  obtain ⟨a, b⟩ := cB_iff.1 h
  exact cB_iff.2 ⟨by rw [List.length_set]; exact a, b.set h1 h2 0⟩
theorem fi_more {ys : List Int} (a : Int) (m : Nat) (hl : 0 < ys.length) (h : 0 ≤ frm ys a m) : 0 ≤ frm (ys.set 0 (ys.getD 0 0 + 1)) a m ∧ frm (ys.set 0 (ys.getD 0 0 + 1)) a m ≤ frm ys a m :=
  frm_more (fun k => by rw [tot_set0 ys _ hl]; omega) h
set_option maxHeartbeats 4000000 in
theorem walkFnFinishFramesMore (A : Option Addr) (n c : Nat) (zs : List Int) (w : World) (h : IsRow .u8 w A n c zs) :
    Calls Try.prog 13 #[.slice A n c] w fun e w' => e = .returned (.bool true) ∧ Below w.heap.size w w' := by
  have H := Lib.hid h
  have hn : (n : Int) ≤ 9223372036854775807 := by obtain ⟨h1, h2, _⟩ := bytes_of_row h; unfold maxLen at h2; omega
  clear h
  by_cases hl : (1048576 : Int) < n
  · go_enter Try.func13, Try.ntmps13
    go_wp2
    go_ret
    exact ⟨rfl, Below.refl _ _⟩
  go_enter Try.func13, Try.ntmps13
  go_wp2_with fail
  refine (DrawFinishFrames_any _ _ _ _ _ H.out).mono ?_
  rintro e w1 ⟨A1, m, c1, xs, A2, k, c2, ys, rfl, hL, hM, hb1⟩
  have hm : m ≤ 14 := hL.1
  have hk : k ≤ 14 := hM.1
  have L := Lib.hid hL
  have M := Lib.hid hM
  have B1 := Lib.hid hb1
  clear hL hM hb1
  have hlx := Lib.hid L.out.2.2.2.2.2.1
  have hly := Lib.hid M.out.2.2.2.2.2.1
  go_wp2_with fail
  refine (iFinishFrames_any A1 A2 m c1 k c2 xs ys w1 L.out.rd M.out.rd (by omega) (by omega) L.out.2.1 M.out.2.1 L.out.2.2.1 M.out.2.2.1).mono ?_
  rintro e w2 ⟨A3, q, c3, rfl, hq, hW, hb⟩
  have W2 := Lib.hid hW
  have B2 := Lib.hid hb
  have hqm : q ≤ m := by have h1 := hW.1; have h2 := fiL_len' xs ys; have h3 := hlx.out; omega
  clear hW hb hq
  go_wp2_with fail
  refine (sFinishFrames_any A1 A2 m c1 k c2 xs ys w2 ((L.out.rd.below B2.out).more B2.out.size) ((M.out.rd.below B2.out).more B2.out.size) (by omega) (by omega)).mono ?_
  rintro e w3 ⟨A4, q', c4, rfl, hq', hW, hb⟩
  obtain rfl : q = q' := W2.out.1.symm.trans hW.1
  have W3 := Lib.hid hW
  have W23 := Lib.hid (W2.out.below hb)
  have B3 := Lib.hid hb
  clear hW hb hq'
  go_wp2_with fail
  refine (equalInts_any A3 A4 q c3 c4 (fiL xs ys) _ _ w3 W23.out.rd W3.out.rd (by omega)).mono ?_
  rintro e w4 ⟨rfl, hb⟩
  have B4 := Lib.hid hb
  have W24 := Lib.hid (W23.out.below hb)
  clear hb
  have R1 := Lib.hid ((((((L.out.rd.below B2.out).more B2.out.size).below B3.out).more B3.out.size).below B4.out).more B4.out.size)
  have R2 := Lib.hid ((((((M.out.rd.below B2.out).more B2.out.size).below B3.out).more B3.out.size).below B4.out).more B4.out.size)
  have BB := Lib.hid (((B1.out.trans (B2.out.mono B1.out.size)).trans (B3.out.mono (Nat.le_trans B1.out.size B2.out.size))).trans (B4.out.mono (Nat.le_trans (Nat.le_trans B1.out.size B2.out.size) B3.out.size)))
  by_cases hq0 : q = 0
  · subst hq0
    go_wp2_with fail
    refine (sFinishFrames_any A1 A2 m c1 k c2 xs ys w4 R1.out R2.out (by omega) (by omega)).mono ?_
    rintro e w5 ⟨A5, q', c5, rfl, hq', hW, hb⟩
    obtain rfl : 0 = q' := W2.out.1.symm.trans hW.1
    have W5 := Lib.hid hW
    have W25 := Lib.hid (W24.out.below hb)
    have B5 := Lib.hid hb
    clear hW hb hq'
    go_wp2_with fail
    refine (equalInts_any A3 A5 0 c3 c5 (fiL xs ys) _ _ w5 W25.out.rd W5.out.rd (by omega)).mono ?_
    rintro e w6 ⟨rfl, hb⟩
    have B6 := Lib.hid hb
    clear hb
    go_wp2
    go_ret
    exact ⟨rfl, (BB.out.trans (B5.out.mono BB.out.size)).trans (B6.out.mono (Nat.le_trans BB.out.size B5.out.size))⟩
  · have hqp : 0 < q := by omega
    have hv : (cB xs && cB ys) = true := Decidable.byContradiction fun h => by
      have h1 := W2.out.1
      rw [fiL_no h] at h1
      simp at h1
      omega
    obtain ⟨v1, v2⟩ := Bool.and_eq_true_iff.1 hv
    have V1 := Lib.hid v1
    have V2 := Lib.hid v2
    obtain rfl : m = q := by have h1 := W2.out.1; rw [fiL_val v1 v2, finList_len, hlx.out] at h1; exact h1
    clear hv v1 v2 hq0
    have hmz : ((m : Int) == 0) = false := by simp; omega
    by_cases hk0 : k = 0
    · subst hk0
      go_wp2_with fail
      refine (sFinishFrames_any A1 A2 m c1 0 c2 xs ys w4 R1.out R2.out (by omega) (by omega)).mono ?_
      rintro e w5 ⟨A5, q', c5, rfl, hq', hW, hb⟩
      obtain rfl : m = q' := W2.out.1.symm.trans hW.1
      have W5 := Lib.hid hW
      have W25 := Lib.hid (W24.out.below hb)
      have B5 := Lib.hid hb
      clear hW hb hq'
      go_wp2_with fail
      refine (equalInts_any A3 A5 m c3 c5 (fiL xs ys) _ _ w5 W25.out.rd W5.out.rd (by omega)).mono ?_
      rintro e w6 ⟨rfl, hb⟩
      have B6 := Lib.hid hb
      clear hb
      go_wp2
      go_ret
      exact ⟨rfl, (BB.out.trans (B5.out.mono BB.out.size)).trans (B6.out.mono (Nat.le_trans BB.out.size B5.out.size))⟩
    have hkp : 0 < k := by omega
    have hkz : ((k : Int) == 0) = false := by simp; omega
    obtain ⟨b2, off2, rfl, hb2, hc2⟩ := R2.out.cell hkp
    obtain ⟨y, hy⟩ : ∃ y, Hid (ys.getD 0 0 = y) := ⟨_, rfl⟩
    have hcy := hc2 0 hkp
    rw [hy.out, Nat.add_zero] at hcy
    have hy01 := (cB_iff.1 V2.out).2.getD 0 (by rw [hly.out]; exact hkp)
    rw [hy.out] at hy01
    obtain ⟨y0, y1⟩ := hy01
    clear hc2
    by_cases hyt : y = 1000
    · have hye : (y == 1000) = true := by simp [hyt]
      clear hyt
      go_wp2_with fail
      refine (sFinishFrames_any A1 (some ⟨b2, off2, none⟩) m c1 k c2 xs ys w4 R1.out R2.out (by omega) (by omega)).mono ?_
      rintro e w5 ⟨A5, q', c5, rfl, hq', hW, hb⟩
      obtain rfl : m = q' := W2.out.1.symm.trans hW.1
      have W5 := Lib.hid hW
      have W25 := Lib.hid (W24.out.below hb)
      have B5 := Lib.hid hb
      clear hW hb hq'
      go_wp2_with fail
      refine (equalInts_any A3 A5 m c3 c5 (fiL xs ys) _ _ w5 W25.out.rd W5.out.rd (by omega)).mono ?_
      rintro e w6 ⟨rfl, hb⟩
      have B6 := Lib.hid hb
      clear hb
      go_wp2
      go_ret
      exact ⟨rfl, (BB.out.trans (B5.out.mono BB.out.size)).trans (B6.out.mono (Nat.le_trans BB.out.size B5.out.size))⟩
    have hye : (y == 1000) = false := by simp [hyt]
    have hy2 : y + 1 ≤ 1000 := by omega
    clear hyt
    have hkc1 : (1 : Int) ≤ (k : Int) := by omega
    go_wp2_with (at_builtin; refine wpList_appAll _ rfl _ _ rfl w4.heap.size _ _ _ rfl (Rw.empty w4 w4.heap.size (Nat.le_refl _)) w4.heap.size (some ⟨b2, off2, none⟩) k c2 ys rfl (R2.out.alloc (Nat.le_refl _) _) (fun e => by cases e) (by omega) ?_; intro v' w5 how hg; simp only [Nat.zero_add, List.nil_append] at how; obtain ⟨A6, c6, rfl, hc6, hm6, hA6, hW6⟩ := how.outN; have W6 := Lib.hid hW6; obtain ⟨b6, off6, rfl, hl6, hbl6, hcc⟩ := hW6.2 hkp; have hcell6 := (hcc 0 hkp).1; have hfz6 := (hcc 0 hkp).2; rw [hy.out, Nat.add_zero] at hcell6; rw [Nat.add_zero] at hfz6; have HG6 := Lib.hid hg; have HC6 := Lib.hid hc6; have HM6 := Lib.hid hm6; have HL6 := Lib.hid hl6; clear how hg hc6 hm6 hA6 hW6 hcc hl6)
    have W7 : Hid (Wr (w5.setCell ⟨b6, off6, none⟩ (.int .i64 (y + 1))) w4.heap.size (some ⟨b6, off6, none⟩) k (ys.set 0 (y + 1))) := by
      have h1 := W6.out.set hkp (y + 1)
      rw [Nat.add_zero] at h1
      exact h1
    have B5 : Hid (Below w4.heap.size w4 (w5.setCell ⟨b6, off6, none⟩ (.int .i64 (y + 1)))) :=
      (bl_gb ((Below.refl _ _).alloc (Nat.le_refl _) _) HG6.out (by simp) (fun r e => by have e2 : some w4.heap.size = some r := e; injection e2 with e2; omega)).setCell HL6.out _
    have W25 := Lib.hid (W24.out.below B5.out)
    have R15 := Lib.hid ((R1.out.below B5.out).more B5.out.size)
    have BB5 := Lib.hid (BB.out.trans (B5.out.mono BB.out.size))
    clear W6 hcell6 hfz6 hbl6
    generalize w5.setCell ⟨b6, off6, none⟩ (.int .i64 (y + 1)) = wS at W7 B5 W25 R15 BB5 ⊢
    have V3 := Lib.hid (cB_set0 V2.out (y + 1) (by omega) hy2)
    refine (iFinishFrames_any A1 (some ⟨b6, off6, none⟩) m c1 k c6 xs (ys.set 0 (y + 1)) wS R15.out W7.out.rd (by omega) (by omega) L.out.2.1 HC6.out L.out.2.2.1 HM6.out).mono ?_
    rintro e w7 ⟨A7, q7, c7, rfl, hq7, hW, hb⟩
    obtain rfl : m = q7 := by have h1 := hW.1; rw [fiL_val V1.out V3.out, finList_len, hlx.out] at h1; exact h1
    have W8 := Lib.hid hW
    have W28 := Lib.hid (W25.out.below hb)
    have BB7 := Lib.hid (BB5.out.trans (hb.mono BB5.out.size))
    clear hW hb hq7
    go_wp2_with fail
    obtain ⟨b, off, rfl, _, _, hc⟩ := W28.out.2 hqp
    have HCc := Lib.hid hc
    clear hc
    obtain ⟨b', off', rfl, _, _, hc⟩ := W8.out.2 hqp
    have HCd := Lib.hid hc
    clear hc hcy
    go_loopw [8] (fun i wr => ∃ j : Nat, j ≤ m ∧ i = .int .i64 j ∧ Hid (∃ d, wr = w7.drewN d)) (fun i _ => m - (intOf i).toNat)
    case atStart => exact ⟨0, by omega, rfl, 0, rfl⟩
    case round =>
      obtain ⟨j, hj, rfl, hd⟩ := hrel
      obtain ⟨d, rfl⟩ := hd.out
      clear hd
      by_cases hlt : j < m
      · obtain ⟨u, hu⟩ : ∃ u, Hid (frm ys (tot xs (j + 1)) k = u) := ⟨_, rfl⟩
        obtain ⟨v, hv⟩ : ∃ v, Hid (frm (ys.set 0 (y + 1)) (tot xs (j + 1)) k = v) := ⟨_, rfl⟩
        have hcu : w7.cell? ⟨b, off + j, none⟩ = some (.int .i64 u) := by rw [(HCc.out j hlt).1, fiL_getD V1.out V2.out j (by rw [hlx.out]; omega), hly.out, hu.out]
        have hcv : w7.cell? ⟨b', off' + j, none⟩ = some (.int .i64 v) := by rw [(HCd.out j hlt).1, fiL_getD V1.out V3.out j (by rw [hlx.out]; omega), List.length_set, hly.out, hv.out]
        have hst : 0 ≤ u → 0 ≤ v ∧ v ≤ u := by
          intro h0
          have := fi_more (ys := ys) (tot xs (j + 1)) k (by rw [hly.out]; exact hkp) (by rw [hu.out]; exact h0)
          rw [hy.out, hu.out, hv.out] at this
          exact this
        have i0 : (0 : Int) ≤ (j : Int) := by omega
        have i1 : (j : Int) < (m : Int) := by omega
        have i2 : decide (m ≤ j) = false := decide_eq_false (by omega)
        have i3 : decide ((m : Int) ≤ (j : Int)) = false := decide_eq_false (by omega)
        by_cases h0 : 0 ≤ u
        · obtain ⟨u0, u1⟩ := hst h0
          have hn1 : decide (v < 0) = false := decide_eq_false (by omega)
          have hn2 : decide (u < v) = false := decide_eq_false (by omega)
          clear hst
          go_wp2
          go_quiet (fail)
          clear i2 i3 hn1 hn2
          go_wp2
          go_roundw
          case rel => exact ⟨j + 1, by omega, by go_num, _, rfl⟩
          case measure => simp [intOf]; omega
        · have hn0 : u < 0 := by omega
          have hd : decide (0 ≤ u) = false := decide_eq_false h0
          clear hst
          go_wp2
          go_quiet (fail)
          clear i2 i3 hd
          go_wp2
          go_roundw
          case rel => exact ⟨j + 1, by omega, by go_num, _, rfl⟩
          case measure => simp [intOf]; omega
      · go_wp2
        go_ret
        exact ⟨rfl, below_drewN BB7.out _⟩
end Go.Proofs.Ytbodefholknneaa
