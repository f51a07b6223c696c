/- The laws of flexible sizes: the walks (1). -/
import Derived.Test.YtpemgcpnabaojaaFW
import Derived.Test.YtpemgcpnabaojaaFV
import Derived.Test.YtpemgcpnabaojaaPH
namespace Go.Proofs.Ytpemgcpnabaojaa
open Go.RowKit

theorem fsL_of {zs : List Int} {n : Nat} {sp : Int} (m1 : 1 ≤ n) (m8 : n ≤ 8) (h : okS zs n) (p0 : 0 ≤ sp) (p1 : sp ≤ 200000) : fsL zs n sp = flL zs n sp := by unfold fsL; rw [if_pos (fsV_iff.2 ⟨⟨m1, m8⟩, h, p0, p1⟩)]
set_option maxHeartbeats 4000000 in
theorem walkFnFlexSizesMore (A : Option Addr) (n c : Nat) (zs : List Int) (w : World) (h : IsRow .u8 w A n c zs) :
    Calls Try.prog 11 #[.slice A n c] w fun e w' => e = .returned (.bool true) ∧ Below w.heap.size w w' := by
  have H := Lib.hid h
  have hn : (n : Int) ≤ 9223372036854775807 := by obtain ⟨h1, h2, _⟩ := bytes_of_row h; unfold maxLen at h2; omega
  clear h
  by_cases hl : (1048576 : Int) < n
  · go_enter Try.func11, Try.ntmps11
    go_wp2
    go_ret
    exact ⟨rfl, Below.refl _ _⟩
  go_enter Try.func11, Try.ntmps11
  go_wp2_with fail
  refine (DrawFlexSizes_any _ _ _ _ _ H.out).mono ?_
  rintro e w1 ⟨A1, m, c1, zs, sp, rfl, ⟨s0, s1⟩, hL, hb1⟩
  have hm : m ≤ 9 := hL.1
  have L := Lib.hid hL
  have B1 := Lib.hid hb1
  have RD1 := Lib.hid hL.2.2.2.2.rd
  clear hL hb1
  go_wp2_with fail
  refine (iFlexSizes_any A1 m c1 zs sp w1 RD1.out (by omega)).mono ?_
  rintro e w2 ⟨A3, q, c3, rfl, hq, hW, hb⟩
  have W2 := Lib.hid hW
  have B2 := Lib.hid hb
  have hqm : q ≤ m := by have h1 := hW.1; have h2 := fsL_len zs m sp; omega
  clear hW hb
  go_wp2_with fail
  refine (sFlexSizes_any A1 m c1 zs sp w2 ((RD1.out.below B2.out).more B2.out.size) (by omega)).mono ?_
  rintro e w3 ⟨A4, q', c4, rfl, hq', hW, hb⟩
  obtain rfl : q = q' := W2.out.1.symm.trans hW.1
  have W3 := Lib.hid hW
  have W23 := Lib.hid (W2.out.below hb)
  have B3 := Lib.hid hb
  clear hW hb hq'
  go_wp2_with fail
  refine (equalInts_any A3 A4 q c3 c4 (fsL zs m sp) _ _ w3 W23.out.rd W3.out.rd (by omega)).mono ?_
  rintro e w4 ⟨rfl, hb⟩
  have B4 := Lib.hid hb
  have W24 := Lib.hid (W23.out.below hb)
  clear hb
  have R4 := Lib.hid ((((((RD1.out.below B2.out).more B2.out.size).below B3.out).more B3.out.size).below B4.out).more B4.out.size)
  have BB := Lib.hid (((B1.out.trans (B2.out.mono B1.out.size)).trans (B3.out.mono (Nat.le_trans B1.out.size B2.out.size))).trans (B4.out.mono (Nat.le_trans (Nat.le_trans B1.out.size B2.out.size) B3.out.size)))
  have ZL := Lib.hid (Nat.le_trans (Nat.le_trans B2.out.size B3.out.size) B4.out.size)
  clear L B2 B3 B4 W3 W23
  by_cases hq0 : q = 0
  · subst hq0
    go_wp2_with fail
    refine (sFlexSizes_any A1 m c1 zs sp w4 R4.out (by omega)).mono ?_
    rintro e w5 ⟨A5, q', c5, rfl, hq', hW, hb⟩
    obtain rfl : 0 = q' := W2.out.1.symm.trans hW.1
    have W5 := Lib.hid hW
    have W25 := Lib.hid (W24.out.below hb)
    have B5 := Lib.hid hb
    clear hW hb hq'
    go_wp2_with fail
    refine (equalInts_any A3 A5 0 c3 c5 (fsL zs m sp) _ _ w5 W25.out.rd W5.out.rd (by omega)).mono ?_
    rintro e w6 ⟨rfl, hb⟩
    have B6 := Lib.hid hb
    clear hb
    go_wp2
    go_ret
    exact ⟨rfl, (BB.out.trans (B5.out.mono BB.out.size)).trans (B6.out.mono (Nat.le_trans BB.out.size B5.out.size))⟩
  have hV : fsV zs m sp = true := by
    by_cases hV : fsV zs m sp = true
    · exact hV
    · have h1 := W2.out.1
      unfold fsL at h1
      rw [if_neg hV] at h1
      exact absurd h1.symm hq0
  obtain ⟨⟨m1, m8⟩, ha, p0, p1⟩ := fsV_iff.1 hV
  have HA := Lib.hid ha
  have HE : Hid (fsL zs m sp = flL zs m sp) := by unfold fsL; rw [if_pos hV]; rfl
  obtain rfl : m = q := by have h1 := W2.out.1; rw [HE.out] at h1; unfold flL at h1; rw [mk_len] at h1; exact h1
  have W4 := Lib.hid W24.out
  rw [HE.out] at W4
  clear ha hV W2 W24 HE hqm
  have hqz : ((m : Int) == 0) = false := by simp; omega
  by_cases hs2 : sp = 200000
  · have hsb : (sp == 200000) = true := by simp [hs2]
    clear hs2
    go_wp2_with fail
    refine (sFlexSizes_any A1 m c1 zs sp w4 R4.out (by omega)).mono ?_
    rintro e w5 ⟨A5, q', c5, rfl, hq', hW, hb⟩
    rw [fsL_of m1 m8 HA.out p0 p1] at hW
    obtain rfl : m = q' := W4.out.1.symm.trans hW.1
    have W5 := Lib.hid hW
    have W45 := Lib.hid (W4.out.below hb)
    have B5 := Lib.hid hb
    clear hW hb hq'
    go_wp2_with fail
    refine (equalInts_any A3 A5 m c3 c5 _ _ _ w5 W45.out.rd W5.out.rd (by omega)).mono ?_
    rintro e w6 ⟨rfl, hb⟩
    have B6 := Lib.hid hb
    clear hb
    go_wp2
    go_ret
    exact ⟨rfl, (BB.out.trans (B5.out.mono BB.out.size)).trans (B6.out.mono (Nat.le_trans BB.out.size B5.out.size))⟩
  have hsb : (sp == 200000) = false := by simp [hs2]
  have hs3 : sp ≤ 199999 := by omega
  clear hs2
  obtain ⟨S, hS⟩ : ∃ S, Hid (tot (flL zs m sp) m = S) := ⟨_, rfl⟩
  obtain ⟨U, hU⟩ : ∃ S, Hid (tot (flL zs m (sp + 1)) m = S) := ⟨_, rfl⟩
  have hSU : S ≤ U := by rw [← hS.out, ← hU.out]; unfold flL; rw [tot_mk, tot_mk]; exact fl_more HA.out sp
  go_wp2_with fail
  refine (iFlexSizes_any A1 m c1 zs (sp + 1) w4 R4.out (by omega)).mono ?_
  rintro e w5 ⟨A5, q5, c5, rfl, hq5, hW, hb⟩
  rw [fsL_of m1 m8 HA.out (by omega) (by omega)] at hW
  obtain rfl : m = q5 := by have h1 := hW.1; unfold flL at h1; rw [mk_len] at h1; exact h1
  have W5 := Lib.hid hW
  have W45 := Lib.hid (W4.out.below hb)
  have B5 := Lib.hid hb
  clear hW hb hq5
  go_wp2_with fail
  refine (lsum_any A5 m c5 _ _ w5 W5.out.rd (by omega) ((flL_all HA.out _).mono (by omega) (by omega))).mono ?_
  rintro e w' ⟨rfl, rfl⟩
  rw [hU.out]
  go_wp2_with fail
  refine (lsum_any A3 m c3 _ _ w5 W45.out.rd (by omega) ((flL_all HA.out _).mono (by omega) (by omega))).mono ?_
  rintro e w' ⟨rfl, rfl⟩
  rw [hS.out]
  go_wp2
  go_ret
  exact ⟨ret_bool (by simp), BB.out.trans (B5.out.mono BB.out.size)⟩
set_option maxHeartbeats 4000000 in
theorem walkFnFlexSizesFill (A : Option Addr) (n c : Nat) (zs : List Int) (w : World) (h : IsRow .u8 w A n c zs) :
    Calls Try.prog 10 #[.slice A n c] w fun e w' => e = .returned (.bool true) ∧ Below w.heap.size w w' := by
  have H := Lib.hid h
  have hn : (n : Int) ≤ 9223372036854775807 := by obtain ⟨h1, h2, _⟩ := bytes_of_row h; unfold maxLen at h2; omega
  clear h
  by_cases hl : (1048576 : Int) < n
  · go_enter Try.func10, Try.ntmps10
    go_wp2
    go_ret
    exact ⟨rfl, Below.refl _ _⟩
  go_enter Try.func10, Try.ntmps10
  go_wp2_with fail
  refine (DrawFlexSizes_any _ _ _ _ _ H.out).mono ?_
  rintro e w1 ⟨A1, m, c1, zs, sp, rfl, ⟨s0, s1⟩, hL, hb1⟩
  have hm : m ≤ 9 := hL.1
  have L := Lib.hid hL
  have B1 := Lib.hid hb1
  have RD1 := Lib.hid hL.2.2.2.2.rd
  clear hL hb1
  go_wp2_with fail
  refine (iFlexSizes_any A1 m c1 zs sp w1 RD1.out (by omega)).mono ?_
  rintro e w2 ⟨A3, q, c3, rfl, hq, hW, hb⟩
  have W2 := Lib.hid hW
  have B2 := Lib.hid hb
  have hqm : q ≤ m := by have h1 := hW.1; have h2 := fsL_len zs m sp; omega
  clear hW hb
  go_wp2_with fail
  refine (sFlexSizes_any A1 m c1 zs sp w2 ((RD1.out.below B2.out).more B2.out.size) (by omega)).mono ?_
  rintro e w3 ⟨A4, q', c4, rfl, hq', hW, hb⟩
  obtain rfl : q = q' := W2.out.1.symm.trans hW.1
  have W3 := Lib.hid hW
  have W23 := Lib.hid (W2.out.below hb)
  have B3 := Lib.hid hb
  clear hW hb hq'
  go_wp2_with fail
  refine (equalInts_any A3 A4 q c3 c4 (fsL zs m sp) _ _ w3 W23.out.rd W3.out.rd (by omega)).mono ?_
  rintro e w4 ⟨rfl, hb⟩
  have B4 := Lib.hid hb
  have W24 := Lib.hid (W23.out.below hb)
  clear hb
  have R4 := Lib.hid ((((((RD1.out.below B2.out).more B2.out.size).below B3.out).more B3.out.size).below B4.out).more B4.out.size)
  have BB := Lib.hid (((B1.out.trans (B2.out.mono B1.out.size)).trans (B3.out.mono (Nat.le_trans B1.out.size B2.out.size))).trans (B4.out.mono (Nat.le_trans (Nat.le_trans B1.out.size B2.out.size) B3.out.size)))
  have ZL := Lib.hid (Nat.le_trans (Nat.le_trans B2.out.size B3.out.size) B4.out.size)
  clear L B2 B3 B4 W3 W23
  by_cases hq0 : q = 0
  · subst hq0
    go_wp2_with fail
    refine (sFlexSizes_any A1 m c1 zs sp w4 R4.out (by omega)).mono ?_
    rintro e w5 ⟨A5, q', c5, rfl, hq', hW, hb⟩
    obtain rfl : 0 = q' := W2.out.1.symm.trans hW.1
    have W5 := Lib.hid hW
    have W25 := Lib.hid (W24.out.below hb)
    have B5 := Lib.hid hb
    clear hW hb hq'
    go_wp2_with fail
    refine (equalInts_any A3 A5 0 c3 c5 (fsL zs m sp) _ _ w5 W25.out.rd W5.out.rd (by omega)).mono ?_
    rintro e w6 ⟨rfl, hb⟩
    have B6 := Lib.hid hb
    clear hb
    go_wp2
    go_ret
    exact ⟨rfl, (BB.out.trans (B5.out.mono BB.out.size)).trans (B6.out.mono (Nat.le_trans BB.out.size B5.out.size))⟩
  have hV : fsV zs m sp = true := by
    by_cases hV : fsV zs m sp = true
    · exact hV
    · have h1 := W2.out.1
      unfold fsL at h1
      rw [if_neg hV] at h1
      exact absurd h1.symm hq0
  obtain ⟨⟨m1, m8⟩, ha, p0, p1⟩ := fsV_iff.1 hV
  have HA := Lib.hid ha
  have HE : Hid (fsL zs m sp = flL zs m sp) := by unfold fsL; rw [if_pos hV]; rfl
  obtain rfl : m = q := by have h1 := W2.out.1; rw [HE.out] at h1; unfold flL at h1; rw [mk_len] at h1; exact h1
  have W4 := Lib.hid W24.out
  rw [HE.out] at W4
  clear ha hV W2 W24 HE hqm
  have hqz : ((m : Int) == 0) = false := by simp; omega
  obtain ⟨S, hS⟩ : ∃ S, Hid (tot (flL zs m sp) m = S) := ⟨_, rfl⟩
  have hSs : sm (flI zs m sp) m = S := by rw [← hS.out]; unfold flL; rw [tot_mk]
  have HSs := Lib.hid hSs
  have hsb := tot_ge (flL zs m sp) 0 10000 (flL_all HA.out sp) m (by unfold flL; rw [mk_len]; omega)
  rw [hS.out] at hsb
  obtain ⟨S0, S1⟩ := hsb
  clear hSs
  obtain ⟨b, off, rfl, _, hc⟩ := R4.out.cell (by omega)
  obtain ⟨b', off', rfl, _, hc'⟩ := W4.out.rd.cell (by omega)
  have HC := Lib.hid hc
  have HC' : Hid (∀ i, i < m → w4.cell? ⟨b', off' + i, none⟩ = some (.int .i64 (flI zs m sp i))) := fun i hi => by have h := hc' i hi; unfold flL at h; rw [mk_getD _ _ _ hi] at h; exact h
  clear hc hc'
  go_wp2_with fail
  refine (lsum_any _ m c3 _ _ w4 W4.out.rd (by omega) ((flL_all HA.out _).mono (by omega) (by omega))).mono ?_
  rintro e w' ⟨rfl, rfl⟩
  rw [hS.out]
  go_wp2
  go_loopw [7] (fun iv wr => ∃ i : Nat, i ≤ m ∧ iv = .int .i64 i ∧ Hid (∃ d, wr = w4.drewN d)) (fun iv _ => m - (intOf iv).toNat)
  case atStart => exact ⟨0, Nat.zero_le _, rfl, 0, rfl⟩
  case round =>
    obtain ⟨i, hi, rfl, hd⟩ := hrel
    obtain ⟨d, rfl⟩ := hd.out
    clear hd
    by_cases hlt : i < m
    · obtain ⟨c0, c1', c2, c3', c4⟩ := at5 HC.out hlt
      have cx := HC'.out i hlt
      have hfu := fun h1 h2 => fl_fill_up HA.out (sp := sp) h1 hlt h2
      have hfd := fun h1 h2 => fl_fill_down HA.out (sp := sp) h1 hlt h2
      rw [HSs.out] at hfu hfd
      obtain ⟨mn, hmn⟩ : ∃ x, Hid (mnF zs i = x) := ⟨_, rfl⟩
      obtain ⟨mx, hmx⟩ : ∃ x, Hid (mxF zs i = x) := ⟨_, rfl⟩
      obtain ⟨g, hg⟩ : ∃ x, Hid (grF zs i = x) := ⟨_, rfl⟩
      obtain ⟨s, hs⟩ : ∃ x, Hid (skF zs i = x) := ⟨_, rfl⟩
      obtain ⟨x, hx⟩ : ∃ x, Hid (flI zs m sp i = x) := ⟨_, rfl⟩
      rw [show zs.getD (5 * i + 1) 0 = mn from hmn.out] at c1'
      rw [show zs.getD (5 * i + 2) 0 = mx from hmx.out] at c2
      rw [show zs.getD (5 * i + 3) 0 = g from hg.out] at c3'
      rw [show zs.getD (5 * i + 4) 0 = s from hs.out] at c4
      rw [hx.out] at cx
      rw [hmx.out, hg.out, hx.out] at hfu
      rw [hmn.out, hs.out, hx.out] at hfd
      have i0 : (0 : Int) ≤ (i : Int) := by omega
      have i1 : (i : Int) < (m : Int) := by omega
      have hcase : (decide (0 < sp - S) = true ∧ decide (sp - S < 0) = false ∧ (decide (S < sp) = true ∧ decide (sp < S) = false) ∧ (decide (0 < g) = false ∨ (decide (0 < g) = true ∧ decide (x < mx) = false))) ∨
          (decide (0 < sp - S) = false ∧ decide (sp - S < 0) = true ∧ (decide (S < sp) = false ∧ decide (sp < S) = true) ∧ (decide (0 < s) = false ∨ (decide (0 < s) = true ∧ decide (mn < x) = false))) ∨
          (decide (0 < sp - S) = false ∧ decide (sp - S < 0) = false ∧ decide (S < sp) = false ∧ decide (sp < S) = false) := by
        by_cases h1 : S < sp
        · refine .inl ⟨by simp; omega, by simp; omega, ⟨by simp; omega, by simp; omega⟩, ?_⟩
          by_cases h2 : 0 < g
          · exact .inr ⟨by simpa using h2, by simpa using hfu h1 h2⟩
          · exact .inl (by simpa using h2)
        · by_cases h3 : sp < S
          · refine .inr (.inl ⟨by simp; omega, by simp; omega, ⟨by simp; omega, by simp; omega⟩, ?_⟩)
            by_cases h2 : 0 < s
            · exact .inr ⟨by simpa using h2, by simpa using hfd h3 h2⟩
            · exact .inl (by simpa using h2)
          · exact .inr (.inr ⟨by simp; omega, by simp; omega, by simp; omega, by simp; omega⟩)
      clear hfu hfd c0
      rcases hcase with ⟨e1, e2, ⟨e5, e6⟩, e3 | ⟨e3, e4⟩⟩ | ⟨e1, e2, ⟨e5, e6⟩, e3 | ⟨e3, e4⟩⟩ | ⟨e1, e2, e5, e6⟩
      all_goals
        go_wp2
        go_quiet (fail)
        go_wp2
        go_roundw
        case rel => exact ⟨i + 1, by omega, by go_num, _, rfl⟩
        case measure => simp [intOf]; omega
    · go_wp2
      go_ret
      exact ⟨rfl, below_drewN BB.out d⟩
set_option maxHeartbeats 4000000 in
theorem walkFnFlexSizesBase (A : Option Addr) (n c : Nat) (zs : List Int) (w : World) (h : IsRow .u8 w A n c zs) :
    Calls Try.prog 9 #[.slice A n c] w fun e w' => e = .returned (.bool true) ∧ Below w.heap.size w w' := by
  have H := Lib.hid h
  have hn : (n : Int) ≤ 9223372036854775807 := by obtain ⟨h1, h2, _⟩ := bytes_of_row h; unfold maxLen at h2; omega
  clear h
  by_cases hl : (1048576 : Int) < n
  · go_enter Try.func9, Try.ntmps9
    go_wp2
    go_ret
    exact ⟨rfl, Below.refl _ _⟩
  go_enter Try.func9, Try.ntmps9
  go_wp2_with fail
  refine (DrawFlexSizes_any _ _ _ _ _ H.out).mono ?_
  rintro e w1 ⟨A1, m, c1, zs, sp, rfl, ⟨s0, s1⟩, hL, hb1⟩
  have hm : m ≤ 9 := hL.1
  have L := Lib.hid hL
  have B1 := Lib.hid hb1
  have RD1 := Lib.hid hL.2.2.2.2.rd
  clear hL hb1
  go_wp2_with fail
  refine (iFlexSizes_any A1 m c1 zs sp w1 RD1.out (by omega)).mono ?_
  rintro e w2 ⟨A3, q, c3, rfl, hq, hW, hb⟩
  have W2 := Lib.hid hW
  have B2 := Lib.hid hb
  have hqm : q ≤ m := by have h1 := hW.1; have h2 := fsL_len zs m sp; omega
  clear hW hb
  go_wp2_with fail
  refine (sFlexSizes_any A1 m c1 zs sp w2 ((RD1.out.below B2.out).more B2.out.size) (by omega)).mono ?_
  rintro e w3 ⟨A4, q', c4, rfl, hq', hW, hb⟩
  obtain rfl : q = q' := W2.out.1.symm.trans hW.1
  have W3 := Lib.hid hW
  have W23 := Lib.hid (W2.out.below hb)
  have B3 := Lib.hid hb
  clear hW hb hq'
  go_wp2_with fail
  refine (equalInts_any A3 A4 q c3 c4 (fsL zs m sp) _ _ w3 W23.out.rd W3.out.rd (by omega)).mono ?_
  rintro e w4 ⟨rfl, hb⟩
  have B4 := Lib.hid hb
  have W24 := Lib.hid (W23.out.below hb)
  clear hb
  have R4 := Lib.hid ((((((RD1.out.below B2.out).more B2.out.size).below B3.out).more B3.out.size).below B4.out).more B4.out.size)
  have BB := Lib.hid (((B1.out.trans (B2.out.mono B1.out.size)).trans (B3.out.mono (Nat.le_trans B1.out.size B2.out.size))).trans (B4.out.mono (Nat.le_trans (Nat.le_trans B1.out.size B2.out.size) B3.out.size)))
  have ZL := Lib.hid (Nat.le_trans (Nat.le_trans B2.out.size B3.out.size) B4.out.size)
  clear L B2 B3 B4 W3 W23
  by_cases hq0 : q = 0
  · subst hq0
    go_wp2_with fail
    refine (sFlexSizes_any A1 m c1 zs sp w4 R4.out (by omega)).mono ?_
    rintro e w5 ⟨A5, q', c5, rfl, hq', hW, hb⟩
    obtain rfl : 0 = q' := W2.out.1.symm.trans hW.1
    have W5 := Lib.hid hW
    have W25 := Lib.hid (W24.out.below hb)
    have B5 := Lib.hid hb
    clear hW hb hq'
    go_wp2_with fail
    refine (equalInts_any A3 A5 0 c3 c5 (fsL zs m sp) _ _ w5 W25.out.rd W5.out.rd (by omega)).mono ?_
    rintro e w6 ⟨rfl, hb⟩
    have B6 := Lib.hid hb
    clear hb
    go_wp2
    go_ret
    exact ⟨rfl, (BB.out.trans (B5.out.mono BB.out.size)).trans (B6.out.mono (Nat.le_trans BB.out.size B5.out.size))⟩
  have hV : fsV zs m sp = true := by
    by_cases hV : fsV zs m sp = true
    · exact hV
    · have h1 := W2.out.1
      unfold fsL at h1
      rw [if_neg hV] at h1
      exact absurd h1.symm hq0
  obtain ⟨⟨m1, m8⟩, ha, p0, p1⟩ := fsV_iff.1 hV
  have HA := Lib.hid ha
  have HE : Hid (fsL zs m sp = flL zs m sp) := by unfold fsL; rw [if_pos hV]; rfl
  obtain rfl : m = q := by have h1 := W2.out.1; rw [HE.out] at h1; unfold flL at h1; rw [mk_len] at h1; exact h1
  have W4 := Lib.hid W24.out
  rw [HE.out] at W4
  clear ha hV W2 W24 HE hqm
  have hqz : ((m : Int) == 0) = false := by simp; omega
  have hOw := Lib.hid (Ow.empty w4 w4 w4.heap.size (Below.refl _ _) (Nat.le_refl _))
  go_wp2
  generalize w4.alloc (.cells #[] 3) = wa at hOw ⊢
  go_loopw [6, 7] (fun v iv wr => ∃ k : Nat, k ≤ m ∧ iv = .int .i64 k ∧ Hid (Ow w4 w4.heap.size v k (mk k (bsF zs)) wr)) (fun _ iv _ => m - (intOf iv).toNat)
  case atStart => exact ⟨0, Nat.zero_le _, rfl, hOw.out⟩
  case round =>
    obtain ⟨k, hk, rfl, hS⟩ := hrel
    by_cases hlt : k < m
    · obtain ⟨b, off, rfl, hbl, hc⟩ := R4.out.cell (by omega)
      obtain ⟨c0, _⟩ := at5 hc hlt
      obtain ⟨v, hv⟩ : ∃ v, Hid (zs.getD (5 * k) 0 = v) := ⟨_, rfl⟩
      rw [hv.out] at c0
      have hcell : wr.cell? ⟨b, off + k * 5, none⟩ = some (.int .i64 v) := by rw [hS.out.2.1.cell (p := ⟨b, off + k * 5, none⟩) hbl]; exact c0
      clear hc c0
      go_wp2_with (at_builtin; refine wpList_app1 _ rfl _ _ rfl w4.heap.size _ _ _ rfl (hS.out.alloc _) (by omega) wr.heap.size v rfl (by simp [go_sem]) ?_; intro v' w5 how hg; have HO := Lib.hid how; clear how hg)
      go_roundw
      case rel => exact ⟨k + 1, by omega, by go_num, by rw [mk_succ, show bsF zs k = v from hv.out]; exact HO.out⟩
      case measure => simp [intOf]; omega
    · obtain rfl : m = k := by omega
      obtain ⟨A5, c5, rfl, hc5, hm5, hW5, hB5⟩ := hS.out.out
      have W5 := Lib.hid hW5
      have B5 := Lib.hid hB5
      have R5 := Lib.hid ((R4.out.below hB5).more hB5.size)
      have W45 := Lib.hid ((W4.out.rd.below hB5).more hB5.size)
      have BX := Lib.hid (BB.out.trans (hB5.mono BB.out.size))
      clear hW5 hB5 hS
      obtain ⟨wb, hwb⟩ : ∃ W, Hid (wr = W) := ⟨_, rfl⟩
      obtain ⟨b, off, rfl, _, hc⟩ := R5.out.cell (by omega)
      obtain ⟨b', off', rfl, _, hc'⟩ := W45.out.cell (by omega)
      have HC := Lib.hid hc
      have HC' : Hid (∀ i, i < m → wr.cell? ⟨b', off' + i, none⟩ = some (.int .i64 (flI zs m sp i))) := fun i hi => by have h := hc' i hi; unfold flL at h; rw [mk_getD _ _ _ hi] at h; exact h
      clear hc hc'
      have hTb := flT_bd HA.out
      obtain ⟨T, hT⟩ : ∃ T, Hid (flT zs m = T) := ⟨_, rfl⟩
      rw [hT.out] at hTb
      obtain ⟨T0, T1⟩ := hTb
      have HEq : Hid (flL zs m T = mk m (bsF zs)) := by show _ = _; rw [← hT.out]; unfold flL; exact mk_congr _ _ _ fun i hi => fl_base HA.out hi
      have hmi : decide (m ≤ m) = true := by simp
      go_wp2
      go_loopw [8] (fun iv wx => ∃ i : Nat, i ≤ m ∧ iv = .int .i64 i ∧ Hid (∃ d, wx = wr.drewN d)) (fun iv _ => m - (intOf iv).toNat)
      case atStart => exact ⟨0, Nat.zero_le _, rfl, 0, rfl⟩
      case round =>
        obtain ⟨i, hi, rfl, hd⟩ := hrel
        obtain ⟨d, rfl⟩ := hd.out
        clear hd
        by_cases hlt2 : i < m
        · obtain ⟨c0, c1', c2, c3', c4⟩ := at5 HC.out hlt2
          have cx := HC'.out i hlt2
          have hng := fun h1 => fl_nogrow HA.out (sp := sp) hlt2 h1
          have hns := fun h1 => fl_noshrink HA.out (sp := sp) hlt2 h1
          obtain ⟨bs, hbs⟩ : ∃ x, Hid (bsF zs i = x) := ⟨_, rfl⟩
          obtain ⟨g, hg⟩ : ∃ x, Hid (grF zs i = x) := ⟨_, rfl⟩
          obtain ⟨s, hs⟩ : ∃ x, Hid (skF zs i = x) := ⟨_, rfl⟩
          obtain ⟨x, hx⟩ : ∃ x, Hid (flI zs m sp i = x) := ⟨_, rfl⟩
          rw [show zs.getD (5 * i) 0 = bs from hbs.out] at c0
          rw [show zs.getD (5 * i + 3) 0 = g from hg.out] at c3'
          rw [show zs.getD (5 * i + 4) 0 = s from hs.out] at c4
          rw [hx.out] at cx
          rw [hbs.out, hg.out, hx.out] at hng
          rw [hbs.out, hs.out, hx.out] at hns
          have i0 : (0 : Int) ≤ (i : Int) := by omega
          have i1 : (i : Int) < (m : Int) := by omega
          have i2 : decide (i < m) = true := by simpa using hlt2
          have e1 : (g == 0) = false ∨ ((g == 0) = true ∧ decide (bs < x) = false) := by
            by_cases h1 : g = 0
            · exact .inr ⟨by simp [h1], by simpa using hng h1⟩
            · exact .inl (by simp [h1])
          have e2 : (s == 0) = false ∨ ((s == 0) = true ∧ decide (x < bs) = false) := by
            by_cases h1 : s = 0
            · exact .inr ⟨by simp [h1], by simpa using hns h1⟩
            · exact .inl (by simp [h1])
          clear hng hns c1' c2
          rcases e1 with e1 | ⟨e1, e3⟩ <;> rcases e2 with e2 | ⟨e2, e4⟩
          all_goals
            go_wp2
            go_quiet (fail)
            go_wp2
            go_roundw
            case rel => exact ⟨i + 1, by omega, by go_num, _, rfl⟩
            case measure => simp [intOf]; omega
        · have i3 : decide (i < m) = false := by simpa using hlt2
          go_wp2_with fail
          refine (lsum_any A5 m c5 (mk m (bsF zs)) _ _ (W5.out.rd.drewN d) (by omega) (bases_all HA.out)).mono ?_
          rintro e w' ⟨rfl, rfl⟩
          rw [tot_mk, show sm (bsF zs) m = T from hT.out]
          go_wp2_with fail
          refine (iFlexSizes_any _ m c1 zs T _ (R5.out.drewN d) (by omega)).mono ?_
          rintro e w6 ⟨A6, q6, c6, rfl, hq6, hW, hb⟩
          rw [fsL_of m1 m8 HA.out T0 (by omega), HEq.out] at hW
          obtain rfl : m = q6 := by have h1 := hW.1; rw [mk_len] at h1; exact h1
          have W6 := Lib.hid hW
          have W56 := Lib.hid ((W5.out.drewN d).below hb)
          have B6 := Lib.hid hb
          clear hW hb hq6
          go_wp2_with fail
          refine (equalInts_any A6 A5 m c6 c5 _ _ _ w6 W6.out.rd W56.out.rd (by omega)).mono ?_
          rintro e w7 ⟨rfl, hb⟩
          have B7 := Lib.hid hb
          clear hb
          go_wp2
          go_ret
          exact ⟨rfl, ((below_drewN BX.out d).trans (B6.out.mono BX.out.size)).trans (B7.out.mono (Nat.le_trans BX.out.size B6.out.size))⟩
end Go.Proofs.Ytpemgcpnabaojaa
