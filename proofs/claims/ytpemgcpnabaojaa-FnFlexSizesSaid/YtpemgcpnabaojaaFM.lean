/- The laws of flexible sizes: the walks (2). -/
import Derived.Test.YtpemgcpnabaojaaFL
namespace Go.Proofs.Ytpemgcpnabaojaa
open Go.RowKit

set_option maxHeartbeats 4000000 in
theorem walkFnLeftOver (A : Option Addr) (n c : Nat) (zs : List Int) (w : World) (h : IsRow .u8 w A n c zs) :
    Calls Try.prog 8 #[.slice A n c] w fun e w' => e = .returned (.bool true) ∧ Below w.heap.size w w' := by
  have H := Lib.hid h
  have hn : (n : Int) ≤ 9223372036854775807 := by obtain ⟨h1, h2, _⟩ := bytes_of_row h; unfold maxLen at h2; omega
  clear h
  by_cases hl : (1048576 : Int) < n
  · go_enter Try.func8, Try.ntmps8
    go_wp2
    go_ret
    exact ⟨rfl, Below.refl _ _⟩
  go_enter Try.func8, Try.ntmps8
  go_wp2_with fail
  refine (DrawLeftOver_any _ _ _ _ _ H.out).mono ?_
  rintro e w1 ⟨A1, m, c1, zs, sp, rfl, ⟨s0, s1⟩, hL, hb1⟩
  have hm : m ≤ 9 := hL.1
  have B1 := Lib.hid hb1
  have R1 := Lib.hid hL.2.2.2.2.rd
  clear hL hb1
  obtain ⟨V, hV⟩ : ∃ V, Hid (loV zs m sp = V) := ⟨_, rfl⟩
  go_wp2_with fail
  refine (iLeftOver_any A1 m c1 zs sp w1 R1.out (by omega)).mono ?_
  rintro e w2 ⟨rfl, hb⟩
  rw [hV.out]
  have B2 := Lib.hid (B1.out.trans (hb.mono B1.out.size))
  have R2 := Lib.hid ((R1.out.below hb).more hb.size)
  clear hb
  go_wp2_with fail
  refine (iFlexSizes_any A1 m c1 zs sp w2 R2.out (by omega)).mono ?_
  rintro e w3 ⟨A3, q, c3, rfl, hq, hW, hb⟩
  have W3 := Lib.hid hW
  have B3 := Lib.hid (B2.out.trans (hb.mono B2.out.size))
  have R3 := Lib.hid ((R2.out.below hb).more hb.size)
  have hqm : q ≤ m := by have h1 := hW.1; have h2 := fsL_len zs m sp; omega
  clear hW hb
  go_wp2_with fail
  refine (sLeftOver_any A1 m c1 zs sp w3 R3.out (by omega)).mono ?_
  rintro e w4 ⟨rfl, hb⟩
  rw [hV.out]
  have B4 := Lib.hid (B3.out.trans (hb.mono B3.out.size))
  have R4 := Lib.hid ((R3.out.below hb).more hb.size)
  have W4 := Lib.hid (W3.out.below hb)
  clear hb
  by_cases hq0 : q = 0
  · subst hq0
    go_wp2_with fail
    refine (sLeftOver_any A1 m c1 zs sp w4 R4.out (by omega)).mono ?_
    rintro e w5 ⟨rfl, hb⟩
    rw [hV.out]
    have B5 := Lib.hid (B4.out.trans (hb.mono B4.out.size))
    clear hb
    go_wp2
    go_ret
    exact ⟨ret_bool (by simp), B5.out⟩
  have hF : fsV zs m sp = true := by
    by_cases hF : fsV zs m sp = true
    · exact hF
    · have h1 := W4.out.1
      unfold fsL at h1
      rw [if_neg hF] at h1
      exact absurd h1.symm hq0
  obtain ⟨⟨m1, m8⟩, ha, p0, p1⟩ := fsV_iff.1 hF
  have HA := Lib.hid ha
  have HE : Hid (fsL zs m sp = flL zs m sp) := fsL_of m1 m8 ha p0 p1
  obtain rfl : m = q := by have h1 := W4.out.1; rw [HE.out] at h1; unfold flL at h1; rw [mk_len] at h1; exact h1
  have W5 := Lib.hid W4.out
  rw [HE.out] at W5
  obtain ⟨S, hS⟩ : ∃ S, Hid (tot (flL zs m sp) m = S) := ⟨_, rfl⟩
  have hsb := tot_ge (flL zs m sp) 0 10000 (flL_all HA.out sp) m (by unfold flL; rw [mk_len]; omega)
  rw [hS.out] at hsb
  obtain ⟨S0, S1⟩ := hsb
  have hVS : V = sp - S := by rw [← hV.out, ← hS.out]; unfold loV flL; rw [if_pos hF, tot_mk]
  have hqz : ((m : Int) == 0) = false := by simp; omega
  clear ha hF W4 hqm
  subst hVS
  go_wp2_with fail
  refine (lsum_any A3 m c3 _ _ w4 W5.out.rd (by omega) ((flL_all HA.out _).mono (by omega) (by omega))).mono ?_
  rintro e w' ⟨rfl, rfl⟩
  rw [hS.out]
  go_wp2
  go_ret
  exact ⟨ret_bool (by simp), B4.out⟩
set_option maxHeartbeats 4000000 in
theorem walkFnFlexSizes (A : Option Addr) (n c : Nat) (zs : List Int) (w : World) (h : IsRow .u8 w A n c zs) :
    Calls Try.prog 5 #[.slice A n c] w fun e w' => e = .returned (.bool true) ∧ Below w.heap.size w w' := by
  have H := Lib.hid h
  have hn : (n : Int) ≤ 9223372036854775807 := by obtain ⟨h1, h2, _⟩ := bytes_of_row h; unfold maxLen at h2; omega
  clear h
  by_cases hl : (1048576 : Int) < n
  · go_enter Try.func5, Try.ntmps5
    go_wp2
    go_ret
    exact ⟨rfl, Below.refl _ _⟩
  go_enter Try.func5, Try.ntmps5
  go_wp2_with fail
  refine (DrawFlexSizes_any _ _ _ _ _ H.out).mono ?_
  rintro e w1 ⟨A1, m, c1, zs, sp, rfl, ⟨s0, s1⟩, hL, hb1⟩
  have hm : m ≤ 9 := hL.1
  have L := Lib.hid hL
  have B1 := Lib.hid hb1
  have RD1 := Lib.hid hL.2.2.2.2.rd
  clear hL hb1
  go_wp2_with fail
  refine (iFlexSizes_any A1 m c1 zs sp w1 RD1.out (by omega)).mono ?_
  rintro e w2 ⟨A3, q, c3, rfl, hq, hW, hb⟩
  have W2 := Lib.hid hW
  have B2 := Lib.hid hb
  have hqm : q ≤ m := by have h1 := hW.1; have h2 := fsL_len zs m sp; omega
  clear hW hb
  go_wp2_with fail
  refine (sFlexSizes_any A1 m c1 zs sp w2 ((RD1.out.below B2.out).more B2.out.size) (by omega)).mono ?_
  rintro e w3 ⟨A4, q', c4, rfl, hq', hW, hb⟩
  obtain rfl : q = q' := W2.out.1.symm.trans hW.1
  have W3 := Lib.hid hW
  have W23 := Lib.hid (W2.out.below hb)
  have B3 := Lib.hid hb
  clear hW hb hq'
  go_wp2_with fail
  refine (equalInts_any A3 A4 q c3 c4 (fsL zs m sp) _ _ w3 W23.out.rd W3.out.rd (by omega)).mono ?_
  rintro e w4 ⟨rfl, hb⟩
  have B4 := Lib.hid hb
  have W24 := Lib.hid (W23.out.below hb)
  clear hb
  have R4 := Lib.hid ((((((RD1.out.below B2.out).more B2.out.size).below B3.out).more B3.out.size).below B4.out).more B4.out.size)
  have BB := Lib.hid (((B1.out.trans (B2.out.mono B1.out.size)).trans (B3.out.mono (Nat.le_trans B1.out.size B2.out.size))).trans (B4.out.mono (Nat.le_trans (Nat.le_trans B1.out.size B2.out.size) B3.out.size)))
  have ZL := Lib.hid (Nat.le_trans (Nat.le_trans B2.out.size B3.out.size) B4.out.size)
  clear L B2 B3 B4 W3 W23
  by_cases hq0 : q = 0
  · subst hq0
    go_wp2_with fail
    refine (sFlexSizes_any A1 m c1 zs sp w4 R4.out (by omega)).mono ?_
    rintro e w5 ⟨A5, q', c5, rfl, hq', hW, hb⟩
    obtain rfl : 0 = q' := W2.out.1.symm.trans hW.1
    have W5 := Lib.hid hW
    have W25 := Lib.hid (W24.out.below hb)
    have B5 := Lib.hid hb
    clear hW hb hq'
    go_wp2_with fail
    refine (equalInts_any A3 A5 0 c3 c5 (fsL zs m sp) _ _ w5 W25.out.rd W5.out.rd (by omega)).mono ?_
    rintro e w6 ⟨rfl, hb⟩
    have B6 := Lib.hid hb
    clear hb
    go_wp2
    go_ret
    exact ⟨rfl, (BB.out.trans (B5.out.mono BB.out.size)).trans (B6.out.mono (Nat.le_trans BB.out.size B5.out.size))⟩
  have hV : fsV zs m sp = true := by
    by_cases hV : fsV zs m sp = true
    · exact hV
    · have h1 := W2.out.1
      unfold fsL at h1
      rw [if_neg hV] at h1
      exact absurd h1.symm hq0
  obtain ⟨⟨m1, m8⟩, ha, p0, p1⟩ := fsV_iff.1 hV
  have HA := Lib.hid ha
  have HE : Hid (fsL zs m sp = flL zs m sp) := by unfold fsL; rw [if_pos hV]; rfl
  obtain rfl : m = q := by have h1 := W2.out.1; rw [HE.out] at h1; unfold flL at h1; rw [mk_len] at h1; exact h1
  have W4 := Lib.hid W24.out
  rw [HE.out] at W4
  clear ha hV W2 W24 HE hqm
  have hqz : ((m : Int) == 0) = false := by simp; omega
  obtain ⟨b, off, rfl, _, hc⟩ := R4.out.cell (by omega)
  obtain ⟨b', off', rfl, _, hc'⟩ := W4.out.rd.cell (by omega)
  have HC := Lib.hid hc
  have HC' : Hid (∀ i, i < m → w4.cell? ⟨b', off' + i, none⟩ = some (.int .i64 (flI zs m sp i))) := fun i hi => by have h := hc' i hi; unfold flL at h; rw [mk_getD _ _ _ hi] at h; exact h
  clear hc hc'
  by_cases hle : flT zs m ≤ sp
  · have HU : Hid (∀ i, i < m → bsF zs i ≤ flI zs m sp i) := fun i hi => fl_up HA.out hle hi
    clear hle
    go_wp2
    go_loopw [6, 7, 8] (fun mv lv iv wr => ∃ (i : Nat) (bm : Bool), i ≤ m ∧ iv = .int .i64 i ∧ mv = .bool bm ∧ lv = .bool false ∧ Hid (∃ d, wr = w4.drewN d)) (fun _ _ iv _ => m - (intOf iv).toNat)
    case atStart => exact ⟨0, false, Nat.zero_le _, rfl, rfl, rfl, 0, rfl⟩
    case round =>
      obtain ⟨i, bm, hi, rfl, rfl, rfl, hd⟩ := hrel
      obtain ⟨d, rfl⟩ := hd.out
      clear hd
      by_cases hlt : i < m
      · obtain ⟨c0, c1', c2, c3', c4⟩ := at5 HC.out hlt
        have cx := HC'.out i hlt
        have hu := HU.out i hlt
        obtain ⟨hb1, hb2⟩ := flI_bd HA.out (sp := sp) hlt
        obtain ⟨bs, hbs⟩ : ∃ x, Hid (bsF zs i = x) := ⟨_, rfl⟩
        obtain ⟨mn, hmn⟩ : ∃ x, Hid (mnF zs i = x) := ⟨_, rfl⟩
        obtain ⟨mx, hmx⟩ : ∃ x, Hid (mxF zs i = x) := ⟨_, rfl⟩
        obtain ⟨x, hx⟩ : ∃ x, Hid (flI zs m sp i = x) := ⟨_, rfl⟩
        rw [show zs.getD (5 * i) 0 = bs from hbs.out] at c0
        rw [show zs.getD (5 * i + 1) 0 = mn from hmn.out] at c1'
        rw [show zs.getD (5 * i + 2) 0 = mx from hmx.out] at c2
        rw [hx.out] at cx
        rw [hx.out, hbs.out] at hu
        rw [hx.out, hmn.out] at hb1
        rw [hx.out, hmx.out] at hb2
        have i0 : (0 : Int) ≤ (i : Int) := by omega
        have i1 : (i : Int) < (m : Int) := by omega
        have e0 : decide (m ≤ i) = false := by simpa using hlt
        have e0' : decide ((m : Int) ≤ (i : Int)) = false := by simpa using hlt
        have e1 : decide (x < mn) = false := by simpa using hb1
        have e2 : decide (mx < x) = false := by simpa using hb2
        have e3 : decide (x < bs) = false := by simpa using hu
        obtain ⟨y, hy⟩ : ∃ y, Hid (decide (bs < x) = y) := ⟨_, rfl⟩
        have e4 : decide (bs < x) = y := hy.out
        clear c3' c4 hu hb1 hb2 hy
        cases bm <;> cases y
        all_goals
          go_wp2
          go_quiet (fail)
          go_wp2
          go_quiet (fail)
          go_wp2
          go_quiet (fail)
          go_wp2
          go_roundw
          case rel => exact ⟨i + 1, _, by omega, by go_num, rfl, rfl, _, rfl⟩
          case measure => simp [intOf]; omega
      · cases bm
        all_goals
          go_wp2
          go_ret
          exact ⟨ret_bool (by simp), below_drewN BB.out d⟩
  · have HU : Hid (∀ i, i < m → flI zs m sp i ≤ bsF zs i) := fun i hi => fl_down HA.out hle hi
    clear hle
    go_wp2
    go_loopw [6, 7, 8] (fun mv lv iv wr => ∃ (i : Nat) (bm : Bool), i ≤ m ∧ iv = .int .i64 i ∧ mv = .bool false ∧ lv = .bool bm ∧ Hid (∃ d, wr = w4.drewN d)) (fun _ _ iv _ => m - (intOf iv).toNat)
    case atStart => exact ⟨0, false, Nat.zero_le _, rfl, rfl, rfl, 0, rfl⟩
    case round =>
      obtain ⟨i, bm, hi, rfl, rfl, rfl, hd⟩ := hrel
      obtain ⟨d, rfl⟩ := hd.out
      clear hd
      by_cases hlt : i < m
      · obtain ⟨c0, c1', c2, c3', c4⟩ := at5 HC.out hlt
        have cx := HC'.out i hlt
        have hu := HU.out i hlt
        obtain ⟨hb1, hb2⟩ := flI_bd HA.out (sp := sp) hlt
        obtain ⟨bs, hbs⟩ : ∃ x, Hid (bsF zs i = x) := ⟨_, rfl⟩
        obtain ⟨mn, hmn⟩ : ∃ x, Hid (mnF zs i = x) := ⟨_, rfl⟩
        obtain ⟨mx, hmx⟩ : ∃ x, Hid (mxF zs i = x) := ⟨_, rfl⟩
        obtain ⟨x, hx⟩ : ∃ x, Hid (flI zs m sp i = x) := ⟨_, rfl⟩
        rw [show zs.getD (5 * i) 0 = bs from hbs.out] at c0
        rw [show zs.getD (5 * i + 1) 0 = mn from hmn.out] at c1'
        rw [show zs.getD (5 * i + 2) 0 = mx from hmx.out] at c2
        rw [hx.out] at cx
        rw [hx.out, hbs.out] at hu
        rw [hx.out, hmn.out] at hb1
        rw [hx.out, hmx.out] at hb2
        have i0 : (0 : Int) ≤ (i : Int) := by omega
        have i1 : (i : Int) < (m : Int) := by omega
        have e0 : decide (m ≤ i) = false := by simpa using hlt
        have e0' : decide ((m : Int) ≤ (i : Int)) = false := by simpa using hlt
        have e1 : decide (x < mn) = false := by simpa using hb1
        have e2 : decide (mx < x) = false := by simpa using hb2
        have e3 : decide (bs < x) = false := by simpa using hu
        obtain ⟨y, hy⟩ : ∃ y, Hid (decide (x < bs) = y) := ⟨_, rfl⟩
        have e4 : decide (x < bs) = y := hy.out
        clear c3' c4 hu hb1 hb2 hy
        cases bm <;> cases y
        all_goals
          go_wp2
          go_quiet (fail)
          go_wp2
          go_quiet (fail)
          go_wp2
          go_quiet (fail)
          go_wp2
          go_roundw
          case rel => exact ⟨i + 1, _, by omega, by go_num, rfl, rfl, _, rfl⟩
          case measure => simp [intOf]; omega
      · cases bm
        all_goals
          go_wp2
          go_ret
          exact ⟨ret_bool (by simp), below_drewN BB.out d⟩
end Go.Proofs.Ytpemgcpnabaojaa
