/- The laws of flexible sizes: the walks (3). -/
import Derived.Test.YtpemgcpnabaojaaFL
import Derived.Test.YtpemgcpnabaojaaPI
import Derived.Test.YtpemgcpnabaojaaFR2
import Derived.Deep.RegionWith
namespace Go.Proofs.Ytpemgcpnabaojaa
open Go.RowKit

set_option maxHeartbeats 4000000 in
theorem walkFnFlexSizesStiff (A : Option Addr) (n c : Nat) (zs : List Int) (w : World) (h : IsRow .u8 w A n c zs) :
    Calls Try.prog 7 #[.slice A n c] w fun e w' => e = .returned (.bool true) ∧ Below w.heap.size w w' := by
  have H := Lib.hid h
  have hn : (n : Int) ≤ 9223372036854775807 := by obtain ⟨h1, h2, _⟩ := bytes_of_row h; unfold maxLen at h2; omega
  clear h
  by_cases hl : (1048576 : Int) < n
  · go_enter Try.func7, Try.ntmps7
    go_wp2
    go_ret
    exact ⟨rfl, Below.refl _ _⟩
  go_enter Try.func7, Try.ntmps7
  go_wp2_with fail
  refine (DrawFlexSizes_any _ _ _ _ _ H.out).mono ?_
  rintro e w1 ⟨A1, m, c1, zs, sp, rfl, ⟨s0, s1⟩, hL, hb1⟩
  have hm : m ≤ 9 := hL.1
  have L := Lib.hid hL
  have B1 := Lib.hid hb1
  have RD1 := Lib.hid hL.2.2.2.2.rd
  clear hL hb1
  go_wp2_with fail
  refine (iFlexSizes_any A1 m c1 zs sp w1 RD1.out (by omega)).mono ?_
  rintro e w2 ⟨A3, q, c3, rfl, hq, hW, hb⟩
  have W2 := Lib.hid hW
  have B2 := Lib.hid hb
  have hqm : q ≤ m := by have h1 := hW.1; have h2 := fsL_len zs m sp; omega
  clear hW hb
  go_wp2_with fail
  refine (sFlexSizes_any A1 m c1 zs sp w2 ((RD1.out.below B2.out).more B2.out.size) (by omega)).mono ?_
  rintro e w3 ⟨A4, q', c4, rfl, hq', hW, hb⟩
  obtain rfl : q = q' := W2.out.1.symm.trans hW.1
  have W3 := Lib.hid hW
  have W23 := Lib.hid (W2.out.below hb)
  have B3 := Lib.hid hb
  clear hW hb hq'
  go_wp2_with fail
  refine (equalInts_any A3 A4 q c3 c4 (fsL zs m sp) _ _ w3 W23.out.rd W3.out.rd (by omega)).mono ?_
  rintro e w4 ⟨rfl, hb⟩
  have B4 := Lib.hid hb
  have W24 := Lib.hid (W23.out.below hb)
  clear hb
  have R4 := Lib.hid ((((((RD1.out.below B2.out).more B2.out.size).below B3.out).more B3.out.size).below B4.out).more B4.out.size)
  have BB := Lib.hid (((B1.out.trans (B2.out.mono B1.out.size)).trans (B3.out.mono (Nat.le_trans B1.out.size B2.out.size))).trans (B4.out.mono (Nat.le_trans (Nat.le_trans B1.out.size B2.out.size) B3.out.size)))
  have ZL := Lib.hid (Nat.le_trans (Nat.le_trans B2.out.size B3.out.size) B4.out.size)
  clear L B2 B3 B4 W3 W23
  by_cases hq0 : q = 0
  · subst hq0
    go_wp2_with fail
    refine (sFlexSizes_any A1 m c1 zs sp w4 R4.out (by omega)).mono ?_
    rintro e w5 ⟨A5, q', c5, rfl, hq', hW, hb⟩
    obtain rfl : 0 = q' := W2.out.1.symm.trans hW.1
    have W5 := Lib.hid hW
    have W25 := Lib.hid (W24.out.below hb)
    have B5 := Lib.hid hb
    clear hW hb hq'
    go_wp2_with fail
    refine (equalInts_any A3 A5 0 c3 c5 (fsL zs m sp) _ _ w5 W25.out.rd W5.out.rd (by omega)).mono ?_
    rintro e w6 ⟨rfl, hb⟩
    have B6 := Lib.hid hb
    clear hb
    go_wp2
    go_ret
    exact ⟨rfl, (BB.out.trans (B5.out.mono BB.out.size)).trans (B6.out.mono (Nat.le_trans BB.out.size B5.out.size))⟩
  have hV : fsV zs m sp = true := by
    by_cases hV : fsV zs m sp = true
    · exact hV
    · have h1 := W2.out.1
      unfold fsL at h1
      rw [if_neg hV] at h1
      exact absurd h1.symm hq0
  obtain ⟨⟨m1, m8⟩, ha, p0, p1⟩ := fsV_iff.1 hV
  have HA := Lib.hid ha
  have HE : Hid (fsL zs m sp = flL zs m sp) := by unfold fsL; rw [if_pos hV]; rfl
  obtain rfl : m = q := by have h1 := W2.out.1; rw [HE.out] at h1; unfold flL at h1; rw [mk_len] at h1; exact h1
  have W4 := Lib.hid W24.out
  rw [HE.out] at W4
  clear ha hV W2 W24 HE hqm
  have hqz : ((m : Int) == 0) = false := by simp; omega
  have hRk := Lib.hid ((Rk.empty w4 5 29 w4.heap.size (Nat.le_refl _)).alloc (.cells #[] 3))
  have hRw := Lib.hid (Rw.empty (w4.alloc (.cells #[] 29)) w4.heap.size (by simp))
  have hBl := Lib.hid (((Below.refl w4.heap.size w4).alloc (Nat.le_refl _) (.cells #[] 29)).alloc (by simp) (.cells #[] 3))
  rw [show (w4.alloc (.cells #[] 29)).heap.size = w4.heap.size + 1 by simp] at hRw
  go_wp2
  generalize (w4.alloc (.cells #[] 29)).alloc (.cells #[] 3) = wa at hRk hRw hBl ⊢
  go_loopw [6, 7, 8] (fun sv bv iv wr => ∃ k : Nat, k ≤ m ∧ iv = .int .i64 k ∧ Hid (Rk 5 29 w4.heap.size sv k (stL zs k) wr ∧ Rw w4.heap.size bv k (mk k (bsF zs)) wr ∧ Below w4.heap.size w4 wr)) (fun _ _ iv _ => m - (intOf iv).toNat)
  case atStart => exact ⟨0, Nat.zero_le _, rfl, hRk.out, hRw.out, hBl.out⟩
  case round =>
    obtain ⟨k, hk, rfl, hI⟩ := hrel
    by_cases hlt : k < m
    · obtain ⟨b, off, rfl, hb, hc⟩ := R4.out.cell (by omega)
      have hcell : ∀ j, j < 5 * m → wr.cell? ⟨b, off + j, none⟩ = some (.int .i64 (zs.getD j 0)) := fun j hj => by rw [hI.out.2.2.cell (p := ⟨b, off + j, none⟩) hb]; exact hc j hj
      obtain ⟨c0, c1', c2, c3', c4⟩ := at5 hcell hlt
      obtain ⟨y0, h0⟩ : ∃ x, Hid (bsF zs k = x) := ⟨_, rfl⟩
      obtain ⟨y1, h1⟩ : ∃ x, Hid (mnF zs k = x) := ⟨_, rfl⟩
      obtain ⟨y2, h2⟩ : ∃ x, Hid (mxF zs k = x) := ⟨_, rfl⟩
      rw [show zs.getD (5 * k) 0 = y0 from h0.out] at c0
      rw [show zs.getD (5 * k + 1) 0 = y1 from h1.out] at c1'
      rw [show zs.getD (5 * k + 2) 0 = y2 from h2.out] at c2
      have HC0 := Lib.hid c0
      have hkm : (k : Int) < (m : Int) := by omega
      have hk0 : (0 : Int) ≤ (k : Int) := by omega
      clear hcell hc c3' c4
      go_wp2
      go_region_law (first
        | ((refine step_appFlex rfl (.tmp 44) (.tmp 61) rfl w4.heap.size _ k (stL zs k) (by simp [Act.eval]) ((hI.out.1.grown (row := none) (gb_drewN (World.grownBy.refl wr _) 1) (fun r e => by cases e)).alloc (.cells #[.int .i64 y0, .int .i64 y1, .int .i64 y2, .int .i64 0, .int .i64 0] 29)) (by omega) wr.heap.size y0 y1 y2 0 0 (by simp [Act.eval]) (by simp [go_sem]) (by simp [go_sem]) (by simp [go_sem]) (by simp [go_sem]) (by simp [go_sem]) ?_; intro v' wn hown hg)))
      all_goals
        have HK := Lib.hid hown
        have HR := Lib.hid (((hI.out.2.1.grown (row := none) (gb_drewN (World.grownBy.refl wr _) 1) (fun r e => by cases e)).alloc (.cells #[.int .i64 y0, .int .i64 y1, .int .i64 y2, .int .i64 0, .int .i64 0] 29)).beside5 ((hI.out.1.grown (row := none) (gb_drewN (World.grownBy.refl wr _) 1) (fun r e => by cases e)).alloc _) hg)
        have HB := Lib.hid (((below_drewN hI.out.2.2 1).alloc (by have := hI.out.2.2.size; simpa using this) (.cells #[.int .i64 y0, .int .i64 y1, .int .i64 y2, .int .i64 0, .int .i64 0] 29)).grown hg (by have := hI.out.2.2.size; simp; omega) (fun r e => hI.out.1.row r e))
        clear hown hg
        have c0 : wn.cell? ⟨b, off + k * 5, none⟩ = some (.int .i64 y0) := by rw [HB.out.cell (p := ⟨b, off + k * 5, none⟩) hb, ← hI.out.2.2.cell (p := ⟨b, off + k * 5, none⟩) hb]; exact HC0.out
        go_simp
        go_wp2_with (at_builtin; refine wpList_app2 _ rfl _ _ rfl w4.heap.size _ _ _ rfl (HR.out.alloc _) (by omega) wn.heap.size y0 rfl (by simp [go_sem]) ?_; intro v'' w5 how hg5; have HO := Lib.hid how; have HK5 := Lib.hid ((HK.out.alloc _).beside5 (HR.out.alloc _) hg5); have HB5 := Lib.hid ((HB.out.alloc HB.out.size _).grown hg5 (by have := HB.out.size; simp; omega) (fun r e => HR.out.row r e)); clear how hg5)
        go_roundw
        case rel => exact ⟨k + 1, by omega, by go_num, by rw [stL_succ, h0.out, h1.out, h2.out]; exact HK5.out, by rw [mk_succ, h0.out]; exact HO.out, HB5.out⟩
        case measure => simp [intOf]; omega
    · obtain rfl : m = k := by omega
      obtain ⟨A6, c6, rfl, _, _, _, hK6⟩ := hI.out.1.out
      obtain ⟨A7, c7, rfl, _, _, _, hR7⟩ := hI.out.2.1.outN
      have R6 := Lib.hid hK6.rd
      have R7 := Lib.hid hR7
      have BX := Lib.hid (BB.out.trans (hI.out.2.2.mono BB.out.size))
      have HEq := Lib.hid (st_same HA.out sp)
      have HOk := Lib.hid (stL_ok HA.out)
      clear hK6 hR7 hRk hRw hBl
      go_wp2_with fail
      refine (iFlexSizes_any A6 m c6 (stL zs m) sp wr R6.out (by omega)).mono ?_
      rintro e w5 ⟨A5, q5, c5, rfl, hq5, hW, hb⟩
      rw [fsL_of m1 m8 HOk.out p0 p1, HEq.out] at hW
      obtain rfl : m = q5 := by have h1 := hW.1; rw [mk_len] at h1; exact h1
      have W5 := Lib.hid hW
      have W75 := Lib.hid (R7.out.below hb)
      have B5 := Lib.hid hb
      clear hW hb hq5
      go_wp2_with fail
      refine (equalInts_any A5 A7 m c5 c7 _ _ _ w5 W5.out.rd W75.out.rd (by omega)).mono ?_
      rintro e w6 ⟨rfl, hb⟩
      have B6 := Lib.hid hb
      clear hb
      go_wp2
      go_ret
      exact ⟨rfl, (BX.out.trans (B5.out.mono BX.out.size)).trans (B6.out.mono (Nat.le_trans BX.out.size B5.out.size))⟩
set_option maxHeartbeats 4000000 in
theorem walkFnLeftOverGrow (A : Option Addr) (n c : Nat) (zs : List Int) (w : World) (h : IsRow .u8 w A n c zs) :
    Calls Try.prog 3 #[.slice A n c] w fun e w' => e = .returned (.bool true) ∧ Below w.heap.size w w' := by
  have H := Lib.hid h
  have hn : (n : Int) ≤ 9223372036854775807 := by obtain ⟨h1, h2, _⟩ := bytes_of_row h; unfold maxLen at h2; omega
  clear h
  by_cases hl : (1048576 : Int) < n
  · go_enter Try.func3, Try.ntmps3
    go_wp2
    go_ret
    exact ⟨rfl, Below.refl _ _⟩
  go_enter Try.func3, Try.ntmps3
  go_wp2_with fail
  refine (DrawLeftOver_any _ _ _ _ _ H.out).mono ?_
  rintro e w1 ⟨A1, m, c1, zs, sp, rfl, ⟨s0, s1⟩, hL, hb1⟩
  have hm : m ≤ 9 := hL.1
  have B1 := Lib.hid hb1
  have R1 := Lib.hid hL.2.2.2.2.rd
  clear hL hb1
  obtain ⟨V, hV⟩ : ∃ V, Hid (loV zs m sp = V) := ⟨_, rfl⟩
  go_wp2_with fail
  refine (iLeftOver_any A1 m c1 zs sp w1 R1.out (by omega)).mono ?_
  rintro e w2 ⟨rfl, hb⟩
  rw [hV.out]
  have B2 := Lib.hid (B1.out.trans (hb.mono B1.out.size))
  have R2 := Lib.hid ((R1.out.below hb).more hb.size)
  clear hb
  go_wp2_with fail
  refine (sLeftOver_any A1 m c1 zs sp w2 R2.out (by omega)).mono ?_
  rintro e w3 ⟨rfl, hb⟩
  rw [hV.out]
  have B3 := Lib.hid (B2.out.trans (hb.mono B2.out.size))
  have R3 := Lib.hid ((R2.out.below hb).more hb.size)
  clear hb
  obtain ⟨F, hF⟩ : ∃ F, Hid (vF zs m = F) := ⟨_, rfl⟩
  go_wp2_with fail
  refine (iValidFlexes_any A1 m c1 zs w3 R3.out (by omega)).mono ?_
  rintro e w4 ⟨rfl, hb⟩
  rw [hF.out]
  have B4 := Lib.hid (B3.out.trans (hb.mono B3.out.size))
  have R4 := Lib.hid ((R3.out.below hb).more hb.size)
  clear hb
  by_cases hgo : F = true ∧ ¬ m = 8 ∧ 0 ≤ sp ∧ sp ≤ 10000
  · obtain ⟨rfl, hm8, p0, p1⟩ := hgo
    have hm8' : ((m : Int) == 8) = false := by simp; omega
    obtain ⟨⟨m1, m9⟩, ho⟩ := vF_iff.1 hF.out
    have HA : Hid (okS zs m) := ho
    have hm7 : m ≤ 7 := by omega
    have HO2 := Lib.hid (more_ok R4.out.1 HA.out)
    have htk := more_takes R4.out.1 HA.out p1
    have HLo : Hid (loV (zs ++ [0, 0, 10000, 1, 0]) (m + 1) sp ≤ 0) := by
      show _ ≤ _
      unfold loV
      rw [if_pos (fsV_iff.2 ⟨⟨by omega, by omega⟩, HO2.out, p0, by omega⟩)]
      omega
    clear ho htk hm8
    obtain ⟨b, off, rfl, _, _⟩ := R4.out.cell (by omega)
    have hRk := Lib.hid (Rk.empty w4 5 29 w4.heap.size (Nat.le_refl _))
    have HB0 := Lib.hid ((Below.refl w4.heap.size w4).alloc (Nat.le_refl _) (.cells #[] 29))
    have tok1 : True := trivial
    go_wp2_with (first
      | (at_builtin; have _t := tok1; refine wpList_allFlex _ rfl _ _ rfl w4.heap.size _ _ _ rfl hRk.out w4.heap.size b off m c1 zs rfl (R4.out.alloc (Nat.le_refl _) _) (by omega) (by omega) ?_; intro v5 w5 how hg; clear tok1; rw [Nat.zero_add, List.nil_append] at how; have HK5 := Lib.hid how; have HB5 := Lib.hid (HB0.out.grown hg HB0.out.size (fun r e => hRk.out.row r e)); clear how hg)
      | (at_builtin; refine wpList_appFlex _ rfl _ _ rfl w4.heap.size _ _ _ rfl (HK5.out.alloc _) (by omega) w5.heap.size 0 0 10000 1 0 rfl (by simp [go_sem]) (by simp [go_sem]) (by simp [go_sem]) (by simp [go_sem]) (by simp [go_sem]) ?_; intro v6 w6 how hg; have HK6 := Lib.hid how; have HB6 := Lib.hid ((HB5.out.alloc HB5.out.size _).grown hg (by have := HB5.out.size; simp; omega) (fun r e => HK5.out.row r e)); clear how hg))
    obtain ⟨A6, c6, rfl, _, _, _, hW6⟩ := HK6.out.out
    have R6 := Lib.hid hW6.rd
    clear hW6
    refine (iLeftOver_any A6 (m + 1) c6 (zs ++ [0, 0, 10000, 1, 0]) sp w6 R6.out (by omega)).mono ?_
    rintro e w7 ⟨rfl, hb⟩
    have B7 := Lib.hid hb
    clear hb
    obtain ⟨U, hU⟩ : ∃ U, Hid (loV (zs ++ [0, 0, 10000, 1, 0]) (m + 1) sp = U) := ⟨_, Lib.hid rfl⟩
    have hU0 : U ≤ 0 := by rw [← hU.out]; exact HLo.out
    rw [hU.out]
    go_wp2
    go_ret
    exact ⟨ret_bool (by simp), (B4.out.trans (HB6.out.mono B4.out.size)).trans (B7.out.mono (Nat.le_trans B4.out.size HB6.out.size))⟩
  · have hcase : F = false ∨ (F = true ∧ ((m : Int) == 8) = true) ∨ (F = true ∧ ((m : Int) == 8) = false ∧ decide (sp < 0) = true) ∨ (F = true ∧ ((m : Int) == 8) = false ∧ decide (sp < 0) = false ∧ decide (10000 < sp) = true) := by
      cases F
      · exact .inl rfl
      · by_cases h1 : m = 8
        · exact .inr (.inl ⟨rfl, by simp [h1]⟩)
        · have h1' : ((m : Int) == 8) = false := by simp; omega
          by_cases h2 : sp < 0
          · exact .inr (.inr (.inl ⟨rfl, h1', by simpa using h2⟩))
          · refine .inr (.inr (.inr ⟨rfl, h1', by simpa using h2, ?_⟩))
            have h3 : ¬ sp ≤ 10000 := fun h => hgo ⟨rfl, h1, by omega, h⟩
            simp; omega
    clear hgo
    rcases hcase with hf | ⟨hf, e1⟩ | ⟨hf, e1, e2⟩ | ⟨hf, e1, e2, e3⟩
    all_goals
      subst hf
      go_wp2_with fail
      refine (sLeftOver_any A1 m c1 zs sp w4 R4.out (by omega)).mono ?_
      rintro e w5 ⟨rfl, hb⟩
      rw [hV.out]
      have B5 := Lib.hid (B4.out.trans (hb.mono B4.out.size))
      clear hb
      go_wp2
      go_ret
      exact ⟨ret_bool (by simp), B5.out⟩
end Go.Proofs.Ytpemgcpnabaojaa
