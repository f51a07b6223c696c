/- The laws of shares: the walks. -/
import Derived.Test.YtlijbopcllanfaaSE
import Derived.Test.YtlijbopcllanfaaSG
import Derived.Test.YtlijbopcllanfaaPT
namespace Go.Proofs.Ytlijbopcllanfaa
open Go.RowKit

theorem shr_all {sp : Int} {ws : List Int} (hs0 : 0 ≤ sp) (hs1 : sp ≤ 200000) (hb : AllB ws 0 200000) : AllB (shr sp ws) 0 200001 := by
  unfold shr
  split
  · exact mk_AllB _ _ _ _ fun i _ => by omega
  · rename_i h
    exact mk_AllB _ _ _ _ fun i hi => by have := shT_le hs0 hb (tot_pos hb h) (kW sp ws).toNat i hi; omega
theorem shL_of {sp : Int} {ws : List Int} (h0 : 0 ≤ sp) (h1 : sp ≤ 200000) (m0 : 1 ≤ ws.length) (m1 : ws.length ≤ 8) (ha : AllB ws 0 200000) : shL sp ws = shr sp ws := by
  unfold shL; rw [if_pos (shV_iff.2 ⟨⟨h0, h1⟩, ⟨m0, m1⟩, ha⟩)]
set_option maxHeartbeats 4000000 in
theorem walkFnShareSpaceScale (A : Option Addr) (n c : Nat) (zs : List Int) (w : World) (h : IsRow .u8 w A n c zs) :
    Calls Try.prog 7 #[.slice A n c] w fun e w' => e = .returned (.bool true) ∧ Below w.heap.size w w' := by
  have H := Lib.hid h
  have hn : (n : Int) ≤ 9223372036854775807 := by obtain ⟨h1, h2, _⟩ := bytes_of_row h; unfold maxLen at h2; omega
  clear h
  by_cases hl : (1048576 : Int) < n
  · go_enter Try.func7, Try.ntmps7
    go_wp2
    go_ret
    exact ⟨rfl, Below.refl _ _⟩
  go_enter Try.func7, Try.ntmps7
  go_wp2_with fail
  refine (DrawShareSpace_any _ _ _ _ _ H.out).mono ?_
  rintro e w1 ⟨sp, A1, m, c1, ws, rfl, ⟨s0, s1⟩, hL, hb1⟩
  have hm : m ≤ 11 := hL.1
  have L := Lib.hid hL
  have B1 := Lib.hid hb1
  have hl := Lib.hid hL.2.2.2.2.2.1
  clear hL hb1
  go_wp2_with fail
  refine (iShareSpace_any sp A1 m c1 ws w1 L.out.rd (by omega)).mono ?_
  rintro e w2 ⟨A3, q, c3, rfl, hq, hW, hb⟩
  have W2 := Lib.hid hW
  have B2 := Lib.hid hb
  have hqm : q ≤ m := by have h1 := hW.1; have h2 := shL_len sp ws; have h3 := hl.out; omega
  clear hW hb
  go_wp2_with fail
  refine (sShareSpace_any sp A1 m c1 ws w2 ((L.out.rd.below B2.out).more B2.out.size) (by omega)).mono ?_
  rintro e w3 ⟨A4, q', c4, rfl, hq', hW, hb⟩
  obtain rfl : q = q' := W2.out.1.symm.trans hW.1
  have W3 := Lib.hid hW
  have W23 := Lib.hid (W2.out.below hb)
  have B3 := Lib.hid hb
  clear hW hb hq'
  go_wp2_with fail
  refine (equalInts_any A3 A4 q c3 c4 (shL sp ws) _ _ w3 W23.out.rd W3.out.rd (by omega)).mono ?_
  rintro e w4 ⟨rfl, hb⟩
  have B4 := Lib.hid hb
  have W24 := Lib.hid (W23.out.below hb)
  clear hb
  have R4 := Lib.hid ((((((L.out.rd.below B2.out).more B2.out.size).below B3.out).more B3.out.size).below B4.out).more B4.out.size)
  have BB := Lib.hid (((B1.out.trans (B2.out.mono B1.out.size)).trans (B3.out.mono (Nat.le_trans B1.out.size B2.out.size))).trans (B4.out.mono (Nat.le_trans (Nat.le_trans B1.out.size B2.out.size) B3.out.size)))
  have ZL := Lib.hid (Nat.le_trans (Nat.le_trans B2.out.size B3.out.size) B4.out.size)
  clear L B2 B3 B4 W3 W23
  by_cases hq0 : q = 0
  · subst hq0
    go_wp2_with fail
    refine (sShareSpace_any sp A1 m c1 ws w4 R4.out (by omega)).mono ?_
    rintro e w5 ⟨A5, q', c5, rfl, hq', hW, hb⟩
    obtain rfl : 0 = q' := W2.out.1.symm.trans hW.1
    have W5 := Lib.hid hW
    have W25 := Lib.hid (W24.out.below hb)
    have B5 := Lib.hid hb
    clear hW hb hq'
    go_wp2_with fail
    refine (equalInts_any A3 A5 0 c3 c5 (shL sp ws) _ _ w5 W25.out.rd W5.out.rd (by omega)).mono ?_
    rintro e w6 ⟨rfl, hb⟩
    have B6 := Lib.hid hb
    clear hb
    go_wp2
    go_ret
    exact ⟨rfl, (BB.out.trans (B5.out.mono BB.out.size)).trans (B6.out.mono (Nat.le_trans BB.out.size B5.out.size))⟩
  have hV : shV sp ws = true := by
    by_cases hV : shV sp ws = true
    · exact hV
    · have h1 := W2.out.1
      unfold shL at h1
      rw [if_neg hV] at h1
      exact absurd h1.symm hq0
  obtain ⟨⟨p0, p1⟩, ⟨m1, m8⟩, ha⟩ := shV_iff.1 hV
  have HA := Lib.hid ha
  rw [hl.out] at m1 m8
  have HE : Hid (shL sp ws = shr sp ws) := by unfold shL; rw [if_pos hV]; rfl
  obtain rfl : m = q := by have h1 := W2.out.1; rw [HE.out, shr_len, hl.out] at h1; exact h1
  have W4 := Lib.hid W24.out
  rw [HE.out] at W4
  clear ha hV W2 W24 HE hqm
  have hqz : ((m : Int) == 0) = false := by simp; omega
  have hOw := Lib.hid (Ow.empty w4 w4 w4.heap.size (Below.refl _ _) (Nat.le_refl _))
  go_wp2
  generalize w4.alloc (.cells #[] 3) = wa at hOw ⊢
  go_loopw [6, 7] (fun v iv wr => ∃ k : Nat, k ≤ m ∧ iv = .int .i64 k ∧ Hid (Ow w4 w4.heap.size v k (mk k fun i => 3 * ws.getD i 0) wr ∧ ∀ i, i < k → 3 * ws.getD i 0 ≤ 200000)) (fun _ iv _ => m - (intOf iv).toNat)
  case atStart => exact ⟨0, Nat.zero_le _, rfl, hOw.out, fun i hi => absurd hi (by omega)⟩
  case round =>
    obtain ⟨k, hk, rfl, hS⟩ := hrel
    by_cases hlt : k < m
    · obtain ⟨b, off, rfl, hbl, hc⟩ := R4.out.cell (by omega)
      obtain ⟨v0, v1⟩ := HA.out.getD k (by rw [hl.out]; omega)
      obtain ⟨v, hv⟩ : ∃ v, Hid (ws.getD k 0 = v) := ⟨_, rfl⟩
      rw [hv.out] at v0 v1
      have hcell : wr.cell? ⟨b, off + k, none⟩ = some (.int .i64 v) := by rw [← hv.out, hS.out.1.2.1.cell (p := ⟨b, off + k, none⟩) hbl]; exact hc k hlt
      clear hc
      by_cases hbig : 200000 < 3 * v
      · go_wp2
        go_ret
        exact ⟨rfl, BB.out.trans (hS.out.1.bl.mono BB.out.size)⟩
      · go_wp2_with (at_builtin; refine wpList_app1 _ rfl _ _ rfl w4.heap.size _ _ _ rfl (hS.out.1.alloc _) (by omega) wr.heap.size (3 * v) rfl (by simp [go_sem]) ?_; intro v' w5 how hg; have HO := Lib.hid how; clear how hg)
        go_roundw
        case rel =>
          refine ⟨k + 1, by omega, by go_num, by rw [mk_succ, hv.out]; exact HO.out, fun i hi => ?_⟩
          by_cases h1 : i = k
          · subst h1; rw [hv.out]; omega
          · exact hS.out.2 i (by omega)
        case measure => simp [intOf]; omega
    · obtain rfl : k = m := by omega
      obtain ⟨A5, c5, rfl, hc5, hm5, hW5, hB5⟩ := hS.out.1.out
      have W5 := Lib.hid hW5
      have B5 := Lib.hid hB5
      have HE : Hid (shL sp (mk k fun i => 3 * ws.getD i 0) = shr sp ws) := by
        have h1 := shL_of (sp := sp) (ws := mk k fun i => 3 * ws.getD i 0) p0 p1 (by rw [mk_len]; omega) (by rw [mk_len]; omega) (mk_AllB _ _ _ _ fun i hi => ⟨by have := (HA.out.getD i (by rw [hl.out]; omega)).1; omega, hS.out.2 i hi⟩)
        have h2 := shr_scale (sp := sp) (ws := ws) 3 (by omega)
        rw [hl.out] at h2
        exact h1.trans h2
      clear hW5 hB5
      go_wp2_with fail
      refine (iShareSpace_any sp A5 k c5 _ wr W5.out.rd (by omega)).mono ?_
      rintro e w6 ⟨A6, q6, c6, rfl, hq6, hW, hb⟩
      rw [HE.out] at hW
      obtain rfl : k = q6 := W4.out.1.symm.trans hW.1
      have W6 := Lib.hid hW
      have B6 := Lib.hid hb
      have W46 := Lib.hid ((W4.out.rd.below B5.out).more B5.out.size)
      clear hW hb
      go_wp2_with fail
      refine (equalInts_any A6 A3 k c6 c3 (shr sp ws) _ _ w6 W6.out.rd (W46.out.below B6.out) (by omega)).mono ?_
      rintro e w7 ⟨rfl, hb⟩
      have B7 := Lib.hid hb
      clear hb
      go_wp2
      go_ret
      exact ⟨rfl, (((BB.out.trans (B5.out.mono BB.out.size)).trans (B6.out.mono (Nat.le_trans BB.out.size B5.out.size))).trans (B7.out.mono (Nat.le_trans (Nat.le_trans BB.out.size B5.out.size) B6.out.size)))⟩
set_option maxHeartbeats 4000000 in
theorem walkFnShareSpaceNone (A : Option Addr) (n c : Nat) (zs : List Int) (w : World) (h : IsRow .u8 w A n c zs) :
    Calls Try.prog 6 #[.slice A n c] w fun e w' => e = .returned (.bool true) ∧ Below w.heap.size w w' := by
  have H := Lib.hid h
  have hn : (n : Int) ≤ 9223372036854775807 := by obtain ⟨h1, h2, _⟩ := bytes_of_row h; unfold maxLen at h2; omega
  clear h
  by_cases hl : (1048576 : Int) < n
  · go_enter Try.func6, Try.ntmps6
    go_wp2
    go_ret
    exact ⟨rfl, Below.refl _ _⟩
  go_enter Try.func6, Try.ntmps6
  go_wp2_with fail
  refine (DrawShareSpace_any _ _ _ _ _ H.out).mono ?_
  rintro e w1 ⟨sp, A1, m, c1, ws, rfl, ⟨s0, s1⟩, hL, hb1⟩
  have hm : m ≤ 11 := hL.1
  have L := Lib.hid hL
  have B1 := Lib.hid hb1
  have hl := Lib.hid hL.2.2.2.2.2.1
  clear hL hb1
  go_wp2_with fail
  refine (iShareSpace_any sp A1 m c1 ws w1 L.out.rd (by omega)).mono ?_
  rintro e w2 ⟨A3, q, c3, rfl, hq, hW, hb⟩
  have W2 := Lib.hid hW
  have B2 := Lib.hid hb
  have hqm : q ≤ m := by have h1 := hW.1; have h2 := shL_len sp ws; have h3 := hl.out; omega
  clear hW hb
  go_wp2_with fail
  refine (sShareSpace_any sp A1 m c1 ws w2 ((L.out.rd.below B2.out).more B2.out.size) (by omega)).mono ?_
  rintro e w3 ⟨A4, q', c4, rfl, hq', hW, hb⟩
  obtain rfl : q = q' := W2.out.1.symm.trans hW.1
  have W3 := Lib.hid hW
  have W23 := Lib.hid (W2.out.below hb)
  have B3 := Lib.hid hb
  clear hW hb hq'
  go_wp2_with fail
  refine (equalInts_any A3 A4 q c3 c4 (shL sp ws) _ _ w3 W23.out.rd W3.out.rd (by omega)).mono ?_
  rintro e w4 ⟨rfl, hb⟩
  have B4 := Lib.hid hb
  have W24 := Lib.hid (W23.out.below hb)
  clear hb
  have R4 := Lib.hid ((((((L.out.rd.below B2.out).more B2.out.size).below B3.out).more B3.out.size).below B4.out).more B4.out.size)
  have BB := Lib.hid (((B1.out.trans (B2.out.mono B1.out.size)).trans (B3.out.mono (Nat.le_trans B1.out.size B2.out.size))).trans (B4.out.mono (Nat.le_trans (Nat.le_trans B1.out.size B2.out.size) B3.out.size)))
  have ZL := Lib.hid (Nat.le_trans (Nat.le_trans B2.out.size B3.out.size) B4.out.size)
  clear L B2 B3 B4 W3 W23
  by_cases hq0 : q = 0
  · subst hq0
    go_wp2_with fail
    refine (sShareSpace_any sp A1 m c1 ws w4 R4.out (by omega)).mono ?_
    rintro e w5 ⟨A5, q', c5, rfl, hq', hW, hb⟩
    obtain rfl : 0 = q' := W2.out.1.symm.trans hW.1
    have W5 := Lib.hid hW
    have W25 := Lib.hid (W24.out.below hb)
    have B5 := Lib.hid hb
    clear hW hb hq'
    go_wp2_with fail
    refine (equalInts_any A3 A5 0 c3 c5 (shL sp ws) _ _ w5 W25.out.rd W5.out.rd (by omega)).mono ?_
    rintro e w6 ⟨rfl, hb⟩
    have B6 := Lib.hid hb
    clear hb
    go_wp2
    go_ret
    exact ⟨rfl, (BB.out.trans (B5.out.mono BB.out.size)).trans (B6.out.mono (Nat.le_trans BB.out.size B5.out.size))⟩
  have hV : shV sp ws = true := by
    by_cases hV : shV sp ws = true
    · exact hV
    · have h1 := W2.out.1
      unfold shL at h1
      rw [if_neg hV] at h1
      exact absurd h1.symm hq0
  obtain ⟨⟨p0, p1⟩, ⟨m1, m8⟩, ha⟩ := shV_iff.1 hV
  have HA := Lib.hid ha
  rw [hl.out] at m1 m8
  have HE : Hid (shL sp ws = shr sp ws) := by unfold shL; rw [if_pos hV]; rfl
  obtain rfl : m = q := by have h1 := W2.out.1; rw [HE.out, shr_len, hl.out] at h1; exact h1
  have W4 := Lib.hid W24.out
  rw [HE.out] at W4
  clear ha hV W2 W24 HE hqm
  have hqz : ((m : Int) == 0) = false := by simp; omega
  obtain ⟨b, off, rfl, _, hc⟩ := R4.out.cell (by omega)
  obtain ⟨b', off', rfl, _, hc'⟩ := W4.out.rd.cell (by omega)
  have HC := Lib.hid hc
  have HC' := Lib.hid hc'
  clear hc hc'
  have HM : Hid (∀ i k, i < m → k < m → ws.getD k 0 < ws.getD i 0 → (shr sp ws).getD k 0 ≤ (shr sp ws).getD i 0) := fun i k hi hk h => shr_mono p0 HA.out (by rw [hl.out]; exact hi) (by rw [hl.out]; exact hk) h
  go_wp2
  go_loopw [6] (fun iv wr => ∃ i : Nat, i ≤ m ∧ iv = .int .i64 i ∧ Hid (∃ d, wr = w4.drewN d)) (fun iv _ => m - (intOf iv).toNat)
  case atStart => exact ⟨0, Nat.zero_le _, rfl, 0, rfl⟩
  case round =>
    obtain ⟨i, hi, rfl, hd⟩ := hrel
    by_cases hlt : i < m
    · obtain ⟨v, hv⟩ : ∃ v, Hid (ws.getD i 0 = v) := ⟨_, rfl⟩
      obtain ⟨x, hx⟩ : ∃ x, Hid ((shr sp ws).getD i 0 = x) := ⟨_, rfl⟩
      have c1 : ∀ d, (w4.drewN d).cell? ⟨b, off + i, none⟩ = some (.int .i64 v) := fun d => by rw [← hv.out]; exact HC.out i hlt
      have c2 : ∀ d, (w4.drewN d).cell? ⟨b', off' + i, none⟩ = some (.int .i64 x) := fun d => by rw [← hx.out]; exact HC'.out i hlt
      have h0 : v = 0 → x = 0 := fun h => by rw [← hx.out]; exact shr_none HA.out i (by rw [hl.out]; exact hlt) (by rw [hv.out]; exact h)
      obtain ⟨d, rfl⟩ := hd.out
      have c1' := c1 d
      have c2' := c2 d
      have hi0 : (0 : Int) ≤ (i : Int) := by omega
      have hi1 : (i : Int) < (m : Int) := by omega
      have HX : Hid (∀ k, k < m → ws.getD k 0 < v → (shr sp ws).getD k 0 ≤ x) := fun k hk h => by rw [← hx.out]; exact HM.out i k hlt hk (by rw [hv.out]; exact h)
      have hg : (v == 0) = false ∨ (v == 0) = true ∧ (x != 0) = false := by
        by_cases h1 : v = 0
        · exact .inr ⟨by simp [h1], by simp [h0 h1]⟩
        · exact .inl (by simp [h1])
      clear c1 c2 h0 hd
      rcases hg with g1 | ⟨g1, g2⟩
      all_goals
        go_wp2
        go_loopw [7] (fun kv wr => ∃ k : Nat, k ≤ m ∧ kv = .int .i64 k ∧ Hid (∃ d, wr = w4.drewN d)) (fun kv _ => m - (intOf kv).toNat)
        case atStart => exact ⟨0, Nat.zero_le _, rfl, d, rfl⟩
        case round =>
          obtain ⟨k, hk, rfl, hd⟩ := hrel
          obtain ⟨d', rfl⟩ := hd.out
          clear hd
          by_cases hlt2 : k < m
          · obtain ⟨u, hu⟩ : ∃ u, Hid (ws.getD k 0 = u) := ⟨_, rfl⟩
            obtain ⟨y, hy⟩ : ∃ y, Hid ((shr sp ws).getD k 0 = y) := ⟨_, rfl⟩
            have c3 : w4.cell? ⟨b, off + k, none⟩ = some (.int .i64 u) := by rw [← hu.out]; exact HC.out k hlt2
            have c4 : w4.cell? ⟨b', off' + k, none⟩ = some (.int .i64 y) := by rw [← hy.out]; exact HC'.out k hlt2
            have c5 : w4.cell? ⟨b, off + i, none⟩ = some (.int .i64 v) := by rw [← hv.out]; exact HC.out i hlt
            have c6 : w4.cell? ⟨b', off' + i, none⟩ = some (.int .i64 x) := by rw [← hx.out]; exact HC'.out i hlt
            have hk0 : (0 : Int) ≤ (k : Int) := by omega
            have hk1 : (k : Int) < (m : Int) := by omega
            have hg2 : decide (u < v) = false ∨ decide (u < v) = true ∧ decide (x < y) = false := by
              by_cases h1 : u < v
              · have := HX.out k hlt2 (by rw [hu.out]; exact h1)
                rw [hy.out] at this
                exact .inr ⟨by simp [h1], by simp; omega⟩
              · exact .inl (by simp; omega)
            rcases hg2 with g3 | ⟨g3, g4⟩
            all_goals
              go_wp2
              go_quiet (fail)
              go_wp2
              go_roundw
              case rel => exact ⟨k + 1, by omega, by go_num, _, rfl⟩
              case measure => simp [intOf]; omega
          · obtain rfl : k = m := by omega
            go_wp2
            go_roundw
            case rel => exact ⟨i + 1, by omega, by go_num, _, rfl⟩
            case measure => simp [intOf]; omega
    · obtain ⟨d, rfl⟩ := hd.out
      clear hd
      go_wp2
      go_ret
      exact ⟨rfl, below_drewN BB.out d⟩
set_option maxHeartbeats 4000000 in
theorem walkFnShareSpace (A : Option Addr) (n c : Nat) (zs : List Int) (w : World) (h : IsRow .u8 w A n c zs) :
    Calls Try.prog 8 #[.slice A n c] w fun e w' => e = .returned (.bool true) ∧ Below w.heap.size w w' := by
  have H := Lib.hid h
  have hn : (n : Int) ≤ 9223372036854775807 := by obtain ⟨h1, h2, _⟩ := bytes_of_row h; unfold maxLen at h2; omega
  clear h
  by_cases hl : (1048576 : Int) < n
  · go_enter Try.func8, Try.ntmps8
    go_wp2
    go_ret
    exact ⟨rfl, Below.refl _ _⟩
  go_enter Try.func8, Try.ntmps8
  go_wp2_with fail
  refine (DrawShareSpace_any _ _ _ _ _ H.out).mono ?_
  rintro e w1 ⟨sp, A1, m, c1, ws, rfl, ⟨s0, s1⟩, hL, hb1⟩
  have hm : m ≤ 11 := hL.1
  have L := Lib.hid hL
  have B1 := Lib.hid hb1
  have hl := Lib.hid hL.2.2.2.2.2.1
  clear hL hb1
  go_wp2_with fail
  refine (iShareSpace_any sp A1 m c1 ws w1 L.out.rd (by omega)).mono ?_
  rintro e w2 ⟨A3, q, c3, rfl, hq, hW, hb⟩
  have W2 := Lib.hid hW
  have B2 := Lib.hid hb
  have hqm : q ≤ m := by have h1 := hW.1; have h2 := shL_len sp ws; have h3 := hl.out; omega
  clear hW hb
  go_wp2_with fail
  refine (sShareSpace_any sp A1 m c1 ws w2 ((L.out.rd.below B2.out).more B2.out.size) (by omega)).mono ?_
  rintro e w3 ⟨A4, q', c4, rfl, hq', hW, hb⟩
  obtain rfl : q = q' := W2.out.1.symm.trans hW.1
  have W3 := Lib.hid hW
  have W23 := Lib.hid (W2.out.below hb)
  have B3 := Lib.hid hb
  clear hW hb hq'
  go_wp2_with fail
  refine (equalInts_any A3 A4 q c3 c4 (shL sp ws) _ _ w3 W23.out.rd W3.out.rd (by omega)).mono ?_
  rintro e w4 ⟨rfl, hb⟩
  have B4 := Lib.hid hb
  have W24 := Lib.hid (W23.out.below hb)
  clear hb
  have R4 := Lib.hid ((((((L.out.rd.below B2.out).more B2.out.size).below B3.out).more B3.out.size).below B4.out).more B4.out.size)
  have BB := Lib.hid (((B1.out.trans (B2.out.mono B1.out.size)).trans (B3.out.mono (Nat.le_trans B1.out.size B2.out.size))).trans (B4.out.mono (Nat.le_trans (Nat.le_trans B1.out.size B2.out.size) B3.out.size)))
  have ZL := Lib.hid (Nat.le_trans (Nat.le_trans B2.out.size B3.out.size) B4.out.size)
  clear L B2 B3 B4 W3 W23
  by_cases hq0 : q = 0
  · subst hq0
    go_wp2_with fail
    refine (sShareSpace_any sp A1 m c1 ws w4 R4.out (by omega)).mono ?_
    rintro e w5 ⟨A5, q', c5, rfl, hq', hW, hb⟩
    obtain rfl : 0 = q' := W2.out.1.symm.trans hW.1
    have W5 := Lib.hid hW
    have W25 := Lib.hid (W24.out.below hb)
    have B5 := Lib.hid hb
    clear hW hb hq'
    go_wp2_with fail
    refine (equalInts_any A3 A5 0 c3 c5 (shL sp ws) _ _ w5 W25.out.rd W5.out.rd (by omega)).mono ?_
    rintro e w6 ⟨rfl, hb⟩
    have B6 := Lib.hid hb
    clear hb
    go_wp2
    go_ret
    exact ⟨rfl, (BB.out.trans (B5.out.mono BB.out.size)).trans (B6.out.mono (Nat.le_trans BB.out.size B5.out.size))⟩
  have hV : shV sp ws = true := by
    by_cases hV : shV sp ws = true
    · exact hV
    · have h1 := W2.out.1
      unfold shL at h1
      rw [if_neg hV] at h1
      exact absurd h1.symm hq0
  obtain ⟨⟨p0, p1⟩, ⟨m1, m8⟩, ha⟩ := shV_iff.1 hV
  have HA := Lib.hid ha
  rw [hl.out] at m1 m8
  have HE : Hid (shL sp ws = shr sp ws) := by unfold shL; rw [if_pos hV]; rfl
  obtain rfl : m = q := by have h1 := W2.out.1; rw [HE.out, shr_len, hl.out] at h1; exact h1
  have W4 := Lib.hid W24.out
  rw [HE.out] at W4
  clear ha hV W2 W24 HE hqm
  have hqz : ((m : Int) == 0) = false := by simp; omega
  obtain ⟨T, hT⟩ : ∃ T, Hid (tot ws m = T) := ⟨_, rfl⟩
  have HTl : Hid (tot ws ws.length = T) := by rw [hl.out]; exact hT
  have T0 : 0 ≤ T ∧ T ≤ 1600000 := by
    have h := tot_ge ws 0 200000 HA.out m (by rw [hl.out]; omega)
    rw [hT.out] at h
    omega
  obtain ⟨T0, T1⟩ := T0
  go_wp2_with fail
  refine (lsum_any A1 m c1 ws _ w4 R4.out (by omega) (HA.out.mono (by omega) (by omega))).mono ?_
  rintro e w' ⟨rfl, rfl⟩
  rw [hT.out]
  by_cases hT0 : T = 0
  · subst hT0
    go_wp2_with fail
    refine (lsum_any A3 m c3 (shr sp ws) _ w4 W4.out.rd (by omega) ((shr_all p0 p1 HA.out).mono (by omega) (by omega))).mono ?_
    rintro e w' ⟨rfl, rfl⟩
    have e : tot (shr sp ws) m = 0 := by have h := tot_shr0 (sp := sp) HTl.out; rw [hl.out] at h; exact h
    rw [e]
    go_wp2
    go_ret
    exact ⟨ret_bool (by simp), BB.out⟩
  have hTz : (T == 0) = false := by simp [hT0]
  have hTn : Hid (¬ tot ws ws.length = 0) := by show ¬ _; rw [HTl.out]; exact hT0
  clear hT0
  obtain ⟨b, off, rfl, _, hc⟩ := R4.out.cell (by omega)
  obtain ⟨b', off', rfl, _, hc'⟩ := W4.out.rd.cell (by omega)
  have HC := Lib.hid hc
  have HC' := Lib.hid hc'
  clear hc hc'
  go_wp2
  go_loopw [7] (fun iv wr => ∃ i : Nat, i ≤ m ∧ iv = .int .i64 i ∧ Hid (∃ d, wr = w4.drewN d)) (fun iv _ => m - (intOf iv).toNat)
  case atStart => exact ⟨0, Nat.zero_le _, rfl, 0, rfl⟩
  case round =>
    obtain ⟨i, hi, rfl, hd⟩ := hrel
    obtain ⟨d, rfl⟩ := hd.out
    clear hd
    by_cases hlt : i < m
    · obtain ⟨v0, v1⟩ := HA.out.getD i (by rw [hl.out]; omega)
      obtain ⟨x0, x1⟩ := (shr_all p0 p1 HA.out).getD i (by rw [shr_len, hl.out]; omega)
      have hdev := shr_dev (sp := sp) HA.out hTn.out (i := i) (by rw [hl.out]; exact hlt)
      rw [HTl.out] at hdev
      obtain ⟨v, hv⟩ : ∃ v, Hid (ws.getD i 0 = v) := ⟨_, rfl⟩
      obtain ⟨x, hx⟩ : ∃ x, Hid ((shr sp ws).getD i 0 = x) := ⟨_, rfl⟩
      have c1 : w4.cell? ⟨b, off + i, none⟩ = some (.int .i64 v) := by rw [← hv.out]; exact HC.out i hlt
      have c2 : w4.cell? ⟨b', off' + i, none⟩ = some (.int .i64 x) := by rw [← hx.out]; exact HC'.out i hlt
      rw [hv.out] at v0 v1 hdev
      rw [hx.out] at x0 x1 hdev
      have hi0 : (0 : Int) ≤ (i : Int) := by omega
      have hi1 : (i : Int) < (m : Int) := by omega
      obtain ⟨y0, y1⟩ := prod_bd x0 x1 T0 T1
      obtain ⟨z0, z1⟩ := prod_bd p0 p1 v0 v1
      have m1' : IntKind.i64.wrap (x * T) = x * T := IntWalk.i64_in _ (by omega)
      have m2' : IntKind.i64.wrap (sp * v) = sp * v := IntWalk.i64_in _ (by omega)
      have m3' : IntKind.i64.wrap (x * T - sp * v) = x * T - sp * v := IntWalk.i64_in _ (by omega)
      obtain ⟨D, hD⟩ : ∃ D, Hid (x * T - sp * v = D) := ⟨_, rfl⟩
      have hD1 : D < T := by rw [← hD.out]; exact hdev.1
      have hD2 : -D < T := by rw [← hD.out]; exact hdev.2
      clear hdev
      go_wp2
      go_quiet (fail)
      rw [hD.out]
      clear m1' m2' m3'
      go_wp2
      go_roundw
      case rel => exact ⟨i + 1, by omega, by go_num, _, rfl⟩
      case measure => simp [intOf]; omega
    · have hsum : Hid (tot (shr sp ws) m = sp) := by
        have h := tot_shr (sp := sp) (tot_pos HA.out hTn.out)
        rw [hl.out] at h
        exact h
      go_wp2_with fail
      refine (lsum_any _ m c3 (shr sp ws) _ _ (W4.out.rd.drewN d) (by omega) ((shr_all p0 p1 HA.out).mono (by omega) (by omega))).mono ?_
      rintro e w' ⟨rfl, rfl⟩
      rw [hsum.out]
      go_wp2
      go_ret
      exact ⟨ret_bool (by simp), below_drewN BB.out d⟩
set_option maxHeartbeats 4000000 in
theorem walkFnShareSpaceEven (A : Option Addr) (n c : Nat) (zs : List Int) (w : World) (h : IsRow .u8 w A n c zs) :
    Calls Try.prog 9 #[.slice A n c] w fun e w' => e = .returned (.bool true) ∧ Below w.heap.size w w' := by
  have H := Lib.hid h
  have hn : (n : Int) ≤ 9223372036854775807 := by obtain ⟨h1, h2, _⟩ := bytes_of_row h; unfold maxLen at h2; omega
  clear h
  by_cases hl : (1048576 : Int) < n
  · go_enter Try.func9, Try.ntmps9
    go_wp2
    go_ret
    exact ⟨rfl, Below.refl _ _⟩
  go_enter Try.func9, Try.ntmps9
  go_wp2_with fail
  refine (DrawShareSpace_any _ _ _ _ _ H.out).mono ?_
  rintro e w1 ⟨sp, A1, m, c1, ws, rfl, ⟨s0, s1⟩, hL, hb1⟩
  have hm : m ≤ 11 := hL.1
  have L := Lib.hid hL
  have B1 := Lib.hid hb1
  have hl := Lib.hid hL.2.2.2.2.2.1
  clear hL hb1
  go_wp2_with fail
  refine (iShareSpace_any sp A1 m c1 ws w1 L.out.rd (by omega)).mono ?_
  rintro e w2 ⟨A3, q, c3, rfl, hq, hW, hb⟩
  have W2 := Lib.hid hW
  have B2 := Lib.hid hb
  have hqm : q ≤ m := by have h1 := hW.1; have h2 := shL_len sp ws; have h3 := hl.out; omega
  clear hW hb
  go_wp2_with fail
  refine (sShareSpace_any sp A1 m c1 ws w2 ((L.out.rd.below B2.out).more B2.out.size) (by omega)).mono ?_
  rintro e w3 ⟨A4, q', c4, rfl, hq', hW, hb⟩
  obtain rfl : q = q' := W2.out.1.symm.trans hW.1
  have W3 := Lib.hid hW
  have W23 := Lib.hid (W2.out.below hb)
  have B3 := Lib.hid hb
  clear hW hb hq'
  go_wp2_with fail
  refine (equalInts_any A3 A4 q c3 c4 (shL sp ws) _ _ w3 W23.out.rd W3.out.rd (by omega)).mono ?_
  rintro e w4 ⟨rfl, hb⟩
  have B4 := Lib.hid hb
  have W24 := Lib.hid (W23.out.below hb)
  clear hb
  have R4 := Lib.hid ((((((L.out.rd.below B2.out).more B2.out.size).below B3.out).more B3.out.size).below B4.out).more B4.out.size)
  have BB := Lib.hid (((B1.out.trans (B2.out.mono B1.out.size)).trans (B3.out.mono (Nat.le_trans B1.out.size B2.out.size))).trans (B4.out.mono (Nat.le_trans (Nat.le_trans B1.out.size B2.out.size) B3.out.size)))
  have ZL := Lib.hid (Nat.le_trans (Nat.le_trans B2.out.size B3.out.size) B4.out.size)
  clear L B2 B3 B4 W3 W23
  by_cases hq0 : q = 0
  · subst hq0
    go_wp2_with fail
    refine (sShareSpace_any sp A1 m c1 ws w4 R4.out (by omega)).mono ?_
    rintro e w5 ⟨A5, q', c5, rfl, hq', hW, hb⟩
    obtain rfl : 0 = q' := W2.out.1.symm.trans hW.1
    have W5 := Lib.hid hW
    have W25 := Lib.hid (W24.out.below hb)
    have B5 := Lib.hid hb
    clear hW hb hq'
    go_wp2_with fail
    refine (equalInts_any A3 A5 0 c3 c5 (shL sp ws) _ _ w5 W25.out.rd W5.out.rd (by omega)).mono ?_
    rintro e w6 ⟨rfl, hb⟩
    have B6 := Lib.hid hb
    clear hb
    go_wp2
    go_ret
    exact ⟨rfl, (BB.out.trans (B5.out.mono BB.out.size)).trans (B6.out.mono (Nat.le_trans BB.out.size B5.out.size))⟩
  have hV : shV sp ws = true := by
    by_cases hV : shV sp ws = true
    · exact hV
    · have h1 := W2.out.1
      unfold shL at h1
      rw [if_neg hV] at h1
      exact absurd h1.symm hq0
  obtain ⟨⟨p0, p1⟩, ⟨m1, m8⟩, ha⟩ := shV_iff.1 hV
  have HA := Lib.hid ha
  rw [hl.out] at m1 m8
  have HE : Hid (shL sp ws = shr sp ws) := by unfold shL; rw [if_pos hV]; rfl
  obtain rfl : m = q := by have h1 := W2.out.1; rw [HE.out, shr_len, hl.out] at h1; exact h1
  have W4 := Lib.hid W24.out
  rw [HE.out] at W4
  clear ha hV W2 W24 HE hqm
  have hqz : ((m : Int) == 0) = false := by simp; omega
  have hOw := Lib.hid (Ow.empty w4 w4 w4.heap.size (Below.refl _ _) (Nat.le_refl _))
  go_wp2
  generalize w4.alloc (.cells #[] 3) = wa at hOw ⊢
  go_loopw [6, 7] (fun v iv wr => ∃ k : Nat, k ≤ m ∧ iv = .int .i64 k ∧ Hid (Ow w4 w4.heap.size v k (mk k fun _ => 1) wr)) (fun _ iv _ => m - (intOf iv).toNat)
  case atStart => exact ⟨0, Nat.zero_le _, rfl, hOw.out⟩
  case round =>
    obtain ⟨k, hk, rfl, hS⟩ := hrel
    by_cases hlt : k < m
    · go_wp2_with (at_builtin; refine wpList_app1 _ rfl _ _ rfl w4.heap.size _ _ _ rfl (hS.out.alloc _) (by omega) wr.heap.size 1 rfl (by simp [go_sem]) ?_; intro v' w5 how hg; have HO := Lib.hid how; clear how hg)
      go_roundw
      case rel => exact ⟨k + 1, by omega, by go_num, by rw [mk_succ]; exact HO.out⟩
      case measure => simp [intOf]; omega
    · obtain rfl : k = m := by omega
      obtain ⟨A5, c5, rfl, hc5, hm5, hW5, hB5⟩ := hS.out.out
      have W5 := Lib.hid hW5
      have B5 := Lib.hid hB5
      have HE : Hid (shL sp (mk k fun _ => 1) = shr sp (mk k fun _ => 1)) :=
        shL_of (sp := sp) (ws := mk k fun _ => 1) p0 p1 (by rw [mk_len]; omega) (by rw [mk_len]; omega) (mk_AllB _ _ _ _ fun i hi => by omega)
      clear hW5 hB5
      go_wp2_with fail
      refine (iShareSpace_any sp A5 k c5 _ wr W5.out.rd (by omega)).mono ?_
      rintro e w6 ⟨A6, q6, c6, rfl, hq6, hW, hb⟩
      rw [HE.out] at hW
      obtain rfl : k = q6 := by have h1 := hW.1; rw [shr_len, mk_len] at h1; exact h1
      have W6 := Lib.hid hW
      have B6 := Lib.hid hb
      clear hW hb
      obtain ⟨b, off, rfl, _, hc⟩ := W6.out.rd.cell (by omega)
      have HC := Lib.hid hc
      clear hc
      have Q0 : 0 ≤ sp / k := Int.ediv_nonneg p0 (by omega)
      have Q1 : sp / k ≤ 200000 := Int.le_trans (Int.ediv_le_self _ p0) p1
      obtain ⟨Q, hQ⟩ : ∃ Q, Hid (sp / (k : Int) = Q) := ⟨_, rfl⟩
      obtain ⟨R, hR⟩ : ∃ R, Hid (sp % (k : Int) = R) := ⟨_, rfl⟩
      rw [hQ.out] at Q0 Q1
      have HG : Hid (∀ i, i < k → (shr sp (mk k fun _ => 1)).getD i 0 = Q + if (i : Int) < R then 1 else 0) := fun i hi => by rw [shr_even (by omega) hi, hQ.out, hR.out]
      obtain ⟨X, hX⟩ : ∃ X, Hid (Q + (if ((0 : Nat) : Int) < R then 1 else 0) = X) := ⟨_, rfl⟩
      have cX : w6.cell? ⟨b, off, none⟩ = some (.int .i64 X) := by rw [← hX.out, ← HG.out 0 (by omega)]; exact HC.out 0 (by omega)
      have X0 : 0 ≤ X ∧ X ≤ 200001 := by rw [← hX.out]; split <;> omega
      obtain ⟨X0, X1⟩ := X0
      go_wp2
      go_loopw [9] (fun iv wr => ∃ i : Nat, 1 ≤ i ∧ i ≤ k ∧ iv = .int .i64 i ∧ Hid (∃ d, wr = w6.drewN d)) (fun iv _ => k - (intOf iv).toNat)
      case atStart => exact ⟨1, Nat.le_refl _, by omega, rfl, 0, rfl⟩
      case round =>
        obtain ⟨i, hi1, hi, rfl, hd⟩ := hrel
        obtain ⟨d, rfl⟩ := hd.out
        clear hd
        by_cases hlt2 : i < k
        · obtain ⟨x, hx⟩ : ∃ x, Hid (Q + (if (i : Int) < R then 1 else 0) = x) := ⟨_, rfl⟩
          obtain ⟨y, hy⟩ : ∃ y, Hid (Q + (if ((i - 1 : Nat) : Int) < R then 1 else 0) = y) := ⟨_, rfl⟩
          have c1 : w6.cell? ⟨b, off + i, none⟩ = some (.int .i64 x) := by rw [← hx.out, ← HG.out i hlt2]; exact HC.out i hlt2
          have c2 : w6.cell? ⟨b, off + (i - 1), none⟩ = some (.int .i64 y) := by rw [← hy.out, ← HG.out (i - 1) (by omega)]; exact HC.out (i - 1) (by omega)
          have x0 : 0 ≤ x ∧ x ≤ 200001 := by rw [← hx.out]; split <;> omega
          obtain ⟨x0, x1⟩ := x0
          have g1 : decide (y < x) = false := by
            have : ¬ y < x := by rw [← hx.out, ← hy.out]; split <;> split <;> omega
            simpa using this
          have g2 : decide (1 < X - x) = false := by
            have : ¬ 1 < X - x := by rw [← hx.out, ← hX.out]; split <;> split <;> omega
            simpa using this
          have i0 : (0 : Int) ≤ (i : Int) := by omega
          have i1 : (i : Int) < (k : Int) := by omega
          have i2 : IntKind.i64.wrap ((i : Int) - 1) = (i : Int) - 1 := IntWalk.i64_in _ (by omega)
          have i3 : (0 : Int) ≤ (i : Int) - 1 := by omega
          have i4 : ((i : Int) - 1).toNat = i - 1 := by omega
          have i5 : (i : Int) - 1 < (k : Int) := by omega
          have i6 : IntKind.i64.wrap (X - x) = X - x := IntWalk.i64_in _ (by omega)
          have k0 : (0 : Int) < (k : Int) := by omega
          go_wp2
          go_quiet (fail)
          clear i2 i4 i6
          go_wp2
          go_roundw
          case rel => exact ⟨i + 1, by omega, by omega, by go_num, _, rfl⟩
          case measure => simp [intOf]; omega
        · have hsum : Hid (tot (shr sp (mk k fun _ => 1)) k = sp) := by
            have h := tot_shr (sp := sp) (ws := mk k fun _ => 1) (by rw [mk_len, tot_mk, sm_const]; omega)
            rw [mk_len] at h
            exact h
          go_wp2_with fail
          refine (lsum_any _ k c6 _ _ _ (W6.out.rd.drewN d) (by omega) ((shr_all p0 p1 (mk_AllB _ _ _ _ fun i hi => by omega)).mono (by omega) (by omega))).mono ?_
          rintro e w' ⟨rfl, rfl⟩
          rw [hsum.out]
          go_wp2
          go_ret
          exact ⟨ret_bool (by simp), below_drewN ((BB.out.trans (B5.out.mono BB.out.size)).trans (B6.out.mono (Nat.le_trans BB.out.size B5.out.size))) d⟩
end Go.Proofs.Ytlijbopcllanfaa
