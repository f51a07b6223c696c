/- The laws of offsets: the walks. -/
import Derived.Test.YtlijbopcllanfaaOE
import Derived.Test.YtlijbopcllanfaaOG
import Derived.Test.YtlijbopcllanfaaPQ
namespace Go.Proofs.Ytlijbopcllanfaa
open Go.RowKit

theorem ofF_all {zs : List Int} {sp gap j : Int} (h : ofV zs sp gap j = true) (i : Nat) (hi : i ≤ zs.length) : 0 ≤ ofF zs sp gap j i ∧ ofF zs sp gap j i ≤ 3000000 := by
  obtain ⟨⟨m1, m8⟩, ha, ⟨p0, p1⟩, ⟨q0, q1⟩, r0, r1⟩ := ofV_iff.1 h
  obtain ⟨l0, l1⟩ := ofLeft_bd ha m1 p0 p1 q0
  have a := ofAt_bd (j := j) l0
  have s := ofS_bd (j := j) ha q0 q1 l0 l1 zs.length i hi
  unfold ofF; omega
theorem ofL_of {zs : List Int} {sp gap j : Int} {n : Nat} (h : ofV zs sp gap j = true) (hl : zs.length = n) : ofL zs sp gap j = mk n (ofF zs sp gap j) := by unfold ofL; rw [if_pos h, hl]
set_option maxHeartbeats 4000000 in
theorem walkFnOffsetsOf (A : Option Addr) (n c : Nat) (zs : List Int) (w : World) (h : IsRow .u8 w A n c zs) :
    Calls Try.prog 11 #[.slice A n c] w fun e w' => e = .returned (.bool true) ∧ Below w.heap.size w w' := by
  have H := Lib.hid h
  have hn : (n : Int) ≤ 9223372036854775807 := by obtain ⟨h1, h2, _⟩ := bytes_of_row h; unfold maxLen at h2; omega
  clear h
  by_cases hl : (1048576 : Int) < n
  · go_enter Try.func11, Try.ntmps11
    go_wp2
    go_ret
    exact ⟨rfl, Below.refl _ _⟩
  go_enter Try.func11, Try.ntmps11
  go_wp2_with fail
  refine (DrawOffsetsOf_any _ _ _ _ _ H.out).mono ?_
  rintro e w1 ⟨A1, m, c1, ws, sp, gap, j, rfl, ⟨s0, s1⟩, ⟨g0, g1⟩, ⟨j0, j1⟩, hL, hb1⟩
  have hm : m ≤ 11 := hL.1
  have L := Lib.hid hL
  have B1 := Lib.hid hb1
  have hl := Lib.hid hL.2.2.2.2.2.1
  clear hL hb1
  go_wp2_with fail
  refine (iOffsetsOf_any A1 m c1 ws sp gap j w1 L.out.rd (by omega)).mono ?_
  rintro e w2 ⟨A3, q, c3, rfl, hq, hW, hb⟩
  have W2 := Lib.hid hW
  have B2 := Lib.hid hb
  have hqm : q ≤ m := by have h1 := hW.1; have h2 := ofL_len ws sp gap j; have h3 := hl.out; omega
  clear hW hb
  go_wp2_with fail
  refine (sOffsetsOf_any A1 m c1 ws sp gap j w2 ((L.out.rd.below B2.out).more B2.out.size) (by omega)).mono ?_
  rintro e w3 ⟨A4, q', c4, rfl, hq', hW, hb⟩
  obtain rfl : q = q' := W2.out.1.symm.trans hW.1
  have W3 := Lib.hid hW
  have W23 := Lib.hid (W2.out.below hb)
  have B3 := Lib.hid hb
  clear hW hb hq'
  go_wp2_with fail
  refine (equalInts_any A3 A4 q c3 c4 (ofL ws sp gap j) _ _ w3 W23.out.rd W3.out.rd (by omega)).mono ?_
  rintro e w4 ⟨rfl, hb⟩
  have B4 := Lib.hid hb
  have W24 := Lib.hid (W23.out.below hb)
  clear hb
  have R4 := Lib.hid ((((((L.out.rd.below B2.out).more B2.out.size).below B3.out).more B3.out.size).below B4.out).more B4.out.size)
  have BB := Lib.hid (((B1.out.trans (B2.out.mono B1.out.size)).trans (B3.out.mono (Nat.le_trans B1.out.size B2.out.size))).trans (B4.out.mono (Nat.le_trans (Nat.le_trans B1.out.size B2.out.size) B3.out.size)))
  have ZL := Lib.hid (Nat.le_trans (Nat.le_trans B2.out.size B3.out.size) B4.out.size)
  clear L B2 B3 B4 W3 W23
  by_cases hq0 : q = 0
  · subst hq0
    go_wp2_with fail
    refine (sOffsetsOf_any A1 m c1 ws sp gap j w4 R4.out (by omega)).mono ?_
    rintro e w5 ⟨A5, q', c5, rfl, hq', hW, hb⟩
    obtain rfl : 0 = q' := W2.out.1.symm.trans hW.1
    have W5 := Lib.hid hW
    have W25 := Lib.hid (W24.out.below hb)
    have B5 := Lib.hid hb
    clear hW hb hq'
    go_wp2_with fail
    refine (equalInts_any A3 A5 0 c3 c5 (ofL ws sp gap j) _ _ w5 W25.out.rd W5.out.rd (by omega)).mono ?_
    rintro e w6 ⟨rfl, hb⟩
    have B6 := Lib.hid hb
    clear hb
    go_wp2
    go_ret
    exact ⟨rfl, (BB.out.trans (B5.out.mono BB.out.size)).trans (B6.out.mono (Nat.le_trans BB.out.size B5.out.size))⟩
  have hV : ofV ws sp gap j = true := by
    by_cases hV : ofV ws sp gap j = true
    · exact hV
    · have h1 := W2.out.1
      unfold ofL at h1
      rw [if_neg hV] at h1
      exact absurd h1.symm hq0
  obtain ⟨⟨m1, m8⟩, ha, ⟨p0, p1⟩, ⟨q0, q1⟩, r0, r1⟩ := ofV_iff.1 hV
  have HA := Lib.hid ha
  rw [hl.out] at m1 m8
  have HE : Hid (ofL ws sp gap j = mk m (ofF ws sp gap j)) := by unfold ofL; rw [if_pos hV, hl.out]; rfl
  obtain rfl : m = q := by have h1 := W2.out.1; rw [HE.out, mk_len] at h1; exact h1
  have W4 := Lib.hid W24.out
  rw [HE.out] at W4
  clear ha hV W2 W24 HE hqm
  have hqz : ((m : Int) == 0) = false := by simp; omega
  have HV : Hid (ofV ws sp gap j = true) := ofV_iff.2 ⟨by rw [hl.out]; exact ⟨m1, m8⟩, HA.out, ⟨p0, p1⟩, ⟨q0, q1⟩, r0, r1⟩
  have HL0 : Hid (0 ≤ ofLeft ws sp gap) := (ofLeft_bd HA.out (by rw [hl.out]; exact m1) p0 p1 q0).1
  obtain ⟨b, off, rfl, _, hc⟩ := R4.out.cell (by omega)
  obtain ⟨b', off', rfl, _, hc'⟩ := W4.out.rd.cell (by omega)
  have HC := Lib.hid hc
  have HC' : Hid (∀ i, i < m → w4.cell? ⟨b', off' + i, none⟩ = some (.int .i64 (ofF ws sp gap j i))) := fun i hi => by have h := hc' i hi; rw [mk_getD _ _ _ hi] at h; exact h
  clear hc hc'
  obtain ⟨X, hX⟩ : ∃ X, Hid (ofF ws sp gap j 0 = X) := ⟨_, rfl⟩
  have cX : w4.cell? ⟨b', off', none⟩ = some (.int .i64 X) := by rw [← hX.out]; exact HC'.out 0 (by omega)
  have X0 : 0 ≤ X := by rw [← hX.out]; exact (ofF_all HV.out 0 (by omega)).1
  go_wp2
  go_loopw [8] (fun iv wr => ∃ i : Nat, 1 ≤ i ∧ i ≤ m ∧ iv = .int .i64 i ∧ Hid (∃ d, wr = w4.drewN d)) (fun iv _ => m - (intOf iv).toNat)
  case atStart => exact ⟨1, Nat.le_refl _, m1, rfl, 0, rfl⟩
  case round =>
    obtain ⟨i, hi1, hi, rfl, hd⟩ := hrel
    obtain ⟨d, rfl⟩ := hd.out
    clear hd
    by_cases hlt : i < m
    · obtain ⟨x, hx⟩ : ∃ x, Hid (ofF ws sp gap j i = x) := ⟨_, rfl⟩
      obtain ⟨y, hy⟩ : ∃ y, Hid (ofF ws sp gap j (i - 1) = y) := ⟨_, rfl⟩
      obtain ⟨v, hv⟩ : ∃ v, Hid (ws.getD (i - 1) 0 = v) := ⟨_, rfl⟩
      have c1 : w4.cell? ⟨b', off' + i, none⟩ = some (.int .i64 x) := by rw [← hx.out]; exact HC'.out i hlt
      have c2 : w4.cell? ⟨b', off' + (i - 1), none⟩ = some (.int .i64 y) := by rw [← hy.out]; exact HC'.out (i - 1) (by omega)
      have c3 : w4.cell? ⟨b, off + (i - 1), none⟩ = some (.int .i64 v) := by rw [← hv.out]; exact HC.out (i - 1) (by omega)
      have x01 := ofF_all HV.out i (by rw [hl.out]; omega)
      have y01 := ofF_all HV.out (i - 1) (by rw [hl.out]; omega)
      have v01 := HA.out.getD (i - 1) (by rw [hl.out]; omega)
      have hs := ofF_step (j := j) HL0.out (i - 1)
      rw [show i - 1 + 1 = i by omega, hx.out, hy.out, hv.out] at hs
      rw [hx.out] at x01
      rw [hy.out] at y01
      rw [hv.out] at v01
      obtain ⟨x0, x1⟩ := x01
      obtain ⟨y0, y1⟩ := y01
      obtain ⟨v0, v1⟩ := v01
      have g5 : decide (x < y + v + gap) = false := by simp; omega
      have i0 : (0 : Int) ≤ (i : Int) := by omega
      have i1 : (i : Int) < (m : Int) := by omega
      have i2 : IntKind.i64.wrap ((i : Int) - 1) = (i : Int) - 1 := IntWalk.i64_in _ (by omega)
      have i3 : (0 : Int) ≤ (i : Int) - 1 := by omega
      have i4 : ((i : Int) - 1).toNat = i - 1 := by omega
      have i5 : (i : Int) - 1 < (m : Int) := by omega
      have i6 : IntKind.i64.wrap (y + v) = y + v := IntWalk.i64_in _ (by omega)
      have i7 : IntKind.i64.wrap (y + v + gap) = y + v + gap := IntWalk.i64_in _ (by omega)
      clear hs
      go_wp2
      go_quiet (fail)
      clear i2 i4 i6 i7
      go_wp2
      go_roundw
      case rel => exact ⟨i + 1, by omega, by omega, by go_num, _, rfl⟩
      case measure => simp [intOf]; omega
    · have hm0 : (0 : Int) < (m : Int) := by omega
      go_wp2
      go_ret
      exact ⟨ret_bool (by simp), below_drewN BB.out d⟩
set_option maxHeartbeats 4000000 in
theorem walkFnOffsetsOfGap (A : Option Addr) (n c : Nat) (zs : List Int) (w : World) (h : IsRow .u8 w A n c zs) :
    Calls Try.prog 12 #[.slice A n c] w fun e w' => e = .returned (.bool true) ∧ Below w.heap.size w w' := by
  have H := Lib.hid h
  have hn : (n : Int) ≤ 9223372036854775807 := by obtain ⟨h1, h2, _⟩ := bytes_of_row h; unfold maxLen at h2; omega
  clear h
  by_cases hl : (1048576 : Int) < n
  · go_enter Try.func12, Try.ntmps12
    go_wp2
    go_ret
    exact ⟨rfl, Below.refl _ _⟩
  go_enter Try.func12, Try.ntmps12
  go_wp2_with fail
  refine (DrawOffsetsOf_any _ _ _ _ _ H.out).mono ?_
  rintro e w1 ⟨A1, m, c1, ws, sp, gap, j, rfl, ⟨s0, s1⟩, ⟨g0, g1⟩, ⟨j0, j1⟩, hL, hb1⟩
  have hm : m ≤ 11 := hL.1
  have L := Lib.hid hL
  have B1 := Lib.hid hb1
  have hl := Lib.hid hL.2.2.2.2.2.1
  clear hL hb1
  go_wp2_with fail
  refine (iOffsetsOf_any A1 m c1 ws sp gap j w1 L.out.rd (by omega)).mono ?_
  rintro e w2 ⟨A3, q, c3, rfl, hq, hW, hb⟩
  have W2 := Lib.hid hW
  have B2 := Lib.hid hb
  have hqm : q ≤ m := by have h1 := hW.1; have h2 := ofL_len ws sp gap j; have h3 := hl.out; omega
  clear hW hb
  go_wp2_with fail
  refine (sOffsetsOf_any A1 m c1 ws sp gap j w2 ((L.out.rd.below B2.out).more B2.out.size) (by omega)).mono ?_
  rintro e w3 ⟨A4, q', c4, rfl, hq', hW, hb⟩
  obtain rfl : q = q' := W2.out.1.symm.trans hW.1
  have W3 := Lib.hid hW
  have W23 := Lib.hid (W2.out.below hb)
  have B3 := Lib.hid hb
  clear hW hb hq'
  go_wp2_with fail
  refine (equalInts_any A3 A4 q c3 c4 (ofL ws sp gap j) _ _ w3 W23.out.rd W3.out.rd (by omega)).mono ?_
  rintro e w4 ⟨rfl, hb⟩
  have B4 := Lib.hid hb
  have W24 := Lib.hid (W23.out.below hb)
  clear hb
  have R4 := Lib.hid ((((((L.out.rd.below B2.out).more B2.out.size).below B3.out).more B3.out.size).below B4.out).more B4.out.size)
  have BB := Lib.hid (((B1.out.trans (B2.out.mono B1.out.size)).trans (B3.out.mono (Nat.le_trans B1.out.size B2.out.size))).trans (B4.out.mono (Nat.le_trans (Nat.le_trans B1.out.size B2.out.size) B3.out.size)))
  have ZL := Lib.hid (Nat.le_trans (Nat.le_trans B2.out.size B3.out.size) B4.out.size)
  clear L B2 B3 B4 W3 W23
  by_cases hq0 : q = 0
  · subst hq0
    go_wp2_with fail
    refine (sOffsetsOf_any A1 m c1 ws sp gap j w4 R4.out (by omega)).mono ?_
    rintro e w5 ⟨A5, q', c5, rfl, hq', hW, hb⟩
    obtain rfl : 0 = q' := W2.out.1.symm.trans hW.1
    have W5 := Lib.hid hW
    have W25 := Lib.hid (W24.out.below hb)
    have B5 := Lib.hid hb
    clear hW hb hq'
    go_wp2_with fail
    refine (equalInts_any A3 A5 0 c3 c5 (ofL ws sp gap j) _ _ w5 W25.out.rd W5.out.rd (by omega)).mono ?_
    rintro e w6 ⟨rfl, hb⟩
    have B6 := Lib.hid hb
    clear hb
    go_wp2
    go_ret
    exact ⟨rfl, (BB.out.trans (B5.out.mono BB.out.size)).trans (B6.out.mono (Nat.le_trans BB.out.size B5.out.size))⟩
  have hV : ofV ws sp gap j = true := by
    by_cases hV : ofV ws sp gap j = true
    · exact hV
    · have h1 := W2.out.1
      unfold ofL at h1
      rw [if_neg hV] at h1
      exact absurd h1.symm hq0
  obtain ⟨⟨m1, m8⟩, ha, ⟨p0, p1⟩, ⟨q0, q1⟩, r0, r1⟩ := ofV_iff.1 hV
  have HA := Lib.hid ha
  rw [hl.out] at m1 m8
  have HE : Hid (ofL ws sp gap j = mk m (ofF ws sp gap j)) := by unfold ofL; rw [if_pos hV, hl.out]; rfl
  obtain rfl : m = q := by have h1 := W2.out.1; rw [HE.out, mk_len] at h1; exact h1
  have W4 := Lib.hid W24.out
  rw [HE.out] at W4
  clear ha hV W2 W24 HE hqm
  have hqz : ((m : Int) == 0) = false := by simp; omega
  by_cases hg50 : gap = 50
  · have hgb : (gap == 50) = true := by simp [hg50]
    have HV : Hid (ofV ws sp gap j = true) := ofV_iff.2 ⟨by rw [hl.out]; exact ⟨m1, m8⟩, HA.out, ⟨p0, p1⟩, ⟨q0, q1⟩, r0, r1⟩
    clear hg50
    go_wp2_with fail
    refine (sOffsetsOf_any A1 m c1 ws sp gap j w4 R4.out (by omega)).mono ?_
    rintro e w5 ⟨A5, q', c5, rfl, hq', hW, hb⟩
    rw [ofL_of HV.out hl.out] at hW
    obtain rfl : m = q' := W4.out.1.symm.trans hW.1
    have W5 := Lib.hid hW
    have W45 := Lib.hid (W4.out.below hb)
    have B5 := Lib.hid hb
    clear hW hb hq'
    go_wp2_with fail
    refine (equalInts_any A3 A5 m c3 c5 _ _ _ w5 W45.out.rd W5.out.rd (by omega)).mono ?_
    rintro e w6 ⟨rfl, hb⟩
    have B6 := Lib.hid hb
    clear hb
    go_wp2
    go_ret
    exact ⟨rfl, (BB.out.trans (B5.out.mono BB.out.size)).trans (B6.out.mono (Nat.le_trans BB.out.size B5.out.size))⟩
  have hgb : (gap == 50) = false := by simp [hg50]
  have hg49 : gap ≤ 49 := by omega
  clear hg50
  have HVa : Hid (ofV ws sp gap 0 = true) := ofV_iff.2 ⟨by rw [hl.out]; exact ⟨m1, m8⟩, HA.out, ⟨p0, p1⟩, ⟨q0, q1⟩, by omega, by omega⟩
  have HVb : Hid (ofV ws sp (gap + 1) 0 = true) := ofV_iff.2 ⟨by rw [hl.out]; exact ⟨m1, m8⟩, HA.out, ⟨p0, p1⟩, ⟨by omega, by omega⟩, by omega, by omega⟩
  go_wp2_with fail
  refine (iOffsetsOf_any A1 m c1 ws sp gap 0 w4 R4.out (by omega)).mono ?_
  rintro e w5 ⟨A5, q5, c5, rfl, hq5, hW, hb⟩
  rw [ofL_of HVa.out hl.out] at hW
  obtain rfl : m = q5 := by have h1 := hW.1; rw [mk_len] at h1; exact h1
  have W5 := Lib.hid hW
  have B5 := Lib.hid hb
  clear hW hb hq5
  go_wp2_with fail
  refine (iOffsetsOf_any A1 m c1 ws sp (gap + 1) 0 w5 ((R4.out.below B5.out).more B5.out.size) (by omega)).mono ?_
  rintro e w6 ⟨A6, q6, c6, rfl, hq6, hW, hb⟩
  rw [ofL_of HVb.out hl.out] at hW
  obtain rfl : m = q6 := by have h1 := hW.1; rw [mk_len] at h1; exact h1
  have W6 := Lib.hid hW
  have W56 := Lib.hid (W5.out.below hb)
  have B6 := Lib.hid hb
  clear hW hb hq6
  obtain ⟨b, off, rfl, _, hc⟩ := W56.out.rd.cell (by omega)
  obtain ⟨b', off', rfl, _, hc'⟩ := W6.out.rd.cell (by omega)
  have HC : Hid (∀ i, i < m → w6.cell? ⟨b, off + i, none⟩ = some (.int .i64 (ofF ws sp gap 0 i))) := fun i hi => by have h := hc i hi; rw [mk_getD _ _ _ hi] at h; exact h
  have HC' : Hid (∀ i, i < m → w6.cell? ⟨b', off' + i, none⟩ = some (.int .i64 (ofF ws sp (gap + 1) 0 i))) := fun i hi => by have h := hc' i hi; rw [mk_getD _ _ _ hi] at h; exact h
  have BX := Lib.hid ((BB.out.trans (B5.out.mono BB.out.size)).trans (B6.out.mono (Nat.le_trans BB.out.size B5.out.size)))
  clear hc hc'
  go_wp2
  go_loopw [10] (fun iv wr => ∃ i : Nat, i ≤ m ∧ iv = .int .i64 i ∧ Hid (∃ d, wr = w6.drewN d)) (fun iv _ => m - (intOf iv).toNat)
  case atStart => exact ⟨0, Nat.zero_le _, rfl, 0, rfl⟩
  case round =>
    obtain ⟨i, hi, rfl, hd⟩ := hrel
    obtain ⟨d, rfl⟩ := hd.out
    clear hd
    by_cases hlt : i < m
    · obtain ⟨x, hx⟩ : ∃ x, Hid (ofF ws sp gap 0 i = x) := ⟨_, rfl⟩
      have c1 : w6.cell? ⟨b, off + i, none⟩ = some (.int .i64 x) := by rw [← hx.out]; exact HC.out i hlt
      have c2 : w6.cell? ⟨b', off' + i, none⟩ = some (.int .i64 (x + i)) := by rw [← hx.out, ← ofF_gap]; exact HC'.out i hlt
      have x01 := ofF_all HVa.out i (by rw [hl.out]; omega)
      rw [hx.out] at x01
      obtain ⟨x0, x1⟩ := x01
      have i0 : (0 : Int) ≤ (i : Int) := by omega
      have i1 : (i : Int) < (m : Int) := by omega
      have i2 : IntKind.i64.wrap (x + (i : Int)) = x + i := IntWalk.i64_in _ (by omega)
      have i3 : decide ((m : Int) ≤ (i : Int)) = false := by simp; omega
      have i4 : decide (m ≤ i) = false := by simp; omega
      have i5 : (x + (i : Int) != x + (i : Int)) = false := by simp
      go_wp2
      go_quiet (fail)
      clear i2
      go_wp2
      go_roundw
      case rel => exact ⟨i + 1, by omega, by go_num, _, rfl⟩
      case measure => simp [intOf]; omega
    · go_wp2
      go_ret
      exact ⟨ret_bool (by simp), below_drewN BX.out d⟩
set_option maxHeartbeats 4000000 in
theorem walkFnOffsetsOfFull (A : Option Addr) (n c : Nat) (zs : List Int) (w : World) (h : IsRow .u8 w A n c zs) :
    Calls Try.prog 14 #[.slice A n c] w fun e w' => e = .returned (.bool true) ∧ Below w.heap.size w w' := by
  have H := Lib.hid h
  have hn : (n : Int) ≤ 9223372036854775807 := by obtain ⟨h1, h2, _⟩ := bytes_of_row h; unfold maxLen at h2; omega
  clear h
  by_cases hl : (1048576 : Int) < n
  · go_enter Try.func14, Try.ntmps14
    go_wp2
    go_ret
    exact ⟨rfl, Below.refl _ _⟩
  go_enter Try.func14, Try.ntmps14
  go_wp2_with fail
  refine (DrawOffsetsOf_any _ _ _ _ _ H.out).mono ?_
  rintro e w1 ⟨A1, m, c1, ws, sp, gap, j, rfl, ⟨s0, s1⟩, ⟨g0, g1⟩, ⟨j0, j1⟩, hL, hb1⟩
  have hm : m ≤ 11 := hL.1
  have L := Lib.hid hL
  have B1 := Lib.hid hb1
  have hl := Lib.hid hL.2.2.2.2.2.1
  clear hL hb1
  go_wp2_with fail
  refine (iOffsetsOf_any A1 m c1 ws sp gap j w1 L.out.rd (by omega)).mono ?_
  rintro e w2 ⟨A3, q, c3, rfl, hq, hW, hb⟩
  have W2 := Lib.hid hW
  have B2 := Lib.hid hb
  have hqm : q ≤ m := by have h1 := hW.1; have h2 := ofL_len ws sp gap j; have h3 := hl.out; omega
  clear hW hb
  go_wp2_with fail
  refine (sOffsetsOf_any A1 m c1 ws sp gap j w2 ((L.out.rd.below B2.out).more B2.out.size) (by omega)).mono ?_
  rintro e w3 ⟨A4, q', c4, rfl, hq', hW, hb⟩
  obtain rfl : q = q' := W2.out.1.symm.trans hW.1
  have W3 := Lib.hid hW
  have W23 := Lib.hid (W2.out.below hb)
  have B3 := Lib.hid hb
  clear hW hb hq'
  go_wp2_with fail
  refine (equalInts_any A3 A4 q c3 c4 (ofL ws sp gap j) _ _ w3 W23.out.rd W3.out.rd (by omega)).mono ?_
  rintro e w4 ⟨rfl, hb⟩
  have B4 := Lib.hid hb
  have W24 := Lib.hid (W23.out.below hb)
  clear hb
  have R4 := Lib.hid ((((((L.out.rd.below B2.out).more B2.out.size).below B3.out).more B3.out.size).below B4.out).more B4.out.size)
  have BB := Lib.hid (((B1.out.trans (B2.out.mono B1.out.size)).trans (B3.out.mono (Nat.le_trans B1.out.size B2.out.size))).trans (B4.out.mono (Nat.le_trans (Nat.le_trans B1.out.size B2.out.size) B3.out.size)))
  have ZL := Lib.hid (Nat.le_trans (Nat.le_trans B2.out.size B3.out.size) B4.out.size)
  clear L B2 B3 B4 W3 W23
  by_cases hq0 : q = 0
  · subst hq0
    go_wp2_with fail
    refine (sOffsetsOf_any A1 m c1 ws sp gap j w4 R4.out (by omega)).mono ?_
    rintro e w5 ⟨A5, q', c5, rfl, hq', hW, hb⟩
    obtain rfl : 0 = q' := W2.out.1.symm.trans hW.1
    have W5 := Lib.hid hW
    have W25 := Lib.hid (W24.out.below hb)
    have B5 := Lib.hid hb
    clear hW hb hq'
    go_wp2_with fail
    refine (equalInts_any A3 A5 0 c3 c5 (ofL ws sp gap j) _ _ w5 W25.out.rd W5.out.rd (by omega)).mono ?_
    rintro e w6 ⟨rfl, hb⟩
    have B6 := Lib.hid hb
    clear hb
    go_wp2
    go_ret
    exact ⟨rfl, (BB.out.trans (B5.out.mono BB.out.size)).trans (B6.out.mono (Nat.le_trans BB.out.size B5.out.size))⟩
  have hV : ofV ws sp gap j = true := by
    by_cases hV : ofV ws sp gap j = true
    · exact hV
    · have h1 := W2.out.1
      unfold ofL at h1
      rw [if_neg hV] at h1
      exact absurd h1.symm hq0
  obtain ⟨⟨m1, m8⟩, ha, ⟨p0, p1⟩, ⟨q0, q1⟩, r0, r1⟩ := ofV_iff.1 hV
  have HA := Lib.hid ha
  rw [hl.out] at m1 m8
  have HE : Hid (ofL ws sp gap j = mk m (ofF ws sp gap j)) := by unfold ofL; rw [if_pos hV, hl.out]; rfl
  obtain rfl : m = q := by have h1 := W2.out.1; rw [HE.out, mk_len] at h1; exact h1
  have W4 := Lib.hid W24.out
  rw [HE.out] at W4
  clear ha hV W2 W24 HE hqm
  have hqz : ((m : Int) == 0) = false := by simp; omega
  obtain ⟨n, hn⟩ : ∃ n, Hid (m = n + 1) := ⟨m - 1, by show m = m - 1 + 1; omega⟩
  have hnl : Hid (ws.length = n + 1) := by show ws.length = n + 1; rw [hl.out]; exact hn.out
  obtain ⟨T, hT⟩ : ∃ T, Hid (tot ws m = T) := ⟨_, rfl⟩
  have hTb := tot_ge ws 0 10000 HA.out m (by rw [hl.out]; omega)
  rw [hT.out] at hTb
  obtain ⟨T0, T1⟩ := hTb
  have hGb := prod_bd q0 q1 (show (0 : Int) ≤ (m : Int) - 1 by omega) (show (m : Int) - 1 ≤ 7 by omega)
  obtain ⟨G0, G1⟩ := hGb
  obtain ⟨F, hF⟩ : ∃ F, Hid (T + gap * ((m : Int) - 1) = F) := ⟨_, rfl⟩
  have F0 : 0 ≤ F ∧ F ≤ 200000 := by rw [← hF.out]; omega
  have HFT : Hid (tot ws (n + 1) + gap * n = F) := by
    show _ = _
    rw [← hF.out, ← hT.out, hn.out, show ((n + 1 : Nat) : Int) - 1 = n by omega]
  have i1 : IntKind.i64.wrap ((m : Int) - 1) = (m : Int) - 1 := IntWalk.i64_in _ (by omega)
  have i2 : IntKind.i64.wrap (gap * ((m : Int) - 1)) = gap * ((m : Int) - 1) := IntWalk.i64_in _ (by omega)
  have i3 : IntKind.i64.wrap (T + gap * ((m : Int) - 1)) = F := by rw [hF.out]; exact IntWalk.i64_in _ (by omega)
  have HVa : Hid (ofV ws F gap j = true) := ofV_iff.2 ⟨by rw [hl.out]; exact ⟨m1, m8⟩, HA.out, F0, ⟨q0, q1⟩, r0, r1⟩
  have HVb : Hid (ofV ws F gap 0 = true) := ofV_iff.2 ⟨by rw [hl.out]; exact ⟨m1, m8⟩, HA.out, F0, ⟨q0, q1⟩, by omega, by omega⟩
  have HEq : Hid (mk m (ofF ws F gap j) = mk m (ofF ws F gap 0)) := mk_congr _ _ _ fun i _ => by rw [← HFT.out]; exact of_full hnl.out i
  clear F0
  go_wp2_with fail
  refine (lsum_any A1 m c1 ws _ w4 R4.out (by omega) (HA.out.mono (by omega) (by omega))).mono ?_
  rintro e w' ⟨rfl, rfl⟩
  rw [hT.out]
  go_wp2_with fail
  try rw [hF.out]
  refine (iOffsetsOf_any A1 m c1 ws F gap j w4 R4.out (by omega)).mono ?_
  rintro e w5 ⟨A5, q5, c5, rfl, hq5, hW, hb⟩
  rw [ofL_of HVa.out hl.out, HEq.out] at hW
  obtain rfl : m = q5 := by have h1 := hW.1; rw [mk_len] at h1; exact h1
  have W5 := Lib.hid hW
  have B5 := Lib.hid hb
  clear hW hb hq5
  go_wp2_with fail
  try rw [hF.out]
  refine (iOffsetsOf_any A1 m c1 ws F gap 0 w5 ((R4.out.below B5.out).more B5.out.size) (by omega)).mono ?_
  rintro e w6 ⟨A6, q6, c6, rfl, hq6, hW, hb⟩
  rw [ofL_of HVb.out hl.out] at hW
  obtain rfl : m = q6 := by have h1 := hW.1; rw [mk_len] at h1; exact h1
  have W6 := Lib.hid hW
  have W56 := Lib.hid (W5.out.below hb)
  have B6 := Lib.hid hb
  clear hW hb hq6
  go_wp2_with fail
  refine (equalInts_any A5 A6 m c5 c6 _ _ _ w6 W56.out.rd W6.out.rd (by omega)).mono ?_
  rintro e w7 ⟨rfl, hb⟩
  have B7 := Lib.hid hb
  clear hb
  go_wp2
  go_ret
  exact ⟨rfl, ((BB.out.trans (B5.out.mono BB.out.size)).trans (B6.out.mono (Nat.le_trans BB.out.size B5.out.size))).trans (B7.out.mono (Nat.le_trans (Nat.le_trans BB.out.size B5.out.size) B6.out.size))⟩
set_option maxHeartbeats 4000000 in
theorem walkFnOffsetsOfEnd (A : Option Addr) (n c : Nat) (zs : List Int) (w : World) (h : IsRow .u8 w A n c zs) :
    Calls Try.prog 13 #[.slice A n c] w fun e w' => e = .returned (.bool true) ∧ Below w.heap.size w w' := by
  have H := Lib.hid h
  have hn : (n : Int) ≤ 9223372036854775807 := by obtain ⟨h1, h2, _⟩ := bytes_of_row h; unfold maxLen at h2; omega
  clear h
  by_cases hl : (1048576 : Int) < n
  · go_enter Try.func13, Try.ntmps13
    go_wp2
    go_ret
    exact ⟨rfl, Below.refl _ _⟩
  go_enter Try.func13, Try.ntmps13
  go_wp2_with fail
  refine (DrawOffsetsOf_any _ _ _ _ _ H.out).mono ?_
  rintro e w1 ⟨A1, m, c1, ws, sp, gap, j, rfl, ⟨s0, s1⟩, ⟨g0, g1⟩, ⟨j0, j1⟩, hL, hb1⟩
  have hm : m ≤ 11 := hL.1
  have L := Lib.hid hL
  have B1 := Lib.hid hb1
  have hl := Lib.hid hL.2.2.2.2.2.1
  clear hL hb1
  go_wp2_with fail
  refine (iOffsetsOf_any A1 m c1 ws sp gap j w1 L.out.rd (by omega)).mono ?_
  rintro e w2 ⟨A3, q, c3, rfl, hq, hW, hb⟩
  have W2 := Lib.hid hW
  have B2 := Lib.hid hb
  have hqm : q ≤ m := by have h1 := hW.1; have h2 := ofL_len ws sp gap j; have h3 := hl.out; omega
  clear hW hb
  go_wp2_with fail
  refine (sOffsetsOf_any A1 m c1 ws sp gap j w2 ((L.out.rd.below B2.out).more B2.out.size) (by omega)).mono ?_
  rintro e w3 ⟨A4, q', c4, rfl, hq', hW, hb⟩
  obtain rfl : q = q' := W2.out.1.symm.trans hW.1
  have W3 := Lib.hid hW
  have W23 := Lib.hid (W2.out.below hb)
  have B3 := Lib.hid hb
  clear hW hb hq'
  go_wp2_with fail
  refine (equalInts_any A3 A4 q c3 c4 (ofL ws sp gap j) _ _ w3 W23.out.rd W3.out.rd (by omega)).mono ?_
  rintro e w4 ⟨rfl, hb⟩
  have B4 := Lib.hid hb
  have W24 := Lib.hid (W23.out.below hb)
  clear hb
  have R4 := Lib.hid ((((((L.out.rd.below B2.out).more B2.out.size).below B3.out).more B3.out.size).below B4.out).more B4.out.size)
  have BB := Lib.hid (((B1.out.trans (B2.out.mono B1.out.size)).trans (B3.out.mono (Nat.le_trans B1.out.size B2.out.size))).trans (B4.out.mono (Nat.le_trans (Nat.le_trans B1.out.size B2.out.size) B3.out.size)))
  have ZL := Lib.hid (Nat.le_trans (Nat.le_trans B2.out.size B3.out.size) B4.out.size)
  clear L B2 B3 B4 W3 W23
  by_cases hq0 : q = 0
  · subst hq0
    go_wp2_with fail
    refine (sOffsetsOf_any A1 m c1 ws sp gap j w4 R4.out (by omega)).mono ?_
    rintro e w5 ⟨A5, q', c5, rfl, hq', hW, hb⟩
    obtain rfl : 0 = q' := W2.out.1.symm.trans hW.1
    have W5 := Lib.hid hW
    have W25 := Lib.hid (W24.out.below hb)
    have B5 := Lib.hid hb
    clear hW hb hq'
    go_wp2_with fail
    refine (equalInts_any A3 A5 0 c3 c5 (ofL ws sp gap j) _ _ w5 W25.out.rd W5.out.rd (by omega)).mono ?_
    rintro e w6 ⟨rfl, hb⟩
    have B6 := Lib.hid hb
    clear hb
    go_wp2
    go_ret
    exact ⟨rfl, (BB.out.trans (B5.out.mono BB.out.size)).trans (B6.out.mono (Nat.le_trans BB.out.size B5.out.size))⟩
  have hV : ofV ws sp gap j = true := by
    by_cases hV : ofV ws sp gap j = true
    · exact hV
    · have h1 := W2.out.1
      unfold ofL at h1
      rw [if_neg hV] at h1
      exact absurd h1.symm hq0
  obtain ⟨⟨m1, m8⟩, ha, ⟨p0, p1⟩, ⟨q0, q1⟩, r0, r1⟩ := ofV_iff.1 hV
  have HA := Lib.hid ha
  rw [hl.out] at m1 m8
  have HE : Hid (ofL ws sp gap j = mk m (ofF ws sp gap j)) := by unfold ofL; rw [if_pos hV, hl.out]; rfl
  obtain rfl : m = q := by have h1 := W2.out.1; rw [HE.out, mk_len] at h1; exact h1
  have W4 := Lib.hid W24.out
  rw [HE.out] at W4
  clear ha hV W2 W24 HE hqm
  have hqz : ((m : Int) == 0) = false := by simp; omega
  obtain ⟨n, hn⟩ : ∃ n, Hid (m = n + 1) := ⟨m - 1, by show m = m - 1 + 1; omega⟩
  have hnl : Hid (ws.length = n + 1) := by show ws.length = n + 1; rw [hl.out]; exact hn.out
  have HV : Hid (ofV ws sp gap j = true) := ofV_iff.2 ⟨by rw [hl.out]; exact ⟨m1, m8⟩, HA.out, ⟨p0, p1⟩, ⟨q0, q1⟩, r0, r1⟩
  obtain ⟨L, hL⟩ : ∃ L, Hid (ofLeft ws sp gap = L) := ⟨_, rfl⟩
  have hLb := ofLeft_bd HA.out (by rw [hl.out]; exact m1) p0 p1 q0
  rw [hL.out] at hLb
  obtain ⟨L0, L1⟩ := hLb
  obtain ⟨T, hT⟩ : ∃ T, Hid (tot ws m = T) := ⟨_, rfl⟩
  have hTb := tot_ge ws 0 10000 HA.out m (by rw [hl.out]; omega)
  rw [hT.out] at hTb
  obtain ⟨T0, T1⟩ := hTb
  obtain ⟨G, hG⟩ : ∃ G, Hid (gap * ((m : Int) - 1) = G) := ⟨_, rfl⟩
  have hGb := prod_bd q0 q1 (show (0 : Int) ≤ (m : Int) - 1 by omega) (show (m : Int) - 1 ≤ 7 by omega)
  rw [hG.out] at hGb
  obtain ⟨G0, G1⟩ := hGb
  have hGn : gap * (n : Int) = G := by rw [← hG.out, hn.out, show ((n + 1 : Nat) : Int) - 1 = n by omega]
  have hTn : tot ws (n + 1) = T := by rw [← hn.out]; exact hT.out
  have hmn : m - 1 = n := by have := hn.out; omega
  obtain ⟨M, hM⟩ : ∃ M, Hid (sm (ofMore j L ws.length) n = M) := ⟨_, rfl⟩
  obtain ⟨X, hX⟩ : ∃ X, Hid (ofF ws sp gap j 0 = X) := ⟨_, rfl⟩
  obtain ⟨U, hU⟩ : ∃ U, Hid (ofF ws sp gap j (m - 1) = U) := ⟨_, rfl⟩
  obtain ⟨Z, hZ⟩ : ∃ Z, Hid (ws.getD (m - 1) 0 = Z) := ⟨_, rfl⟩
  have hXa : X = ofAt j L := by rw [← hX.out, ofF_zero, hL.out]
  have hend : U + Z = ofAt j L + (T + G) + M := by
    have h := of_end (zs := ws) (sp := sp) (gap := gap) (j := j) (n := n)
    rw [hL.out, hTn, hGn, hM.out] at h
    rw [← hU.out, ← hZ.out, hmn]
    exact h
  have hrm : T + G ≤ sp → L = sp - (T + G) := fun h => by
    have h2 := of_left (sp := sp) (gap := gap) hnl.out (by rw [hTn, hGn]; exact h)
    rw [hL.out, hTn, hGn] at h2
    exact h2
  have hM0 : ¬ (j = 3 ∧ 1 < m) → M = 0 := fun h => by
    have h2 := sm_none (zs := ws) (sp := sp) (gap := gap) (j := j) (k := n) (by rw [hl.out]; exact h)
    rw [hL.out, hM.out] at h2
    exact h2
  have hM3 : j = 3 → 1 < m → M = L := fun h h1 => by
    subst h
    have h2 := sm_more (zs := ws) (sp := sp) (gap := gap) (by rw [hl.out]; exact h1)
    rw [hL.out, hl.out, hmn] at h2
    have h3 := hM.out
    rw [hl.out] at h3
    rw [← h3]; exact h2
  obtain ⟨b, off, rfl, _, hc⟩ := R4.out.cell (by omega)
  obtain ⟨b', off', rfl, _, hc'⟩ := W4.out.rd.cell (by omega)
  have cX : w4.cell? ⟨b', off', none⟩ = some (.int .i64 X) := by rw [← hX.out]; have h := hc' 0 (by omega); rw [mk_getD _ _ _ (by omega)] at h; exact h
  have cU : w4.cell? ⟨b', off' + (m - 1), none⟩ = some (.int .i64 U) := by rw [← hU.out]; have h := hc' (m - 1) (by omega); rw [mk_getD _ _ _ (by omega)] at h; exact h
  have cZ : w4.cell? ⟨b, off + (m - 1), none⟩ = some (.int .i64 Z) := by rw [← hZ.out]; exact hc (m - 1) (by omega)
  have U0 := ofF_all HV.out (m - 1) (by rw [hl.out]; omega)
  rw [hU.out] at U0
  have Z0 := HA.out.getD (m - 1) (by rw [hl.out]; omega)
  rw [hZ.out] at Z0
  have X0 := ofF_all HV.out 0 (by omega)
  rw [hX.out] at X0
  obtain ⟨U0, U1⟩ := U0
  obtain ⟨Z0, Z1⟩ := Z0
  obtain ⟨X0, X1⟩ := X0
  clear hc hc' hGn hTn hmn
  have i1 : IntKind.i64.wrap ((m : Int) - 1) = (m : Int) - 1 := IntWalk.i64_in _ (by omega)
  have i2 : IntKind.i64.wrap (gap * ((m : Int) - 1)) = G := by rw [hG.out]; exact IntWalk.i64_in _ (by omega)
  have i3 : IntKind.i64.wrap (T + G) = T + G := IntWalk.i64_in _ (by omega)
  have i4 : IntKind.i64.wrap (U + Z) = U + Z := IntWalk.i64_in _ (by omega)
  have i5 : (0 : Int) ≤ (m : Int) - 1 := by omega
  have i6 : ((m : Int) - 1).toNat = m - 1 := by omega
  have i7 : (m : Int) - 1 < (m : Int) := by omega
  have i8 : (0 : Int) < (m : Int) := by omega
  have i9 : IntKind.i64.wrap (sp - (U + Z)) = sp - (U + Z) := IntWalk.i64_in _ (by omega)
  have i10 : IntKind.i64.wrap (sp - (U + Z) - X) = sp - (U + Z) - X := IntWalk.i64_in _ (by omega)
  have hcase : (j = 0 ∧ X = 0) ∨ (j = 1 ∧ (T + G ≤ sp → U + Z = sp)) ∨ (j = 2 ∧ (T + G ≤ sp → sp - (U + Z) - X = 0 ∨ sp - (U + Z) - X = 1)) ∨ (j = 3 ∧ X = 0 ∧ (T + G ≤ sp → m = 1 ∨ U + Z = sp)) := by
    have hj : j = 0 ∨ j = 1 ∨ j = 2 ∨ j = 3 := by omega
    rcases hj with h | h | h | h
    · exact .inl ⟨h, by rw [hXa, h]; rfl⟩
    · refine .inr (.inl ⟨h, fun hr => ?_⟩)
      have := hM0 (by omega); have := hrm hr
      have e : ofAt j L = L := by rw [h]; rfl
      omega
    · refine .inr (.inr (.inl ⟨h, fun hr => ?_⟩))
      have := hM0 (by omega); have := hrm hr
      have e : ofAt j L = L / 2 := by rw [h]; rfl
      omega
    · have e : ofAt j L = 0 := by rw [h]; rfl
      refine .inr (.inr (.inr ⟨h, by omega, fun hr => ?_⟩))
      have := hrm hr
      rcases Nat.lt_or_ge 1 m with h1 | h1
      · have := hM3 h h1; right; omega
      · left; omega
  have HCs := Lib.hid hcase
  clear hcase hM0 hM3 hrm hend hXa
  go_wp2_with fail
  refine (lsum_any _ m c1 ws _ w4 R4.out (by omega) (HA.out.mono (by omega) (by omega))).mono ?_
  rintro e w' ⟨rfl, rfl⟩
  rw [hT.out]
  by_cases hroom : T + G ≤ sp
  · have hr1 : decide (T + G ≤ sp) = true := by simp; exact hroom
    rcases HCs.out with ⟨hj, h1⟩ | ⟨hj, h1⟩ | ⟨hj, h1⟩ | ⟨hj, h1, h2⟩
    · subst hj h1
      go_wp2
      go_quiet (fail)
      go_wp2
      go_ret
      exact ⟨ret_bool (by simp), below_drewN BB.out _⟩
    · have h3 : (U + Z == sp) = true := by simp; exact h1 hroom
      clear h1
      subst hj
      go_wp2
      go_quiet (fail)
      go_wp2
      go_ret
      exact ⟨ret_bool (by simp), below_drewN BB.out _⟩
    · have h3 : (sp - (U + Z) - X == 0) = true ∨ ((sp - (U + Z) - X == 0) = false ∧ (sp - (U + Z) - X == 1) = true) := by
        rcases h1 hroom with h4 | h4
        · left; simp; omega
        · right; constructor <;> simp <;> omega
      clear h1
      subst hj
      rcases h3 with h3 | ⟨h3, h4⟩
      all_goals
        go_wp2
        go_quiet (fail)
        go_wp2
        go_ret
        exact ⟨ret_bool (by simp), below_drewN BB.out _⟩
    · have h3 : ((m : Int) - 1 == 0) = true ∨ (((m : Int) - 1 == 0) = false ∧ (U + Z == sp) = true) := by
        by_cases h5 : m = 1
        · left; simp; omega
        · rcases h2 hroom with h4 | h4
          · exact absurd h4 h5
          · right; constructor <;> simp <;> omega
      clear h2
      subst hj h1
      rcases h3 with h3 | ⟨h3, h4⟩
      all_goals
        go_wp2
        go_quiet (fail)
        go_wp2
        go_ret
        exact ⟨ret_bool (by simp), below_drewN BB.out _⟩
  · have hr1 : decide (T + G ≤ sp) = false := by simp; omega
    rcases HCs.out with ⟨hj, h1⟩ | ⟨hj, h1⟩ | ⟨hj, h1⟩ | ⟨hj, h1, h2⟩
    · subst hj h1
      go_wp2
      go_quiet (fail)
      go_wp2
      go_ret
      exact ⟨ret_bool (by simp), below_drewN BB.out _⟩
    · clear h1
      subst hj
      go_wp2
      go_quiet (fail)
      go_wp2
      go_ret
      exact ⟨ret_bool (by simp), below_drewN BB.out _⟩
    · clear h1
      subst hj
      go_wp2
      go_quiet (fail)
      go_wp2
      go_ret
      exact ⟨ret_bool (by simp), below_drewN BB.out _⟩
    · clear h2
      subst hj h1
      go_wp2
      go_quiet (fail)
      go_wp2
      go_ret
      exact ⟨ret_bool (by simp), below_drewN BB.out _⟩
end Go.Proofs.Ytlijbopcllanfaa
