/- Where sizes begin, by the reference. -/
import Derived.Test.YtjaecgobgpfbdaaSC
import Derived.Test.YtjaecgobgpfbdaaRZ
import Derived.Test.YtjaecgobgpfbdaaPO
namespace Go.Proofs.Ytjaecgobgpfbdaa
open Go.RowKit

set_option maxHeartbeats 8000000 in
theorem soffsets_any (A : Option Addr) (n c : Nat) (zs : List Int) (sp gap j : Int) (w : World) (h : Rd w w.heap.size A n zs) (hn1 : 1 ≤ n) (hn : n ≤ 8) (ha : AllB zs 0 10000) (s0 : 0 ≤ sp) (s1 : sp ≤ 200000) (g0 : 0 ≤ gap) (g1 : gap ≤ 50) (j0 : 0 ≤ j) (j1 : j ≤ 3) :
    Calls Try.prog 90 #[.slice A n c, .int .i64 sp, .int .i64 gap, .int .i64 j] w (GotI w (mk n (ofF zs sp gap j))) := by
  obtain ⟨i0, hi, hz0, hz1, hz2⟩ := info_parts int_info
  have hmk := fun W (q : Nat) (hq : q ≤ 2000000) => run_make_rowN (P := Try.prog) 33 3 i0 (.int .i64 0) Try.underlying33 hi hz0 .i64 .i64 q q (Nat.le_refl _) (by rw [hz2]; omega) (by omega) W
  rw [hz1] at hmk
  have H := Lib.hid h
  have HA := Lib.hid ha
  have hl := Lib.hid h.1
  have HZ := Lib.hid (ha.mono (lo' := -1000000) (hi' := 1000000) (by omega) (by omega))
  obtain ⟨T, hT⟩ : ∃ T, Hid (tot zs n = T) := ⟨_, rfl⟩
  have hTb := tot_ge zs 0 10000 ha n (by rw [hl.out]; omega)
  rw [hT.out] at hTb
  obtain ⟨T0, T1⟩ := hTb
  obtain ⟨G, hG⟩ : ∃ G, Hid (gap * ((n : Int) - 1) = G) := ⟨_, rfl⟩
  have hGb := prod_bd g0 g1 (show (0 : Int) ≤ (n : Int) - 1 by omega) (show (n : Int) - 1 ≤ 7 by omega)
  rw [hG.out] at hGb
  obtain ⟨G0, G1⟩ := hGb
  obtain ⟨L, hL⟩ : ∃ L, Hid (ofLeft zs sp gap = L) := ⟨_, rfl⟩
  have hLb := ofLeft_bd ha (by rw [hl.out]; exact hn1) s0 s1 g0
  rw [hL.out] at hLb
  obtain ⟨L0, L1⟩ := hLb
  have HLM : Hid (max 0 (sp - T - G) = L) := by
    have e := hL.out
    unfold ofLeft at e
    rw [hl.out, hT.out, hG.out] at e
    show _ = _
    rw [← e]; omega
  have HF : Hid (∀ k, ofF zs sp gap j k = ofAt j L + sm (fun q => zs.getD q 0 + gap + ofMore j L n q) k) := fun k => by unfold ofF; rw [hL.out, hl.out]
  have HS := Lib.hid (fun k (hk : k ≤ n) => ofS_bd (j := j) HA.out g0 g1 L0 L1 n k (by rw [hl.out]; exact hk))
  have hwn : IntKind.i64.wrap ((n : Int) - 1) = (n : Int) - 1 := IntWalk.i64_in _ (by omega)
  have hwg : IntKind.i64.wrap (gap * ((n : Int) - 1)) = G := by rw [hG.out]; exact IntWalk.i64_in _ (by omega)
  clear h ha hi hz0 hz1 hz2
  have HW1 := Lib.hid ((Below.refl w.heap.size w).alloc (Nat.le_refl _) (.cells #[] 3))
  have hmn := fun W => hmk W n (by omega)
  clear hmk
  have hj : j = 0 ∨ j = 1 ∨ j = 2 ∨ (j = 3 ∧ n = 1) ∨ (j = 3 ∧ 1 < n) := by omega
  rcases hj with rfl | rfl | rfl | ⟨rfl, hn2⟩ | ⟨rfl, hn2⟩
  · go_enter Try.func90, Try.ntmps90
    go_wp2_with (go_at_call 97; ((with_reducible refine (ssum_any A n c zs w.heap.size _ (H.out.below HW1.out) (by omega) HZ.out).mono ?_); rintro e w' ⟨rfl, rfl⟩; rw [hT.out]))
    rw [HLM.out]
    have HX := Lib.hid (HW1.out.alloc (by simp) (.cells (madeCells #[Value.int .i64 0] n) 3))
    have HBk := Lib.hid (Bk.made (w.alloc (.cells #[] 3)) n 3)
    rw [show (w.alloc (.cells #[] 3)).heap.size = w.heap.size + 1 by simp] at HBk
    generalize (w.alloc (.cells #[] 3)).alloc (.cells (madeCells #[Value.int .i64 0] n) 3) = wX at HX HBk ⊢
    have HMo : Hid (Bk wX (w.heap.size + 1) n (mk n (ofMore 0 L n))) := HBk.out.mk_to fun i _ => (ofMore_no (by omega) i).symm
    have hAt := ofAt_bd (j := 0) L0
    go_loopw [9, 12, 15] (fun ov av iv wr => ∃ k : Nat, k ≤ n ∧ iv = .int .i64 k ∧ av = .int .i64 (ofAt 0 L + sm (fun q => zs.getD q 0 + gap + ofMore 0 L n q) k) ∧ Hid (Rz wX ov k (mk k (ofF zs sp gap 0)) wr)) (fun _ _ iv _ => n - (intOf iv).toNat)
    case atStart => exact ⟨0, Nat.zero_le _, rfl, vint (by simp [ofAt, sm]), Rz.start wX _⟩
    case round =>
      obtain ⟨k, hk, rfl, rfl, hI⟩ := hrel
      obtain ⟨b0, b1⟩ := HS.out k hk
      obtain ⟨a0, a1⟩ := hAt
      obtain ⟨S, hS⟩ : ∃ S, Hid (ofAt 0 L + sm (fun q => zs.getD q 0 + gap + ofMore 0 L n q) k = S) := ⟨_, rfl⟩
      have c0 : 0 ≤ S := by rw [← hS.out]; omega
      have c1 : S ≤ 3000000 := by rw [← hS.out]; omega
      have HSv : Hid (ofF zs sp gap 0 k = S) := by rw [HF.out]; exact hS
      rw [hS.out]
      clear a0 a1 b0 b1
      by_cases hlt : k < n
      · obtain ⟨v0, v1⟩ := HA.out.getD k (by rw [hl.out]; exact hlt)
        obtain ⟨m0, m1⟩ := ofMore_bd (j := 0) L0 n k
        obtain ⟨b, off, rfl, hbl, hc⟩ := H.out.cell (by omega)
        have hc1 := hc k hlt
        have hc2 := (HMo.out.2.2 k hlt).1
        rw [mk_getD _ _ _ hlt] at hc2
        obtain ⟨v, hv⟩ : ∃ v, Hid (zs.getD k 0 = v) := ⟨_, rfl⟩
        obtain ⟨m, hm⟩ : ∃ m, Hid (ofMore 0 L n k = m) := ⟨_, rfl⟩
        rw [hv.out] at hc1 v0 v1
        rw [hm.out] at hc2 m0 m1
        have HNx : Hid (ofAt 0 L + sm (fun q => zs.getD q 0 + gap + ofMore 0 L n q) (k + 1) = S + v + gap + m) := by show _ = _; rw [sm, hv.out, hm.out, ← hS.out]; omega
        have HC1 := Lib.hid hc1
        have HC2 := Lib.hid hc2
        have w1' : IntKind.i64.wrap (S + v) = S + v := IntWalk.i64_in _ (by omega)
        have w2' : IntKind.i64.wrap (S + v + gap) = S + v + gap := IntWalk.i64_in _ (by omega)
        have w3' : IntKind.i64.wrap (S + v + gap + m) = S + v + gap + m := IntWalk.i64_in _ (by omega)
        have k0 : (0 : Int) ≤ (k : Int) := by omega
        have k1 : (k : Int) < (n : Int) := by omega
        clear hc hc1 hc2
        go_wp2_with (at_builtin; refine wpList_appz _ rfl _ _ rfl _ _ _ rfl (hI.out.alloc _) (by omega) wr.heap.size S rfl (by simp [go_sem]) ?_; intro v' wn hown; have HO := Lib.hid hown; clear hown)
        have e1 : wn.cell? ⟨b, off + k, none⟩ = some (.int .i64 v) := by rw [HO.out.bl.cell (p := ⟨b, off + k, none⟩) (Nat.lt_of_lt_of_le hbl HX.out.size), HX.out.cell (p := ⟨b, off + k, none⟩) hbl]; exact HC1.out
        have e2 : wn.cell? ⟨w.heap.size + 1, k, none⟩ = some (.int .i64 m) := by rw [HO.out.bl.cell (p := ⟨w.heap.size + 1, k, none⟩) HMo.out.lt]; exact HC2.out
        go_quiet (fail)
        clear w1' w2' w3' e1 e2
        go_wp2
        go_roundw
        case rel => exact ⟨k + 1, by omega, by go_num, vint HNx.out.symm, by rw [mk_succ, HSv.out]; exact HO.out.drewN nq⟩
        case measure => simp [intOf]; omega
      · obtain rfl : k = n := by omega
        go_wp2
        go_ret
        obtain ⟨A', c', rfl, q1, q2, _, q3⟩ := hI.out.out
        exact ⟨A', k, c', rfl, q1, q3.low HX.out.size, HX.out.trans (hI.out.bl.mono HX.out.size)⟩
  · go_enter Try.func90, Try.ntmps90
    go_wp2_with (go_at_call 97; ((with_reducible refine (ssum_any A n c zs w.heap.size _ (H.out.below HW1.out) (by omega) HZ.out).mono ?_); rintro e w' ⟨rfl, rfl⟩; rw [hT.out]))
    rw [HLM.out]
    have HX := Lib.hid (HW1.out.alloc (by simp) (.cells (madeCells #[Value.int .i64 0] n) 3))
    have HBk := Lib.hid (Bk.made (w.alloc (.cells #[] 3)) n 3)
    rw [show (w.alloc (.cells #[] 3)).heap.size = w.heap.size + 1 by simp] at HBk
    generalize (w.alloc (.cells #[] 3)).alloc (.cells (madeCells #[Value.int .i64 0] n) 3) = wX at HX HBk ⊢
    have HMo : Hid (Bk wX (w.heap.size + 1) n (mk n (ofMore 1 L n))) := HBk.out.mk_to fun i _ => (ofMore_no (by omega) i).symm
    have hAt := ofAt_bd (j := 1) L0
    go_loopw [9, 12, 15] (fun ov av iv wr => ∃ k : Nat, k ≤ n ∧ iv = .int .i64 k ∧ av = .int .i64 (ofAt 1 L + sm (fun q => zs.getD q 0 + gap + ofMore 1 L n q) k) ∧ Hid (Rz wX ov k (mk k (ofF zs sp gap 1)) wr)) (fun _ _ iv _ => n - (intOf iv).toNat)
    case atStart => exact ⟨0, Nat.zero_le _, rfl, vint (by simp [ofAt, sm]), Rz.start wX _⟩
    case round =>
      obtain ⟨k, hk, rfl, rfl, hI⟩ := hrel
      obtain ⟨b0, b1⟩ := HS.out k hk
      obtain ⟨a0, a1⟩ := hAt
      obtain ⟨S, hS⟩ : ∃ S, Hid (ofAt 1 L + sm (fun q => zs.getD q 0 + gap + ofMore 1 L n q) k = S) := ⟨_, rfl⟩
      have c0 : 0 ≤ S := by rw [← hS.out]; omega
      have c1 : S ≤ 3000000 := by rw [← hS.out]; omega
      have HSv : Hid (ofF zs sp gap 1 k = S) := by rw [HF.out]; exact hS
      rw [hS.out]
      clear a0 a1 b0 b1
      by_cases hlt : k < n
      · obtain ⟨v0, v1⟩ := HA.out.getD k (by rw [hl.out]; exact hlt)
        obtain ⟨m0, m1⟩ := ofMore_bd (j := 1) L0 n k
        obtain ⟨b, off, rfl, hbl, hc⟩ := H.out.cell (by omega)
        have hc1 := hc k hlt
        have hc2 := (HMo.out.2.2 k hlt).1
        rw [mk_getD _ _ _ hlt] at hc2
        obtain ⟨v, hv⟩ : ∃ v, Hid (zs.getD k 0 = v) := ⟨_, rfl⟩
        obtain ⟨m, hm⟩ : ∃ m, Hid (ofMore 1 L n k = m) := ⟨_, rfl⟩
        rw [hv.out] at hc1 v0 v1
        rw [hm.out] at hc2 m0 m1
        have HNx : Hid (ofAt 1 L + sm (fun q => zs.getD q 0 + gap + ofMore 1 L n q) (k + 1) = S + v + gap + m) := by show _ = _; rw [sm, hv.out, hm.out, ← hS.out]; omega
        have HC1 := Lib.hid hc1
        have HC2 := Lib.hid hc2
        have w1' : IntKind.i64.wrap (S + v) = S + v := IntWalk.i64_in _ (by omega)
        have w2' : IntKind.i64.wrap (S + v + gap) = S + v + gap := IntWalk.i64_in _ (by omega)
        have w3' : IntKind.i64.wrap (S + v + gap + m) = S + v + gap + m := IntWalk.i64_in _ (by omega)
        have k0 : (0 : Int) ≤ (k : Int) := by omega
        have k1 : (k : Int) < (n : Int) := by omega
        clear hc hc1 hc2
        go_wp2_with (at_builtin; refine wpList_appz _ rfl _ _ rfl _ _ _ rfl (hI.out.alloc _) (by omega) wr.heap.size S rfl (by simp [go_sem]) ?_; intro v' wn hown; have HO := Lib.hid hown; clear hown)
        have e1 : wn.cell? ⟨b, off + k, none⟩ = some (.int .i64 v) := by rw [HO.out.bl.cell (p := ⟨b, off + k, none⟩) (Nat.lt_of_lt_of_le hbl HX.out.size), HX.out.cell (p := ⟨b, off + k, none⟩) hbl]; exact HC1.out
        have e2 : wn.cell? ⟨w.heap.size + 1, k, none⟩ = some (.int .i64 m) := by rw [HO.out.bl.cell (p := ⟨w.heap.size + 1, k, none⟩) HMo.out.lt]; exact HC2.out
        go_quiet (fail)
        clear w1' w2' w3' e1 e2
        go_wp2
        go_roundw
        case rel => exact ⟨k + 1, by omega, by go_num, vint HNx.out.symm, by rw [mk_succ, HSv.out]; exact HO.out.drewN nq⟩
        case measure => simp [intOf]; omega
      · obtain rfl : k = n := by omega
        go_wp2
        go_ret
        obtain ⟨A', c', rfl, q1, q2, _, q3⟩ := hI.out.out
        exact ⟨A', k, c', rfl, q1, q3.low HX.out.size, HX.out.trans (hI.out.bl.mono HX.out.size)⟩
  · go_enter Try.func90, Try.ntmps90
    go_wp2_with (go_at_call 97; ((with_reducible refine (ssum_any A n c zs w.heap.size _ (H.out.below HW1.out) (by omega) HZ.out).mono ?_); rintro e w' ⟨rfl, rfl⟩; rw [hT.out]))
    rw [HLM.out]
    have HX := Lib.hid (HW1.out.alloc (by simp) (.cells (madeCells #[Value.int .i64 0] n) 3))
    have HBk := Lib.hid (Bk.made (w.alloc (.cells #[] 3)) n 3)
    rw [show (w.alloc (.cells #[] 3)).heap.size = w.heap.size + 1 by simp] at HBk
    generalize (w.alloc (.cells #[] 3)).alloc (.cells (madeCells #[Value.int .i64 0] n) 3) = wX at HX HBk ⊢
    have HMo : Hid (Bk wX (w.heap.size + 1) n (mk n (ofMore 2 L n))) := HBk.out.mk_to fun i _ => (ofMore_no (by omega) i).symm
    have hAt := ofAt_bd (j := 2) L0
    go_loopw [9, 12, 15] (fun ov av iv wr => ∃ k : Nat, k ≤ n ∧ iv = .int .i64 k ∧ av = .int .i64 (ofAt 2 L + sm (fun q => zs.getD q 0 + gap + ofMore 2 L n q) k) ∧ Hid (Rz wX ov k (mk k (ofF zs sp gap 2)) wr)) (fun _ _ iv _ => n - (intOf iv).toNat)
    case atStart => exact ⟨0, Nat.zero_le _, rfl, vint (by simp [ofAt, sm]), Rz.start wX _⟩
    case round =>
      obtain ⟨k, hk, rfl, rfl, hI⟩ := hrel
      obtain ⟨b0, b1⟩ := HS.out k hk
      obtain ⟨a0, a1⟩ := hAt
      obtain ⟨S, hS⟩ : ∃ S, Hid (ofAt 2 L + sm (fun q => zs.getD q 0 + gap + ofMore 2 L n q) k = S) := ⟨_, rfl⟩
      have c0 : 0 ≤ S := by rw [← hS.out]; omega
      have c1 : S ≤ 3000000 := by rw [← hS.out]; omega
      have HSv : Hid (ofF zs sp gap 2 k = S) := by rw [HF.out]; exact hS
      rw [hS.out]
      clear a0 a1 b0 b1
      by_cases hlt : k < n
      · obtain ⟨v0, v1⟩ := HA.out.getD k (by rw [hl.out]; exact hlt)
        obtain ⟨m0, m1⟩ := ofMore_bd (j := 2) L0 n k
        obtain ⟨b, off, rfl, hbl, hc⟩ := H.out.cell (by omega)
        have hc1 := hc k hlt
        have hc2 := (HMo.out.2.2 k hlt).1
        rw [mk_getD _ _ _ hlt] at hc2
        obtain ⟨v, hv⟩ : ∃ v, Hid (zs.getD k 0 = v) := ⟨_, rfl⟩
        obtain ⟨m, hm⟩ : ∃ m, Hid (ofMore 2 L n k = m) := ⟨_, rfl⟩
        rw [hv.out] at hc1 v0 v1
        rw [hm.out] at hc2 m0 m1
        have HNx : Hid (ofAt 2 L + sm (fun q => zs.getD q 0 + gap + ofMore 2 L n q) (k + 1) = S + v + gap + m) := by show _ = _; rw [sm, hv.out, hm.out, ← hS.out]; omega
        have HC1 := Lib.hid hc1
        have HC2 := Lib.hid hc2
        have w1' : IntKind.i64.wrap (S + v) = S + v := IntWalk.i64_in _ (by omega)
        have w2' : IntKind.i64.wrap (S + v + gap) = S + v + gap := IntWalk.i64_in _ (by omega)
        have w3' : IntKind.i64.wrap (S + v + gap + m) = S + v + gap + m := IntWalk.i64_in _ (by omega)
        have k0 : (0 : Int) ≤ (k : Int) := by omega
        have k1 : (k : Int) < (n : Int) := by omega
        clear hc hc1 hc2
        go_wp2_with (at_builtin; refine wpList_appz _ rfl _ _ rfl _ _ _ rfl (hI.out.alloc _) (by omega) wr.heap.size S rfl (by simp [go_sem]) ?_; intro v' wn hown; have HO := Lib.hid hown; clear hown)
        have e1 : wn.cell? ⟨b, off + k, none⟩ = some (.int .i64 v) := by rw [HO.out.bl.cell (p := ⟨b, off + k, none⟩) (Nat.lt_of_lt_of_le hbl HX.out.size), HX.out.cell (p := ⟨b, off + k, none⟩) hbl]; exact HC1.out
        have e2 : wn.cell? ⟨w.heap.size + 1, k, none⟩ = some (.int .i64 m) := by rw [HO.out.bl.cell (p := ⟨w.heap.size + 1, k, none⟩) HMo.out.lt]; exact HC2.out
        go_quiet (fail)
        clear w1' w2' w3' e1 e2
        go_wp2
        go_roundw
        case rel => exact ⟨k + 1, by omega, by go_num, vint HNx.out.symm, by rw [mk_succ, HSv.out]; exact HO.out.drewN nq⟩
        case measure => simp [intOf]; omega
      · obtain rfl : k = n := by omega
        go_wp2
        go_ret
        obtain ⟨A', c', rfl, q1, q2, _, q3⟩ := hI.out.out
        exact ⟨A', k, c', rfl, q1, q3.low HX.out.size, HX.out.trans (hI.out.bl.mono HX.out.size)⟩
  · have HN2 := Lib.hid hn2
    have hn3 : decide (1 < n) = false := by simp; omega
    have hn4 : decide ((1 : Int) < (n : Int)) = false := by simp; omega
    clear hn2
    go_enter Try.func90, Try.ntmps90
    go_wp2_with (go_at_call 97; ((with_reducible refine (ssum_any A n c zs w.heap.size _ (H.out.below HW1.out) (by omega) HZ.out).mono ?_); rintro e w' ⟨rfl, rfl⟩; rw [hT.out]))
    rw [HLM.out]
    have HX := Lib.hid (HW1.out.alloc (by simp) (.cells (madeCells #[Value.int .i64 0] n) 3))
    have HBk := Lib.hid (Bk.made (w.alloc (.cells #[] 3)) n 3)
    rw [show (w.alloc (.cells #[] 3)).heap.size = w.heap.size + 1 by simp] at HBk
    generalize (w.alloc (.cells #[] 3)).alloc (.cells (madeCells #[Value.int .i64 0] n) 3) = wX at HX HBk ⊢
    have HMo : Hid (Bk wX (w.heap.size + 1) n (mk n (ofMore 3 L n))) := HBk.out.mk_to fun i _ => (ofMore_no (by have := HN2.out; omega) i).symm
    have hAt := ofAt_bd (j := 3) L0
    go_loopw [9, 12, 15] (fun ov av iv wr => ∃ k : Nat, k ≤ n ∧ iv = .int .i64 k ∧ av = .int .i64 (ofAt 3 L + sm (fun q => zs.getD q 0 + gap + ofMore 3 L n q) k) ∧ Hid (Rz wX ov k (mk k (ofF zs sp gap 3)) wr)) (fun _ _ iv _ => n - (intOf iv).toNat)
    case atStart => exact ⟨0, Nat.zero_le _, rfl, vint (by simp [ofAt, sm]), Rz.start wX _⟩
    case round =>
      obtain ⟨k, hk, rfl, rfl, hI⟩ := hrel
      obtain ⟨b0, b1⟩ := HS.out k hk
      obtain ⟨a0, a1⟩ := hAt
      obtain ⟨S, hS⟩ : ∃ S, Hid (ofAt 3 L + sm (fun q => zs.getD q 0 + gap + ofMore 3 L n q) k = S) := ⟨_, rfl⟩
      have c0 : 0 ≤ S := by rw [← hS.out]; omega
      have c1 : S ≤ 3000000 := by rw [← hS.out]; omega
      have HSv : Hid (ofF zs sp gap 3 k = S) := by rw [HF.out]; exact hS
      rw [hS.out]
      clear a0 a1 b0 b1
      by_cases hlt : k < n
      · obtain ⟨v0, v1⟩ := HA.out.getD k (by rw [hl.out]; exact hlt)
        obtain ⟨m0, m1⟩ := ofMore_bd (j := 3) L0 n k
        obtain ⟨b, off, rfl, hbl, hc⟩ := H.out.cell (by omega)
        have hc1 := hc k hlt
        have hc2 := (HMo.out.2.2 k hlt).1
        rw [mk_getD _ _ _ hlt] at hc2
        obtain ⟨v, hv⟩ : ∃ v, Hid (zs.getD k 0 = v) := ⟨_, rfl⟩
        obtain ⟨m, hm⟩ : ∃ m, Hid (ofMore 3 L n k = m) := ⟨_, rfl⟩
        rw [hv.out] at hc1 v0 v1
        rw [hm.out] at hc2 m0 m1
        have HNx : Hid (ofAt 3 L + sm (fun q => zs.getD q 0 + gap + ofMore 3 L n q) (k + 1) = S + v + gap + m) := by show _ = _; rw [sm, hv.out, hm.out, ← hS.out]; omega
        have HC1 := Lib.hid hc1
        have HC2 := Lib.hid hc2
        have w1' : IntKind.i64.wrap (S + v) = S + v := IntWalk.i64_in _ (by omega)
        have w2' : IntKind.i64.wrap (S + v + gap) = S + v + gap := IntWalk.i64_in _ (by omega)
        have w3' : IntKind.i64.wrap (S + v + gap + m) = S + v + gap + m := IntWalk.i64_in _ (by omega)
        have k0 : (0 : Int) ≤ (k : Int) := by omega
        have k1 : (k : Int) < (n : Int) := by omega
        clear hc hc1 hc2
        go_wp2_with (at_builtin; refine wpList_appz _ rfl _ _ rfl _ _ _ rfl (hI.out.alloc _) (by omega) wr.heap.size S rfl (by simp [go_sem]) ?_; intro v' wn hown; have HO := Lib.hid hown; clear hown)
        have e1 : wn.cell? ⟨b, off + k, none⟩ = some (.int .i64 v) := by rw [HO.out.bl.cell (p := ⟨b, off + k, none⟩) (Nat.lt_of_lt_of_le hbl HX.out.size), HX.out.cell (p := ⟨b, off + k, none⟩) hbl]; exact HC1.out
        have e2 : wn.cell? ⟨w.heap.size + 1, k, none⟩ = some (.int .i64 m) := by rw [HO.out.bl.cell (p := ⟨w.heap.size + 1, k, none⟩) HMo.out.lt]; exact HC2.out
        go_quiet (fail)
        clear w1' w2' w3' e1 e2
        go_wp2
        go_roundw
        case rel => exact ⟨k + 1, by omega, by go_num, vint HNx.out.symm, by rw [mk_succ, HSv.out]; exact HO.out.drewN nq⟩
        case measure => simp [intOf]; omega
      · obtain rfl : k = n := by omega
        go_wp2
        go_ret
        obtain ⟨A', c', rfl, q1, q2, _, q3⟩ := hI.out.out
        exact ⟨A', k, c', rfl, q1, q3.low HX.out.size, HX.out.trans (hI.out.bl.mono HX.out.size)⟩
  · have hn3 : decide (1 < n) = true := by simp; omega
    have hn4 : decide ((1 : Int) < (n : Int)) = true := by simp; omega
    go_enter Try.func90, Try.ntmps90
    go_wp2_with (go_at_call 97; ((with_reducible refine (ssum_any A n c zs w.heap.size _ (H.out.below HW1.out) (by omega) HZ.out).mono ?_); rintro e w' ⟨rfl, rfl⟩; rw [hT.out]))
    rw [HLM.out]
    have HX1 := Lib.hid ((HW1.out.alloc (by simp) (.cells (madeCells #[Value.int .i64 0] n) 3)).alloc (by simp; omega) (.cells #[] 3))
    have hone := Lib.hid (Rz.start (((w.alloc (.cells #[] 3)).alloc (.cells (madeCells #[Value.int .i64 0] n) 3)).alloc (.cells #[] 3)) ⟨w.heap.size + 1 + 1, 0, none⟩)
    generalize ((w.alloc (.cells #[] 3)).alloc (.cells (madeCells #[Value.int .i64 0] n) 3)).alloc (.cells #[] 3) = wY at hone HX1 ⊢
    go_loopw [13, 14] (fun ov iv wr => ∃ k : Nat, 1 ≤ k ∧ k ≤ n ∧ iv = .int .i64 k ∧ Hid (Rz wY ov (k - 1) (mk (k - 1) fun _ => 1) wr)) (fun _ iv _ => n - (intOf iv).toNat)
    case atStart => exact ⟨1, Nat.le_refl _, by omega, rfl, hone.out⟩
    case round =>
      obtain ⟨k, hk1, hk, rfl, hI⟩ := hrel
      by_cases hlt : k < n
      · go_wp2_with (at_builtin; refine wpList_appz _ rfl _ _ rfl _ _ _ rfl (hI.out.alloc _) (by omega) wr.heap.size 1 rfl (by simp [go_sem]) ?_; intro v' wn hown; have HO := Lib.hid hown; clear hown)
        have HO2 : Hid (Rz wY v' (k + 1 - 1) (mk (k + 1 - 1) fun _ => 1) wn) := by
          have e : k + 1 - 1 = (k - 1) + 1 := by omega
          rw [e, mk_succ]; exact HO.out
        go_roundw
        case rel => exact ⟨k + 1, by omega, by omega, by go_num, HO2.out⟩
        case measure => simp [intOf]; omega
      · obtain rfl : n = k := by omega
        obtain ⟨Ao, co, rfl, _, _, _, hWo⟩ := hI.out.out
        have HWo := Lib.hid hWo
        have HX2 := Lib.hid (HX1.out.trans (hI.out.bl.mono HX1.out.size))
        clear hWo
        go_wp2_with (first
          | (go_at_call 100; ((with_reducible refine (sshare_full L Ao (n - 1) co _ _ HWo.out.rd (by omega) L0 L1 (ones_all _)).mono ?_); rintro e w5 ⟨A5, n5, rfl, hw5, hb5⟩; obtain rfl : n - 1 = n5 := by (have h5 := hw5.1; rw [shr_len, mk_len] at h5; exact h5)))
          | (at_builtin; refine wpList_appFull _ rfl _ _ rfl A5 (n - 1) _ _ rfl (hw5.rd.alloc (Nat.le_refl _) _) (by omega) w5.heap.size 0 rfl (by simp [go_sem]) ?_))
        intro v6 w6 hr6 hg6
        obtain ⟨A6, c6, rfl, _, _, _, hw6⟩ := hr6.outN
        have HX6 : Hid (Below w.heap.size w w6) := bl_gb ((HX2.out.trans (hb5.mono HX2.out.size)).alloc (Nat.le_trans HX2.out.size hb5.size) _) hg6 (by have := HX2.out.size; have := hb5.size; simp; omega) (fun r e => by cases e)
        have HM6 : Hid (Rd w6 w6.heap.size A6 n (mk n (ofMore 3 L n))) := by
          have h := hw6.rd
          rw [ofMore_list hn2] at h
          exact h
        have HMo := HM6
        have HX := HX6
        clear hr6 hg6 hw6 hw5 hb5 HX1 HX2 HWo hI hone HM6 HX6
        go_wp2
        generalize w6 = wX at HX HMo ⊢
        have hAt := ofAt_bd (j := 3) L0
        go_loopw [9, 12, 15] (fun ov av iv wr => ∃ k : Nat, k ≤ n ∧ iv = .int .i64 k ∧ av = .int .i64 (ofAt 3 L + sm (fun q => zs.getD q 0 + gap + ofMore 3 L n q) k) ∧ Hid (Rz wX ov k (mk k (ofF zs sp gap 3)) wr)) (fun _ _ iv _ => n - (intOf iv).toNat)
        case atStart => exact ⟨0, Nat.zero_le _, rfl, vint (by simp [ofAt, sm]), Rz.start wX _⟩
        case round =>
          obtain ⟨k, hk, rfl, rfl, hI⟩ := hrel
          obtain ⟨b0, b1⟩ := HS.out k hk
          obtain ⟨a0, a1⟩ := hAt
          obtain ⟨S, hS⟩ : ∃ S, Hid (ofAt 3 L + sm (fun q => zs.getD q 0 + gap + ofMore 3 L n q) k = S) := ⟨_, rfl⟩
          have c0 : 0 ≤ S := by rw [← hS.out]; omega
          have c1 : S ≤ 3000000 := by rw [← hS.out]; omega
          have HSv : Hid (ofF zs sp gap 3 k = S) := by rw [HF.out]; exact hS
          rw [hS.out]
          clear a0 a1 b0 b1
          by_cases hlt : k < n
          · obtain ⟨v0, v1⟩ := HA.out.getD k (by rw [hl.out]; exact hlt)
            obtain ⟨m0, m1⟩ := ofMore_bd (j := 3) L0 n k
            obtain ⟨b, off, rfl, hbl, hc⟩ := H.out.cell (by omega)
            obtain ⟨b', off', rfl, hbl', hc'⟩ := HMo.out.cell (by omega)
            have hc1 := hc k hlt
            have hc2 := hc' k hlt
            rw [mk_getD _ _ _ hlt] at hc2
            obtain ⟨v, hv⟩ : ∃ v, Hid (zs.getD k 0 = v) := ⟨_, rfl⟩
            obtain ⟨m, hm⟩ : ∃ m, Hid (ofMore 3 L n k = m) := ⟨_, rfl⟩
            rw [hv.out] at hc1 v0 v1
            rw [hm.out] at hc2 m0 m1
            have HNx : Hid (ofAt 3 L + sm (fun q => zs.getD q 0 + gap + ofMore 3 L n q) (k + 1) = S + v + gap + m) := by show _ = _; rw [sm, hv.out, hm.out, ← hS.out]; omega
            have HC1 := Lib.hid hc1
            have HC2 := Lib.hid hc2
            have w1' : IntKind.i64.wrap (S + v) = S + v := IntWalk.i64_in _ (by omega)
            have w2' : IntKind.i64.wrap (S + v + gap) = S + v + gap := IntWalk.i64_in _ (by omega)
            have w3' : IntKind.i64.wrap (S + v + gap + m) = S + v + gap + m := IntWalk.i64_in _ (by omega)
            have k0 : (0 : Int) ≤ (k : Int) := by omega
            have k1 : (k : Int) < (n : Int) := by omega
            clear hc hc' hc1 hc2
            go_wp2_with (at_builtin; refine wpList_appz _ rfl _ _ rfl _ _ _ rfl (hI.out.alloc _) (by omega) wr.heap.size S rfl (by simp [go_sem]) ?_; intro v' wn hown; have HO := Lib.hid hown; clear hown)
            have e1 : wn.cell? ⟨b, off + k, none⟩ = some (.int .i64 v) := by rw [HO.out.bl.cell (p := ⟨b, off + k, none⟩) (Nat.lt_of_lt_of_le hbl HX.out.size), HX.out.cell (p := ⟨b, off + k, none⟩) hbl]; exact HC1.out
            have e2 : wn.cell? ⟨b', off' + k, none⟩ = some (.int .i64 m) := by rw [HO.out.bl.cell (p := ⟨b', off' + k, none⟩) hbl']; exact HC2.out
            go_quiet (fail)
            clear w1' w2' w3' e1 e2
            go_wp2
            go_roundw
            case rel => exact ⟨k + 1, by omega, by go_num, vint HNx.out.symm, by rw [mk_succ, HSv.out]; exact HO.out.drewN nq⟩
            case measure => simp [intOf]; omega
          · obtain rfl : k = n := by omega
            go_wp2
            go_ret
            obtain ⟨A', c', rfl, q1, q2, _, q3⟩ := hI.out.out
            exact ⟨A', k, c', rfl, q1, q3.low HX.out.size, HX.out.trans (hI.out.bl.mono HX.out.size)⟩
end Go.Proofs.Ytjaecgobgpfbdaa
