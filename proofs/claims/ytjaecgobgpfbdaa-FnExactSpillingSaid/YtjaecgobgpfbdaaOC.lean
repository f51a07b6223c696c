/- Where sizes begin, by the program. -/
import Derived.Test.YtjaecgobgpfbdaaSD
import Derived.Test.YtjaecgobgpfbdaaOA
import Derived.Test.YtjaecgobgpfbdaaRZ
import Derived.Test.YtjaecgobgpfbdaaPO
namespace Go.Proofs.Ytjaecgobgpfbdaa
open Go.RowKit

theorem repeat_int (kI : Int) (k bx : Nat) (w : World) (e : kI = (k : Int)) (h1 : 1 ≤ k) (h2 : k ≤ 7) (hx : w.cell? ⟨bx, 0, none⟩ = some (.int .i64 1)) :
    Calls Try.prog 95 #[.slice (some ⟨bx, 0, none⟩) 1 1, .int .i64 kI] w (Ones w k) := by subst e; exact repeat_any k bx w h1 h2 hx
set_option maxHeartbeats 8000000 in
theorem offsets_any (A : Option Addr) (n c : Nat) (zs : List Int) (sp gap j : Int) (w : World) (h : Rd w w.heap.size A n zs) (hn1 : 1 ≤ n) (hn : n ≤ 8) (ha : AllB zs 0 10000) (s0 : 0 ≤ sp) (s1 : sp ≤ 200000) (g0 : 0 ≤ gap) (g1 : gap ≤ 50) (j0 : 0 ≤ j) (j1 : j ≤ 3) :
    Calls Try.prog 87 #[.slice A n c, .int .i64 sp, .int .i64 gap, .int .i64 j] w (GotI w (mk n (ofF zs sp gap j))) := by
  obtain ⟨i0, hi, hz0, hz1, hz2⟩ := info_parts int_info
  have hmk := fun W (q : Nat) (hq : q ≤ 2000000) => run_make_rowN (P := Try.prog) 33 3 i0 (.int .i64 0) Try.underlying33 hi hz0 .i64 .i64 q q (Nat.le_refl _) (by rw [hz2]; omega) (by omega) W
  rw [hz1] at hmk
  have H := Lib.hid h
  have HA := Lib.hid ha
  have hl := Lib.hid h.1
  have HZ := Lib.hid (ha.mono (lo' := -1000000) (hi' := 1000000) (by omega) (by omega))
  obtain ⟨T, hT⟩ : ∃ T, Hid (tot zs n = T) := ⟨_, rfl⟩
  have hTb := tot_ge zs 0 10000 ha n (by rw [hl.out]; omega)
  rw [hT.out] at hTb
  obtain ⟨T0, T1⟩ := hTb
  obtain ⟨G, hG⟩ : ∃ G, Hid (gap * ((n : Int) - 1) = G) := ⟨_, rfl⟩
  have hGb := prod_bd g0 g1 (show (0 : Int) ≤ (n : Int) - 1 by omega) (show (n : Int) - 1 ≤ 7 by omega)
  rw [hG.out] at hGb
  obtain ⟨G0, G1⟩ := hGb
  obtain ⟨L, hL⟩ : ∃ L, Hid (ofLeft zs sp gap = L) := ⟨_, rfl⟩
  have hLb := ofLeft_bd ha (by rw [hl.out]; exact hn1) s0 s1 g0
  rw [hL.out] at hLb
  obtain ⟨L0, L1⟩ := hLb
  have HLM : Hid (max (sp - T - G) 0 = L) := by
    have e := hL.out
    unfold ofLeft at e
    rw [hl.out, hT.out, hG.out] at e
    show _ = _
    rw [← e]
  have HF : Hid (∀ k, ofF zs sp gap j k = ofAt j L + sm (fun q => zs.getD q 0 + gap + ofMore j L n q) k) := fun k => by unfold ofF; rw [hL.out, hl.out]
  have HS := Lib.hid (fun k (hk : k ≤ n) => ofS_bd (j := j) HA.out g0 g1 L0 L1 n k (by rw [hl.out]; exact hk))
  have hwn : IntKind.i64.wrap ((n : Int) - 1) = (n : Int) - 1 := IntWalk.i64_in _ (by omega)
  have hwg : IntKind.i64.wrap (gap * ((n : Int) - 1)) = G := by rw [hG.out]; exact IntWalk.i64_in _ (by omega)
  clear h ha hi hz0 hz1 hz2
  have hmn := made_room n (by omega)
  have hmg := fun W => hmk W (n - 1) (by omega)
  rw [show ((n - 1 : Nat) : Int) = (n : Int) - 1 by omega, Nat.mul_one] at hmg
  clear hmk
  have hj : j = 0 ∨ j = 1 ∨ j = 2 ∨ (j = 3 ∧ n = 1) ∨ (j = 3 ∧ 1 < n) := by omega
  rcases hj with rfl | rfl | rfl | ⟨rfl, hn2⟩ | ⟨rfl, hn2⟩
  · go_enter Try.func87, Try.ntmps87
    go_wp2_with (go_at_call 91; ((with_reducible refine (total_any A n c zs w.heap.size _ H.out (by omega) HZ.out).mono ?_); rintro e w' ⟨rfl, rfl⟩; rw [hT.out]))
    rw [HLM.out]
    have HX := Lib.hid ((Below.refl w.heap.size w).alloc (Nat.le_refl _) (.cells (madeCells #[Value.int .i64 0] (n - 1)) 3))
    have HBk := Lib.hid (Bk.made w (n - 1) 3)
    have HRz := Lib.hid (Rz.room (w.alloc (.cells (madeCells #[Value.int .i64 0] (n - 1)) 3)) n (by omega))
    rw [show (w.alloc (.cells (madeCells #[Value.int .i64 0] (n - 1)) 3)).heap.size = w.heap.size + 1 by simp] at HRz
    generalize w.alloc (.cells (madeCells #[Value.int .i64 0] (n - 1)) 3) = wX at HX HBk HRz ⊢
    have HMo : Hid (Bk wX w.heap.size (n - 1) (mk (n - 1) (ofMore 0 L n))) := HBk.out.mk_to fun i _ => (ofMore_no (by omega) i).symm
    have hAt := ofAt_bd (j := 0) L0
    go_loopw [11, 13, 52] (fun av ov iv wr => ∃ k : Nat, k ≤ n ∧ iv = .int .i64 k ∧ av = .int .i64 (ofAt 0 L + sm (fun q => zs.getD q 0 + gap + ofMore 0 L n q) (min k (n - 1))) ∧ Hid (Rz wX ov k (mk k (ofF zs sp gap 0)) wr)) (fun _ _ iv _ => n - (intOf iv).toNat)
    case atStart => exact ⟨0, Nat.zero_le _, rfl, vint (by simp [ofAt, sm]), HRz.out⟩
    case round =>
      obtain ⟨k, hk, rfl, rfl, hI⟩ := hrel
      by_cases hlt : k < n
      · rw [show min k (n - 1) = k by omega]
        obtain ⟨b0, b1⟩ := HS.out k hk
        obtain ⟨a0, a1⟩ := hAt
        obtain ⟨S, hS⟩ : ∃ S, Hid (ofAt 0 L + sm (fun q => zs.getD q 0 + gap + ofMore 0 L n q) k = S) := ⟨_, rfl⟩
        have c0 : 0 ≤ S := by rw [← hS.out]; omega
        have c1 : S ≤ 3000000 := by rw [← hS.out]; omega
        have HSv : Hid (ofF zs sp gap 0 k = S) := by rw [HF.out]; exact hS
        rw [hS.out]
        clear a0 a1 b0 b1
        obtain ⟨v0, v1⟩ := HA.out.getD k (by rw [hl.out]; exact hlt)
        obtain ⟨b, off, rfl, hbl, hc⟩ := H.out.cell (by omega)
        have hc1 := hc k hlt
        obtain ⟨v, hv⟩ : ∃ v, Hid (zs.getD k 0 = v) := ⟨_, rfl⟩
        rw [hv.out] at hc1 v0 v1
        have HC1 := Lib.hid hc1
        have e1 : wr.cell? ⟨b, off + k, none⟩ = some (.int .i64 v) := by rw [hI.out.bl.cell (p := ⟨b, off + k, none⟩) (Nat.lt_of_lt_of_le hbl HX.out.size), HX.out.cell (p := ⟨b, off + k, none⟩) hbl]; exact HC1.out
        clear hc hc1
        by_cases hgap : k < n - 1
        · obtain ⟨m0, m1⟩ := ofMore_bd (j := 0) L0 n k
          have hc2 := (HMo.out.2.2 k hgap).1
          rw [mk_getD _ _ _ hgap] at hc2
          obtain ⟨m, hm⟩ : ∃ m, Hid (ofMore 0 L n k = m) := ⟨_, rfl⟩
          rw [hm.out] at hc2 m0 m1
          have HNx : Hid (ofAt 0 L + sm (fun q => zs.getD q 0 + gap + ofMore 0 L n q) (min (k + 1) (n - 1)) = S + (v + gap + m)) := by show _ = _; rw [show min (k + 1) (n - 1) = k + 1 by omega, sm, hv.out, hm.out, ← hS.out]; omega
          have HC2 := Lib.hid hc2
          have hgt : (k : Int) < (n : Int) - 1 := by omega
          clear hc2
          go_wp2_with (at_builtin; refine wpList_appz _ rfl _ _ rfl _ _ _ rfl (hI.out.alloc _) (by omega) wr.heap.size S rfl (by simp [go_sem]) ?_; intro v' wn hown; have HO := Lib.hid hown; clear hown; have e2 : wn.cell? ⟨w.heap.size, k, none⟩ = some (.int .i64 m) := (by rw [HO.out.bl.cell (p := ⟨w.heap.size, k, none⟩) HMo.out.lt]; exact HC2.out))
          go_roundw
          case rel => exact ⟨k + 1, by omega, by go_num, vint HNx.out.symm, by rw [mk_succ, HSv.out]; exact HO.out⟩
          case measure => simp [intOf]; omega
        · have HNx : Hid (ofAt 0 L + sm (fun q => zs.getD q 0 + gap + ofMore 0 L n q) (min (k + 1) (n - 1)) = S) := by show _ = _; rw [show min (k + 1) (n - 1) = k by omega]; exact hS.out
          have hgt : (n : Int) - 1 ≤ (k : Int) := by omega
          go_wp2_with (at_builtin; refine wpList_appz _ rfl _ _ rfl _ _ _ rfl (hI.out.alloc _) (by omega) wr.heap.size S rfl (by simp [go_sem]) ?_; intro v' wn hown; have HO := Lib.hid hown; clear hown)
          go_roundw
          case rel => exact ⟨k + 1, by omega, by go_num, vint HNx.out.symm, by rw [mk_succ, HSv.out]; exact HO.out⟩
          case measure => simp [intOf]; omega
      · obtain rfl : k = n := by omega
        go_wp2
        go_ret
        obtain ⟨A', c', rfl, q1, q2, _, q3⟩ := hI.out.out
        exact ⟨A', k, c', rfl, q1, q3.low HX.out.size, HX.out.trans (hI.out.bl.mono HX.out.size)⟩
  · go_enter Try.func87, Try.ntmps87
    go_wp2_with (go_at_call 91; ((with_reducible refine (total_any A n c zs w.heap.size _ H.out (by omega) HZ.out).mono ?_); rintro e w' ⟨rfl, rfl⟩; rw [hT.out]))
    rw [HLM.out]
    have HX := Lib.hid ((Below.refl w.heap.size w).alloc (Nat.le_refl _) (.cells (madeCells #[Value.int .i64 0] (n - 1)) 3))
    have HBk := Lib.hid (Bk.made w (n - 1) 3)
    have HRz := Lib.hid (Rz.room (w.alloc (.cells (madeCells #[Value.int .i64 0] (n - 1)) 3)) n (by omega))
    rw [show (w.alloc (.cells (madeCells #[Value.int .i64 0] (n - 1)) 3)).heap.size = w.heap.size + 1 by simp] at HRz
    generalize w.alloc (.cells (madeCells #[Value.int .i64 0] (n - 1)) 3) = wX at HX HBk HRz ⊢
    have HMo : Hid (Bk wX w.heap.size (n - 1) (mk (n - 1) (ofMore 1 L n))) := HBk.out.mk_to fun i _ => (ofMore_no (by omega) i).symm
    have hAt := ofAt_bd (j := 1) L0
    go_loopw [11, 13, 52] (fun av ov iv wr => ∃ k : Nat, k ≤ n ∧ iv = .int .i64 k ∧ av = .int .i64 (ofAt 1 L + sm (fun q => zs.getD q 0 + gap + ofMore 1 L n q) (min k (n - 1))) ∧ Hid (Rz wX ov k (mk k (ofF zs sp gap 1)) wr)) (fun _ _ iv _ => n - (intOf iv).toNat)
    case atStart => exact ⟨0, Nat.zero_le _, rfl, vint (by simp [ofAt, sm]), HRz.out⟩
    case round =>
      obtain ⟨k, hk, rfl, rfl, hI⟩ := hrel
      by_cases hlt : k < n
      · rw [show min k (n - 1) = k by omega]
        obtain ⟨b0, b1⟩ := HS.out k hk
        obtain ⟨a0, a1⟩ := hAt
        obtain ⟨S, hS⟩ : ∃ S, Hid (ofAt 1 L + sm (fun q => zs.getD q 0 + gap + ofMore 1 L n q) k = S) := ⟨_, rfl⟩
        have c0 : 0 ≤ S := by rw [← hS.out]; omega
        have c1 : S ≤ 3000000 := by rw [← hS.out]; omega
        have HSv : Hid (ofF zs sp gap 1 k = S) := by rw [HF.out]; exact hS
        rw [hS.out]
        clear a0 a1 b0 b1
        obtain ⟨v0, v1⟩ := HA.out.getD k (by rw [hl.out]; exact hlt)
        obtain ⟨b, off, rfl, hbl, hc⟩ := H.out.cell (by omega)
        have hc1 := hc k hlt
        obtain ⟨v, hv⟩ : ∃ v, Hid (zs.getD k 0 = v) := ⟨_, rfl⟩
        rw [hv.out] at hc1 v0 v1
        have HC1 := Lib.hid hc1
        have e1 : wr.cell? ⟨b, off + k, none⟩ = some (.int .i64 v) := by rw [hI.out.bl.cell (p := ⟨b, off + k, none⟩) (Nat.lt_of_lt_of_le hbl HX.out.size), HX.out.cell (p := ⟨b, off + k, none⟩) hbl]; exact HC1.out
        clear hc hc1
        by_cases hgap : k < n - 1
        · obtain ⟨m0, m1⟩ := ofMore_bd (j := 1) L0 n k
          have hc2 := (HMo.out.2.2 k hgap).1
          rw [mk_getD _ _ _ hgap] at hc2
          obtain ⟨m, hm⟩ : ∃ m, Hid (ofMore 1 L n k = m) := ⟨_, rfl⟩
          rw [hm.out] at hc2 m0 m1
          have HNx : Hid (ofAt 1 L + sm (fun q => zs.getD q 0 + gap + ofMore 1 L n q) (min (k + 1) (n - 1)) = S + (v + gap + m)) := by show _ = _; rw [show min (k + 1) (n - 1) = k + 1 by omega, sm, hv.out, hm.out, ← hS.out]; omega
          have HC2 := Lib.hid hc2
          have hgt : (k : Int) < (n : Int) - 1 := by omega
          clear hc2
          go_wp2_with (at_builtin; refine wpList_appz _ rfl _ _ rfl _ _ _ rfl (hI.out.alloc _) (by omega) wr.heap.size S rfl (by simp [go_sem]) ?_; intro v' wn hown; have HO := Lib.hid hown; clear hown; have e2 : wn.cell? ⟨w.heap.size, k, none⟩ = some (.int .i64 m) := (by rw [HO.out.bl.cell (p := ⟨w.heap.size, k, none⟩) HMo.out.lt]; exact HC2.out))
          go_roundw
          case rel => exact ⟨k + 1, by omega, by go_num, vint HNx.out.symm, by rw [mk_succ, HSv.out]; exact HO.out⟩
          case measure => simp [intOf]; omega
        · have HNx : Hid (ofAt 1 L + sm (fun q => zs.getD q 0 + gap + ofMore 1 L n q) (min (k + 1) (n - 1)) = S) := by show _ = _; rw [show min (k + 1) (n - 1) = k by omega]; exact hS.out
          have hgt : (n : Int) - 1 ≤ (k : Int) := by omega
          go_wp2_with (at_builtin; refine wpList_appz _ rfl _ _ rfl _ _ _ rfl (hI.out.alloc _) (by omega) wr.heap.size S rfl (by simp [go_sem]) ?_; intro v' wn hown; have HO := Lib.hid hown; clear hown)
          go_roundw
          case rel => exact ⟨k + 1, by omega, by go_num, vint HNx.out.symm, by rw [mk_succ, HSv.out]; exact HO.out⟩
          case measure => simp [intOf]; omega
      · obtain rfl : k = n := by omega
        go_wp2
        go_ret
        obtain ⟨A', c', rfl, q1, q2, _, q3⟩ := hI.out.out
        exact ⟨A', k, c', rfl, q1, q3.low HX.out.size, HX.out.trans (hI.out.bl.mono HX.out.size)⟩
  · go_enter Try.func87, Try.ntmps87
    go_wp2_with (go_at_call 91; ((with_reducible refine (total_any A n c zs w.heap.size _ H.out (by omega) HZ.out).mono ?_); rintro e w' ⟨rfl, rfl⟩; rw [hT.out]))
    rw [HLM.out]
    have HX := Lib.hid ((Below.refl w.heap.size w).alloc (Nat.le_refl _) (.cells (madeCells #[Value.int .i64 0] (n - 1)) 3))
    have HBk := Lib.hid (Bk.made w (n - 1) 3)
    have HRz := Lib.hid (Rz.room (w.alloc (.cells (madeCells #[Value.int .i64 0] (n - 1)) 3)) n (by omega))
    rw [show (w.alloc (.cells (madeCells #[Value.int .i64 0] (n - 1)) 3)).heap.size = w.heap.size + 1 by simp] at HRz
    generalize w.alloc (.cells (madeCells #[Value.int .i64 0] (n - 1)) 3) = wX at HX HBk HRz ⊢
    have HMo : Hid (Bk wX w.heap.size (n - 1) (mk (n - 1) (ofMore 2 L n))) := HBk.out.mk_to fun i _ => (ofMore_no (by omega) i).symm
    have hAt := ofAt_bd (j := 2) L0
    go_loopw [11, 13, 52] (fun av ov iv wr => ∃ k : Nat, k ≤ n ∧ iv = .int .i64 k ∧ av = .int .i64 (ofAt 2 L + sm (fun q => zs.getD q 0 + gap + ofMore 2 L n q) (min k (n - 1))) ∧ Hid (Rz wX ov k (mk k (ofF zs sp gap 2)) wr)) (fun _ _ iv _ => n - (intOf iv).toNat)
    case atStart => exact ⟨0, Nat.zero_le _, rfl, vint (by simp [ofAt, sm]), HRz.out⟩
    case round =>
      obtain ⟨k, hk, rfl, rfl, hI⟩ := hrel
      by_cases hlt : k < n
      · rw [show min k (n - 1) = k by omega]
        obtain ⟨b0, b1⟩ := HS.out k hk
        obtain ⟨a0, a1⟩ := hAt
        obtain ⟨S, hS⟩ : ∃ S, Hid (ofAt 2 L + sm (fun q => zs.getD q 0 + gap + ofMore 2 L n q) k = S) := ⟨_, rfl⟩
        have c0 : 0 ≤ S := by rw [← hS.out]; omega
        have c1 : S ≤ 3000000 := by rw [← hS.out]; omega
        have HSv : Hid (ofF zs sp gap 2 k = S) := by rw [HF.out]; exact hS
        rw [hS.out]
        clear a0 a1 b0 b1
        obtain ⟨v0, v1⟩ := HA.out.getD k (by rw [hl.out]; exact hlt)
        obtain ⟨b, off, rfl, hbl, hc⟩ := H.out.cell (by omega)
        have hc1 := hc k hlt
        obtain ⟨v, hv⟩ : ∃ v, Hid (zs.getD k 0 = v) := ⟨_, rfl⟩
        rw [hv.out] at hc1 v0 v1
        have HC1 := Lib.hid hc1
        have e1 : wr.cell? ⟨b, off + k, none⟩ = some (.int .i64 v) := by rw [hI.out.bl.cell (p := ⟨b, off + k, none⟩) (Nat.lt_of_lt_of_le hbl HX.out.size), HX.out.cell (p := ⟨b, off + k, none⟩) hbl]; exact HC1.out
        clear hc hc1
        by_cases hgap : k < n - 1
        · obtain ⟨m0, m1⟩ := ofMore_bd (j := 2) L0 n k
          have hc2 := (HMo.out.2.2 k hgap).1
          rw [mk_getD _ _ _ hgap] at hc2
          obtain ⟨m, hm⟩ : ∃ m, Hid (ofMore 2 L n k = m) := ⟨_, rfl⟩
          rw [hm.out] at hc2 m0 m1
          have HNx : Hid (ofAt 2 L + sm (fun q => zs.getD q 0 + gap + ofMore 2 L n q) (min (k + 1) (n - 1)) = S + (v + gap + m)) := by show _ = _; rw [show min (k + 1) (n - 1) = k + 1 by omega, sm, hv.out, hm.out, ← hS.out]; omega
          have HC2 := Lib.hid hc2
          have hgt : (k : Int) < (n : Int) - 1 := by omega
          clear hc2
          go_wp2_with (at_builtin; refine wpList_appz _ rfl _ _ rfl _ _ _ rfl (hI.out.alloc _) (by omega) wr.heap.size S rfl (by simp [go_sem]) ?_; intro v' wn hown; have HO := Lib.hid hown; clear hown; have e2 : wn.cell? ⟨w.heap.size, k, none⟩ = some (.int .i64 m) := (by rw [HO.out.bl.cell (p := ⟨w.heap.size, k, none⟩) HMo.out.lt]; exact HC2.out))
          go_roundw
          case rel => exact ⟨k + 1, by omega, by go_num, vint HNx.out.symm, by rw [mk_succ, HSv.out]; exact HO.out⟩
          case measure => simp [intOf]; omega
        · have HNx : Hid (ofAt 2 L + sm (fun q => zs.getD q 0 + gap + ofMore 2 L n q) (min (k + 1) (n - 1)) = S) := by show _ = _; rw [show min (k + 1) (n - 1) = k by omega]; exact hS.out
          have hgt : (n : Int) - 1 ≤ (k : Int) := by omega
          go_wp2_with (at_builtin; refine wpList_appz _ rfl _ _ rfl _ _ _ rfl (hI.out.alloc _) (by omega) wr.heap.size S rfl (by simp [go_sem]) ?_; intro v' wn hown; have HO := Lib.hid hown; clear hown)
          go_roundw
          case rel => exact ⟨k + 1, by omega, by go_num, vint HNx.out.symm, by rw [mk_succ, HSv.out]; exact HO.out⟩
          case measure => simp [intOf]; omega
      · obtain rfl : k = n := by omega
        go_wp2
        go_ret
        obtain ⟨A', c', rfl, q1, q2, _, q3⟩ := hI.out.out
        exact ⟨A', k, c', rfl, q1, q3.low HX.out.size, HX.out.trans (hI.out.bl.mono HX.out.size)⟩
  · have HN2 := Lib.hid hn2
    have hn3 : decide (1 < n) = false := by simp; omega
    have hn4 : decide ((1 : Int) < (n : Int)) = false := by simp; omega
    have hn5 : decide ((0 : Int) < (n : Int) - 1) = false := by simp; omega
    clear hn2
    go_enter Try.func87, Try.ntmps87
    go_wp2_with (go_at_call 91; ((with_reducible refine (total_any A n c zs w.heap.size _ H.out (by omega) HZ.out).mono ?_); rintro e w' ⟨rfl, rfl⟩; rw [hT.out]))
    rw [HLM.out]
    have HX := Lib.hid ((Below.refl w.heap.size w).alloc (Nat.le_refl _) (.cells (madeCells #[Value.int .i64 0] (n - 1)) 3))
    have HBk := Lib.hid (Bk.made w (n - 1) 3)
    have HRz := Lib.hid (Rz.room (w.alloc (.cells (madeCells #[Value.int .i64 0] (n - 1)) 3)) n (by omega))
    rw [show (w.alloc (.cells (madeCells #[Value.int .i64 0] (n - 1)) 3)).heap.size = w.heap.size + 1 by simp] at HRz
    generalize w.alloc (.cells (madeCells #[Value.int .i64 0] (n - 1)) 3) = wX at HX HBk HRz ⊢
    have HMo : Hid (Bk wX w.heap.size (n - 1) (mk (n - 1) (ofMore 3 L n))) := HBk.out.mk_to fun i _ => (ofMore_no (by have := HN2.out; omega) i).symm
    have hAt := ofAt_bd (j := 3) L0
    go_loopw [11, 13, 52] (fun av ov iv wr => ∃ k : Nat, k ≤ n ∧ iv = .int .i64 k ∧ av = .int .i64 (ofAt 3 L + sm (fun q => zs.getD q 0 + gap + ofMore 3 L n q) (min k (n - 1))) ∧ Hid (Rz wX ov k (mk k (ofF zs sp gap 3)) wr)) (fun _ _ iv _ => n - (intOf iv).toNat)
    case atStart => exact ⟨0, Nat.zero_le _, rfl, vint (by simp [ofAt, sm]), HRz.out⟩
    case round =>
      obtain ⟨k, hk, rfl, rfl, hI⟩ := hrel
      by_cases hlt : k < n
      · rw [show min k (n - 1) = k by omega]
        obtain ⟨b0, b1⟩ := HS.out k hk
        obtain ⟨a0, a1⟩ := hAt
        obtain ⟨S, hS⟩ : ∃ S, Hid (ofAt 3 L + sm (fun q => zs.getD q 0 + gap + ofMore 3 L n q) k = S) := ⟨_, rfl⟩
        have c0 : 0 ≤ S := by rw [← hS.out]; omega
        have c1 : S ≤ 3000000 := by rw [← hS.out]; omega
        have HSv : Hid (ofF zs sp gap 3 k = S) := by rw [HF.out]; exact hS
        rw [hS.out]
        clear a0 a1 b0 b1
        obtain ⟨v0, v1⟩ := HA.out.getD k (by rw [hl.out]; exact hlt)
        obtain ⟨b, off, rfl, hbl, hc⟩ := H.out.cell (by omega)
        have hc1 := hc k hlt
        obtain ⟨v, hv⟩ : ∃ v, Hid (zs.getD k 0 = v) := ⟨_, rfl⟩
        rw [hv.out] at hc1 v0 v1
        have HC1 := Lib.hid hc1
        have e1 : wr.cell? ⟨b, off + k, none⟩ = some (.int .i64 v) := by rw [hI.out.bl.cell (p := ⟨b, off + k, none⟩) (Nat.lt_of_lt_of_le hbl HX.out.size), HX.out.cell (p := ⟨b, off + k, none⟩) hbl]; exact HC1.out
        clear hc hc1
        by_cases hgap : k < n - 1
        · obtain ⟨m0, m1⟩ := ofMore_bd (j := 3) L0 n k
          have hc2 := (HMo.out.2.2 k hgap).1
          rw [mk_getD _ _ _ hgap] at hc2
          obtain ⟨m, hm⟩ : ∃ m, Hid (ofMore 3 L n k = m) := ⟨_, rfl⟩
          rw [hm.out] at hc2 m0 m1
          have HNx : Hid (ofAt 3 L + sm (fun q => zs.getD q 0 + gap + ofMore 3 L n q) (min (k + 1) (n - 1)) = S + (v + gap + m)) := by show _ = _; rw [show min (k + 1) (n - 1) = k + 1 by omega, sm, hv.out, hm.out, ← hS.out]; omega
          have HC2 := Lib.hid hc2
          have hgt : (k : Int) < (n : Int) - 1 := by omega
          clear hc2
          go_wp2_with (at_builtin; refine wpList_appz _ rfl _ _ rfl _ _ _ rfl (hI.out.alloc _) (by omega) wr.heap.size S rfl (by simp [go_sem]) ?_; intro v' wn hown; have HO := Lib.hid hown; clear hown; have e2 : wn.cell? ⟨w.heap.size, k, none⟩ = some (.int .i64 m) := (by rw [HO.out.bl.cell (p := ⟨w.heap.size, k, none⟩) HMo.out.lt]; exact HC2.out))
          go_roundw
          case rel => exact ⟨k + 1, by omega, by go_num, vint HNx.out.symm, by rw [mk_succ, HSv.out]; exact HO.out⟩
          case measure => simp [intOf]; omega
        · have HNx : Hid (ofAt 3 L + sm (fun q => zs.getD q 0 + gap + ofMore 3 L n q) (min (k + 1) (n - 1)) = S) := by show _ = _; rw [show min (k + 1) (n - 1) = k by omega]; exact hS.out
          have hgt : (n : Int) - 1 ≤ (k : Int) := by omega
          go_wp2_with (at_builtin; refine wpList_appz _ rfl _ _ rfl _ _ _ rfl (hI.out.alloc _) (by omega) wr.heap.size S rfl (by simp [go_sem]) ?_; intro v' wn hown; have HO := Lib.hid hown; clear hown)
          go_roundw
          case rel => exact ⟨k + 1, by omega, by go_num, vint HNx.out.symm, by rw [mk_succ, HSv.out]; exact HO.out⟩
          case measure => simp [intOf]; omega
      · obtain rfl : k = n := by omega
        go_wp2
        go_ret
        obtain ⟨A', c', rfl, q1, q2, _, q3⟩ := hI.out.out
        exact ⟨A', k, c', rfl, q1, q3.low HX.out.size, HX.out.trans (hI.out.bl.mono HX.out.size)⟩
  · have hn3 : decide (1 < n) = true := by simp; omega
    have hn4 : decide ((1 : Int) < (n : Int)) = true := by simp; omega
    have hn5 : decide ((0 : Int) < (n : Int) - 1) = true := by simp; omega
    go_enter Try.func87, Try.ntmps87
    go_wp2_with (go_at_call 91; ((with_reducible refine (total_any A n c zs w.heap.size _ H.out (by omega) HZ.out).mono ?_); rintro e w' ⟨rfl, rfl⟩; rw [hT.out]))
    rw [HLM.out]
    have HX := Lib.hid (((Below.refl w.heap.size w).alloc (Nat.le_refl _) (.cells (madeCells #[Value.int .i64 0] (n - 1)) 3)).alloc (by simp) (.cells #[.int .i64 1] 3))
    refine (repeat_int _ (n - 1) (w.heap.size + 1) _ (by omega) (by omega) (by omega) (by simp [go_sem])).mono ?_
    rintro e w3 ⟨rfl, hk3, hb3⟩
    have HX3 := Lib.hid (HX.out.trans (hb3.mono (by simp; omega)))
    have hr3 := (hk3.wr (Nat.zero_le _)).rd
    simp only [World.size_alloc] at hr3
    have HR3 := Lib.hid hr3
    clear hr3
    clear hk3 hb3 HX
    go_wp2_with fail
    with_reducible refine (share_full L _ (n - 1) (n - 1) (mk (n - 1) fun _ => 1) w3 HR3.out (by omega) L0 L1 (ones_all _)).mono ?_
    rintro e w4 ⟨A4, n4, rfl, hw4, hb4⟩
    obtain rfl : n4 = n - 1 := by have h5 := hw4.1; rw [shr_len, mk_len] at h5; exact h5.symm
    rw [ofMore_short hn2] at hw4
    have HMo := Lib.hid hw4.rd
    have HX := Lib.hid (HX3.out.trans (hb4.mono HX3.out.size))
    clear hw4 hb4 HX3 HR3
    have HRz := Lib.hid (Rz.room w4 n (by omega))
    have HX := Lib.hid HX.out
    go_wp2
    have hAt := ofAt_bd (j := 3) L0
    go_loopw [11, 13, 52] (fun av ov iv wr => ∃ k : Nat, k ≤ n ∧ iv = .int .i64 k ∧ av = .int .i64 (ofAt 3 L + sm (fun q => zs.getD q 0 + gap + ofMore 3 L n q) (min k (n - 1))) ∧ Hid (Rz w4 ov k (mk k (ofF zs sp gap 3)) wr)) (fun _ _ iv _ => n - (intOf iv).toNat)
    case atStart => exact ⟨0, Nat.zero_le _, rfl, vint (by simp [ofAt, sm]), HRz.out⟩
    case round =>
      obtain ⟨k, hk, rfl, rfl, hI⟩ := hrel
      by_cases hlt : k < n
      · rw [show min k (n - 1) = k by omega]
        obtain ⟨b0, b1⟩ := HS.out k hk
        obtain ⟨a0, a1⟩ := hAt
        obtain ⟨S, hS⟩ : ∃ S, Hid (ofAt 3 L + sm (fun q => zs.getD q 0 + gap + ofMore 3 L n q) k = S) := ⟨_, rfl⟩
        have c0 : 0 ≤ S := by rw [← hS.out]; omega
        have c1 : S ≤ 3000000 := by rw [← hS.out]; omega
        have HSv : Hid (ofF zs sp gap 3 k = S) := by rw [HF.out]; exact hS
        rw [hS.out]
        clear a0 a1 b0 b1
        obtain ⟨v0, v1⟩ := HA.out.getD k (by rw [hl.out]; exact hlt)
        obtain ⟨b, off, rfl, hbl, hc⟩ := H.out.cell (by omega)
        have hc1 := hc k hlt
        obtain ⟨v, hv⟩ : ∃ v, Hid (zs.getD k 0 = v) := ⟨_, rfl⟩
        rw [hv.out] at hc1 v0 v1
        have HC1 := Lib.hid hc1
        have e1 : wr.cell? ⟨b, off + k, none⟩ = some (.int .i64 v) := by rw [hI.out.bl.cell (p := ⟨b, off + k, none⟩) (Nat.lt_of_lt_of_le hbl HX.out.size), HX.out.cell (p := ⟨b, off + k, none⟩) hbl]; exact HC1.out
        clear hc hc1
        by_cases hgap : k < n - 1
        · obtain ⟨m0, m1⟩ := ofMore_bd (j := 3) L0 n k
          obtain ⟨b', off', rfl, hbl', hc'⟩ := HMo.out.cell (by omega)
          have hc2 := hc' k hgap
          rw [mk_getD _ _ _ hgap] at hc2
          clear hc'
          obtain ⟨m, hm⟩ : ∃ m, Hid (ofMore 3 L n k = m) := ⟨_, rfl⟩
          rw [hm.out] at hc2 m0 m1
          have HNx : Hid (ofAt 3 L + sm (fun q => zs.getD q 0 + gap + ofMore 3 L n q) (min (k + 1) (n - 1)) = S + (v + gap + m)) := by show _ = _; rw [show min (k + 1) (n - 1) = k + 1 by omega, sm, hv.out, hm.out, ← hS.out]; omega
          have HC2 := Lib.hid hc2
          have hgt : (k : Int) < (n : Int) - 1 := by omega
          clear hc2
          go_wp2_with (at_builtin; refine wpList_appz _ rfl _ _ rfl _ _ _ rfl (hI.out.alloc _) (by omega) wr.heap.size S rfl (by simp [go_sem]) ?_; intro v' wn hown; have HO := Lib.hid hown; clear hown; have e2 : wn.cell? ⟨b', off' + k, none⟩ = some (.int .i64 m) := (by rw [HO.out.bl.cell (p := ⟨b', off' + k, none⟩) hbl']; exact HC2.out))
          go_roundw
          case rel => exact ⟨k + 1, by omega, by go_num, vint HNx.out.symm, by rw [mk_succ, HSv.out]; exact HO.out⟩
          case measure => simp [intOf]; omega
        · have HNx : Hid (ofAt 3 L + sm (fun q => zs.getD q 0 + gap + ofMore 3 L n q) (min (k + 1) (n - 1)) = S) := by show _ = _; rw [show min (k + 1) (n - 1) = k by omega]; exact hS.out
          have hgt : (n : Int) - 1 ≤ (k : Int) := by omega
          go_wp2_with (at_builtin; refine wpList_appz _ rfl _ _ rfl _ _ _ rfl (hI.out.alloc _) (by omega) wr.heap.size S rfl (by simp [go_sem]) ?_; intro v' wn hown; have HO := Lib.hid hown; clear hown)
          go_roundw
          case rel => exact ⟨k + 1, by omega, by go_num, vint HNx.out.symm, by rw [mk_succ, HSv.out]; exact HO.out⟩
          case measure => simp [intOf]; omega
      · obtain rfl : k = n := by omega
        go_wp2
        go_ret
        obtain ⟨A', c', rfl, q1, q2, _, q3⟩ := hI.out.out
        exact ⟨A', k, c', rfl, q1, q3.low HX.out.size, HX.out.trans (hI.out.bl.mono HX.out.size)⟩
end Go.Proofs.Ytjaecgobgpfbdaa
