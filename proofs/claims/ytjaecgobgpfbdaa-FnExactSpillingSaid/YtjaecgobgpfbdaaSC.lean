/- The reference's share of a space. -/
import Derived.Test.YtjaecgobgpfbdaaSA
namespace Go.Proofs.Ytjaecgobgpfbdaa
open Go.RowKit

set_option maxHeartbeats 4000000 in
theorem sshare_full (sp : Int) (A : Option Addr) (n c : Nat) (ws : List Int) (w : World) (h : Rd w w.heap.size A n ws) (hn : n ≤ 16) (hs0 : 0 ≤ sp) (hs1 : sp ≤ 200000) (hb : AllB ws 0 200000) :
    Calls Try.prog 100 #[.int .i64 sp, .slice A n c] w (GotF w (shr sp ws)) := by
  obtain ⟨i0, hi, hz0, hz1, hz2⟩ := info_parts int_info
  have hmk := fun W => run_make_rowN (P := Try.prog) 33 3 i0 (.int .i64 0) Try.underlying33 hi hz0 .i64 .i64 n n (Nat.le_refl _) (by rw [hz2]; omega) (by omega) W
  rw [hz1] at hmk
  have H := Lib.hid h
  have HB := Lib.hid hb
  have hl := Lib.hid h.1
  clear h hb hi hz0 hz1 hz2
  have HA := Lib.hid (HB.out.mono (lo' := -1000000) (hi' := 1000000) (by omega) (by omega))
  obtain ⟨T, hT⟩ : ∃ T, Hid (tot ws n = T) := ⟨_, rfl⟩
  have h2w : (w.alloc (.cells (madeCells #[Value.int .i64 0] n) 3)).heap.size = w.heap.size + 1 := by simp
  have HK1 := Lib.hid ((Bk.made w n 3).alloc (.cells (madeCells #[Value.int .i64 0] n) 3))
  have HK2 := Lib.hid (Bk.made (w.alloc (.cells (madeCells #[Value.int .i64 0] n) 3)) n 3)
  have HW := Lib.hid (((Below.refl w.heap.size w).alloc (Nat.le_refl _) (.cells (madeCells #[Value.int .i64 0] n) 3)).alloc (by simp) (.cells (madeCells #[Value.int .i64 0] n) 3))
  rw [h2w] at HK2
  clear h2w
  by_cases hT0 : T = 0
  · subst hT0
    go_enter Try.func100, Try.ntmps100
    go_wp2_with (go_at_call 97; ((with_reducible refine (ssum_any A n c ws w.heap.size _ (H.out.below HW.out) (by omega) HA.out).mono ?_); rintro e w' ⟨rfl, rfl⟩; rw [hT.out]))
    go_ret
    have e : shr sp ws = mk n fun _ => 0 := by unfold shr; rw [hl.out, hT.out, if_pos rfl]
    rw [e]
    exact GotF.bk HK1.out (Nat.le_refl _) HW.out
  have hTp : 0 < T := by
    have := (tot_ge ws 0 200000 HB.out n (by rw [hl.out]; omega)).1
    have := hT.out
    omega
  have hTz : (T == 0) = false := by simp [hT0]
  have HTl : Hid (tot ws ws.length = T) := by rw [hl.out]; exact hT
  have hT1 : T ≤ 3200000 := by
    have h1 := (tot_ge ws 0 200000 HB.out n (by rw [hl.out]; omega)).2
    have := hT.out
    omega
  clear hT0
  go_enter Try.func100, Try.ntmps100
  go_wp2_with (go_at_call 97; ((with_reducible refine (ssum_any A n c ws w.heap.size _ (H.out.below HW.out) (by omega) HA.out).mono ?_); rintro e w' ⟨rfl, rfl⟩; rw [hT.out]))
  generalize (w.alloc (.cells (madeCells #[Value.int .i64 0] n) 3)).alloc (.cells (madeCells #[Value.int .i64 0] n) 3) = wa at HK1 HK2 HW ⊢
  have HTz := Lib.hid hTz
  -- the quotients
  go_loopw [8, 9] (fun lv iv wr => ∃ k : Nat, k ≤ n ∧ iv = .int .i64 k ∧ lv = .int .i64 (sp - sm (bsW sp ws) k) ∧ Hid (Bk wr w.heap.size n (mk n fun i => if i < k then bsW sp ws i else 0) ∧ Bk wr (w.heap.size + 1) n (mk n fun i => if i < k then rsW sp ws i else 0) ∧ Below w.heap.size w wr)) (fun _ iv _ => n - (intOf iv).toNat)
  case atStart => exact ⟨0, Nat.zero_le _, rfl, vint (by simp [sm]), HK1.out.mk_to fun i _ => by simp, HK2.out.mk_to fun i _ => by simp, HW.out⟩
  case round =>
    obtain ⟨k, hk, rfl, rfl, hS⟩ := hrel
    have hlb : Hid (0 ≤ sm (bsW sp ws) k ∧ sm (bsW sp ws) k ≤ 16000000000000) := by
      have hq : ∀ i, i < k → 0 ≤ bsW sp ws i ∧ bsW sp ws i ≤ 40000000000 := fun i hi => by
        obtain ⟨v0, v1⟩ := HB.out.getD i (by rw [hl.out]; omega)
        obtain ⟨p0, p1⟩ := prod_bd hs0 hs1 v0 v1
        unfold bsW
        rw [HTl.out]
        exact ⟨Int.ediv_nonneg p0 (by omega), Int.le_trans (Int.ediv_le_self _ p0) p1⟩
      refine ⟨sm_nonneg k fun i hi => (hq i hi).1, ?_⟩
      have := sm_le k fun i hi => (hq i hi).2
      rw [sm_const] at this
      omega
    obtain ⟨q0, q1⟩ := hlb.out
    by_cases hlt : k < n
    · obtain ⟨b, off, rfl, hbl, hc⟩ := H.out.cell (by omega)
      obtain ⟨v0, v1⟩ := HB.out.getD k (by rw [hl.out]; omega)
      obtain ⟨v, hv⟩ : ∃ v, Hid (ws.getD k 0 = v) := ⟨_, rfl⟩
      rw [hv.out] at v0 v1
      obtain ⟨p0, p1⟩ := prod_bd hs0 hs1 v0 v1
      have HE1 : Hid (bsW sp ws k = sp * v / T) := by unfold bsW; rw [hv.out, HTl.out]; rfl
      have HE2 : Hid (rsW sp ws k = sp * v % T) := by unfold rsW; rw [hv.out, HTl.out]; rfl
      have HE3 : Hid (sm (bsW sp ws) (k + 1) = sm (bsW sp ws) k + sp * v / T) := by rw [sm, HE1.out]; rfl
      obtain ⟨S, hS'⟩ : ∃ S, Hid (sm (bsW sp ws) k = S) := ⟨_, rfl⟩
      rw [hS'.out] at q0 q1 ⊢
      have d0 : 0 ≤ sp * v / T := Int.ediv_nonneg p0 (by omega)
      have d1 : sp * v / T ≤ 40000000000 := Int.le_trans (Int.ediv_le_self _ p0) p1
      have hcell : wr.cell? ⟨b, off + k, none⟩ = some (.int .i64 v) := by rw [← hv.out, hS.out.2.2.cell (p := ⟨b, off + k, none⟩) hbl]; exact hc k hlt
      obtain ⟨c1, f1⟩ := hS.out.1.2.2 k hlt
      obtain ⟨c2, f2⟩ := hS.out.2.1.2.2 k hlt
      obtain ⟨u1, hu1⟩ : ∃ u, Hid ((mk n fun i => if i < k then bsW sp ws i else 0).getD k 0 = u) := ⟨_, rfl⟩
      obtain ⟨u2, hu2⟩ : ∃ u, Hid ((mk n fun i => if i < k then rsW sp ws i else 0).getD k 0 = u) := ⟨_, rfl⟩
      rw [hu1.out] at c1
      rw [hu2.out] at c2
      clear hc hu1 hu2 hlb
      go_wp2
      have hg : ¬ w.heap.size = w.heap.size + 1 := by omega
      have hb1 := (hS.out.1.setMk hlt (sp * v / T)).other (p := ⟨w.heap.size + 1, k, none⟩) hg (.int .i64 (sp * v % T))
      have hb2 := (hS.out.2.1.other (p := ⟨w.heap.size, k, none⟩) (Ne.symm hg) (.int .i64 (sp * v / T))).setMk hlt (sp * v % T)
      go_roundw
      case rel =>
        refine ⟨k + 1, by omega, by go_num, vint (by rw [HE3.out, hS'.out]; omega), hb1.mk_to ?_, hb2.mk_to ?_, (hS.out.2.2.setCell (Nat.le_refl _) _).setCell (by simp) _⟩
        · intro i _
          by_cases h1 : i = k
          · subst h1; simp [HE1.out]
          · have : i < k + 1 ↔ i < k := by omega
            simp [h1, this]
        · intro i _
          by_cases h1 : i = k
          · subst h1; simp [HE2.out]
          · have : i < k + 1 ↔ i < k := by omega
            simp [h1, this]
      case measure => simp [intOf]; omega
    · obtain rfl : k = n := by omega
      have hkw : Hid (kW sp ws = sp - sm (bsW sp ws) k) := by unfold kW; rw [hl.out]; rfl
      obtain ⟨K, hK⟩ : ∃ K, Hid (kW sp ws = K) := ⟨_, rfl⟩
      obtain ⟨k0, k1⟩ := kW_bd (sp := sp) (ws := ws) (by rw [HTl.out]; exact hTp)
      rw [hK.out, hl.out] at k1
      rw [hK.out] at k0
      rw [← hkw.out, hK.out]
      have HO1 := Lib.hid (hS.out.1.mk_to (f' := shT sp ws 0) fun i hi => by simp [hi, shT])
      have HO2 := Lib.hid (hS.out.2.1.mk_to (f' := lft (rsW sp ws) (ordW sp ws) 0) fun i hi => by simp [hi, lft])
      have HBl := Lib.hid hS.out.2.2
      have HordW : Hid (ordW sp ws = ordOf (rsW sp ws) k) := by unfold ordW; rw [hl.out]; rfl
      have Hr0 : Hid (∀ i, i < k → 0 ≤ rsW sp ws i) := fun i _ => (rsW_bd (by rw [HTl.out]; exact hTp) i).1
      clear hS hlb q0 q1
      go_wp2
      go_loopw [8] (fun lv wr => ∃ t : Nat, (t : Int) ≤ K ∧ lv = .int .i64 (K - t) ∧ Hid (Bk wr w.heap.size k (mk k (shT sp ws t)) ∧ Bk wr (w.heap.size + 1) k (mk k (lft (rsW sp ws) (ordW sp ws) t)) ∧ Below w.heap.size w wr)) (fun lv _ => (intOf lv).toNat)
      case atStart => exact ⟨0, by omega, vint (by omega), HO1.out, HO2.out, HBl.out⟩
      case round =>
        obtain ⟨t, ht, rfl, hS⟩ := hrel
        by_cases hgo : (t : Int) < K
        · have htk : t < k := by omega
          obtain ⟨wo, rfl⟩ : ∃ wo : World, wo = wr := ⟨_, rfl⟩
          obtain ⟨f, hf⟩ : ∃ f, Hid (lft (rsW sp ws) (ordW sp ws) t = f) := ⟨_, rfl⟩
          rw [hf.out] at hS
          go_wp2
          go_loopw [10, 11] (fun av iv wr => ∃ j : Nat, 1 ≤ j ∧ j ≤ k ∧ iv = .int .i64 j ∧ av = .int .i64 (fstMax f j) ∧ Hid (∃ m, wr = wo.drewN m)) (fun _ iv _ => k - (intOf iv).toNat)
          case atStart => exact ⟨1, Nat.le_refl _, by omega, rfl, by simp [fstMax], 0, rfl⟩
          case round =>
            obtain ⟨j, hj1, hj, rfl, rfl, hm⟩ := hrel
            obtain ⟨m, rfl⟩ := hm.out
            clear hm
            obtain ⟨a, ha⟩ : ∃ a, Hid (fstMax f j = a) := ⟨_, rfl⟩
            have hstep : Hid (fstMax f (j + 1) = if f a < f j then j else a) := by rw [← ha.out]; rfl
            rw [ha.out]
            by_cases hjk : j < k
            · have haj : a < j := by rw [← ha.out]; exact fstMax_lt f (by omega)
              have hak : a < k := by omega
              obtain ⟨c1, _⟩ := hS.out.2.1.2.2 j hjk
              obtain ⟨c2, _⟩ := hS.out.2.1.2.2 a hak
              rw [mk_getD _ _ _ hjk] at c1
              rw [mk_getD _ _ _ hak] at c2
              have hj0 : (0 : Int) ≤ (j : Int) := by omega
              have hjk' : (j : Int) < (k : Int) := by omega
              have ha0 : (0 : Int) ≤ (a : Int) := by omega
              have hak' : (a : Int) < (k : Int) := by omega
              obtain ⟨x, hx⟩ : ∃ x, Hid (f j = x) := ⟨_, rfl⟩
              obtain ⟨y, hy⟩ : ∃ y, Hid (f a = y) := ⟨_, rfl⟩
              rw [hx.out] at c1
              rw [hy.out] at c2
              by_cases hxy : y < x
              · go_wp2
                go_quiet (fail)
                go_wp2
                go_roundw
                case rel => exact ⟨j + 1, by omega, by omega, by go_num, by rw [hstep.out, hx.out, hy.out, if_pos hxy], _, rfl⟩
                case measure => simp [intOf]; omega
              · go_wp2
                go_quiet (fail)
                go_wp2
                go_roundw
                case rel => exact ⟨j + 1, by omega, by omega, by go_num, by rw [hstep.out, hx.out, hy.out, if_neg (Int.not_lt.2 hxy)], _, rfl⟩
                case measure => simp [intOf]; omega
            · obtain rfl : j = k := by omega
              have hpick : Hid ((ordOf (rsW sp ws) j).getD t 0 = a) := by
                have h1 := lft_pick htk Hr0.out
                rw [← HordW.out, hf.out, ha.out] at h1
                rw [← HordW.out]; exact h1.symm
              have hak : a < j := by rw [← hpick.out]; exact getD_ord_lt htk
              obtain ⟨c1, f1⟩ := hS.out.1.2.2 a hak
              obtain ⟨c2, f2⟩ := hS.out.2.1.2.2 a hak
              rw [mk_getD _ _ _ hak] at c1
              rw [mk_getD _ _ _ hak] at c2
              obtain ⟨x, hx⟩ : ∃ x, Hid (shT sp ws t a = x) := ⟨_, rfl⟩
              obtain ⟨y, hy⟩ : ∃ y, Hid (f a = y) := ⟨_, rfl⟩
              obtain ⟨x0, x1⟩ := shT_bd hs0 hs1 HB.out (by rw [HTl.out]; exact hTp) t a (by rw [hl.out]; exact hak)
              rw [hx.out] at c1 x0 x1
              rw [hy.out] at c2
              have hg : ¬ w.heap.size = w.heap.size + 1 := by omega
              go_wp2
              have hb1 := ((hS.out.1.drewN m).setMk hak (x + 1)).other (p := ⟨w.heap.size + 1, a, none⟩) hg (.int .i64 (-1))
              have hb2 := ((hS.out.2.1.drewN m).other (p := ⟨w.heap.size, a, none⟩) (Ne.symm hg) (.int .i64 (x + 1))).setMk hak (-1)
              go_roundw
              case rel =>
                refine ⟨t + 1, by omega, vint (by omega), hb1.mk_to ?_, hb2.mk_to ?_, ((below_drewN hS.out.2.2 m).setCell (Nat.le_refl _) _).setCell (by simp) _⟩
                · intro i _
                  rw [shT_succ (by rw [hl.out]; exact htk), HordW.out, hpick.out]
                  by_cases h1 : i = a
                  · subst h1; rw [if_pos rfl, if_pos rfl, hx.out]
                  · rw [if_neg h1, if_neg h1]
                · intro i _
                  rw [HordW.out, lft_succ htk, hpick.out, ← HordW.out, hf.out]
              case measure => simp [intOf]; omega
        · have hKt : Hid ((kW sp ws).toNat = t) := by rw [hK.out]; show K.toNat = t; omega
          go_wp2
          go_ret
          have e : shr sp ws = mk k (shT sp ws t) := by unfold shr; rw [hKt.out, if_neg (by rw [HTl.out]; omega), hl.out]
          rw [e]
          exact GotF.bk hS.out.1 (Nat.le_refl _) hS.out.2.2
theorem sshare_any (sp : Int) (A : Option Addr) (n c : Nat) (ws : List Int) (w : World) (h : Rd w w.heap.size A n ws) (hn : n ≤ 16) (hs0 : 0 ≤ sp) (hs1 : sp ≤ 200000) (hb : AllB ws 0 200000) :
    Calls Try.prog 100 #[.int .i64 sp, .slice A n c] w (GotI w (shr sp ws)) := (sshare_full sp A n c ws w h hn hs0 hs1 hb).mono fun _ _ h => h.got
end Go.Proofs.Ytjaecgobgpfbdaa
