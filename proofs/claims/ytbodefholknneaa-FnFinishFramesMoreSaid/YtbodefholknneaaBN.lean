/- Frames: what is left of the work, by the program; the frames in which jobs are done, by the reference. -/
import Derived.Test.YtbodefholknneaaBM
namespace Go.Proofs.Ytbodefholknneaa
open Go.RowKit

theorem made_room (n : Nat) (hn : n ≤ 2000000) (W : World) : (Instr.makeSlice 22 (.int .i64 0) (.int .i64 (n : Int))).run Try.prog W = .ok (.slice (some ⟨W.heap.size, 0, none⟩) 0 n) (W.alloc (.cells (madeCells #[Value.int .i64 0] n) 3)) := by
  obtain ⟨i0, hi, hz0, hz1, hz2⟩ := info_parts int_info
  have h := run_make_rowN (P := Try.prog) 22 3 i0 (.int .i64 0) Try.underlying22 hi hz0 .i64 .i64 0 n (Nat.zero_le _) (by rw [hz2]; omega) (by omega) W
  rw [hz1, Nat.mul_one] at h
  exact h
set_option maxHeartbeats 2000000 in
theorem iWorkLeft_any (A A' : Option Addr) (n c m c' : Nat) (zs ys : List Int) (w : World) (h : Rd w w.heap.size A n zs) (h' : Rd w w.heap.size A' m ys) (hn : n ≤ 2000000) (hm : m ≤ 2000000) :
    Calls Try.prog 21 #[.slice A n c, .slice A' m c'] w (GotI w (wkL zs ys)) := by
  have H := Lib.hid h
  have H' := Lib.hid h'
  clear h h'
  cases hv : (cB zs && cB ys)
  · go_enter Try.func21, Try.ntmps21
    go_wp2_with (go_at_call 38; ((with_reducible refine (workOk_any A A' n c m c' zs ys _ H.out H'.out hn hm).mono ?_); rintro e w1 ⟨rfl, hb1⟩; have HB := Lib.hid hb1; clear hb1))
    go_ret
    have e : wkL zs ys = [] := by simp [wkL, hv]
    rw [e]
    exact GotI.nil w HB.out
  · obtain ⟨hz, hy⟩ := Bool.and_eq_true_iff.1 hv
    have HZ := Lib.hid hz
    obtain ⟨s0, s1⟩ := cB_bd hy m (by rw [H'.out.1]; omega)
    have HA' := Lib.hid (cB_all hy)
    obtain ⟨T, hT⟩ : ∃ T, Hid (tot ys m = T) := ⟨_, rfl⟩
    rw [hT.out] at s0 s1
    have hl := Lib.hid H.out.1
    have hn12 : n ≤ 12 := by have := (cB_iff.1 hz).1; rw [H.out.1] at this; exact this
    have hmk := made_room n hn
    go_enter Try.func21, Try.ntmps21
    go_wp2_with (first
      | (go_at_call 38; ((with_reducible refine (workOk_any A A' n c m c' zs ys _ H.out H'.out hn hm).mono ?_); rintro e w1 ⟨rfl, hb1⟩; have HB := Lib.hid hb1; clear hb1))
      | (go_at_call 37; ((with_reducible refine (total_any A' m c' ys _ _ ((H'.out.below HB.out).alloc HB.out.size _) hm HA'.out).mono ?_); rintro e w' ⟨rfl, rfl⟩; rw [hT.out])))
    have hOw := Lib.hid (Ow.room w w1 w.heap.size n HB.out (Nat.le_refl _) hn)
    generalize w1.alloc (.cells (madeCells #[Value.int .i64 0] n) 3) = wa at hOw ⊢
    go_loopw [5, 6, 21] (fun v hv i wr => ∃ k : Nat, k ≤ n ∧ i = .int .i64 k ∧ hv = .int .i64 (max (T - tot zs k) 0) ∧ Hid (Ow w w.heap.size v k (mk k (wl zs T)) wr)) (fun _ _ i _ => n - (intOf i).toNat)
    case atStart => exact ⟨0, Nat.zero_le _, rfl, vint (by rw [tot_zero]; omega), hOw.out⟩
    case round =>
      obtain ⟨k, hk, rfl, rfl, hS⟩ := hrel
      obtain ⟨t0, t1⟩ := cB_bd HZ.out k (by rw [hl.out]; omega)
      by_cases hlt : k < n
      · obtain ⟨b, off, rfl, hb, hc⟩ := H.out.cell (by omega)
        obtain ⟨v0, v1⟩ := (cB_iff.1 HZ.out).2.getD k (by rw [hl.out]; omega)
        obtain ⟨v, hv'⟩ : ∃ v, Hid (zs.getD k 0 = v) := ⟨_, rfl⟩
        rw [hv'.out] at v0 v1
        have hcell : wr.cell? ⟨b, off + k, none⟩ = some (.int .i64 v) := by rw [← hv'.out, hS.out.2.1.cell (p := ⟨b, off + k, none⟩) hb]; exact hc k hlt
        obtain ⟨q, hq⟩ : ∃ q, Hid (max (T - tot zs k) 0 = q) := ⟨_, rfl⟩
        have q0 : 0 ≤ q ∧ q ≤ 12000 := by rw [← hq.out]; omega
        obtain ⟨q0, q1⟩ := q0
        rw [hq.out]
        clear hc
        go_wp2_with (at_builtin; refine wpList_app1 _ rfl _ _ rfl w.heap.size _ _ _ rfl (hS.out.alloc _) (by omega) wr.heap.size (v - min v q) rfl (by simp [go_sem]) ?_; intro v' w1 how hg; have HO := Lib.hid how; clear how hg)
        go_roundw
        case rel =>
          refine ⟨k + 1, by omega, by go_num, vint ?_, ?_⟩
          · rw [tot_succ, hv'.out]; have := hq.out; omega
          · rw [mk_succ]
            have e : wl zs T k = v - min v q := by unfold wl; rw [hv'.out]; have := hq.out; omega
            rw [e]; exact HO.out
        case measure => simp [intOf]; omega
      · obtain rfl : k = n := by omega
        go_wp2
        go_ret
        have e : wkL zs ys = mk k (wl zs T) := by unfold wkL workList; rw [hv, if_pos rfl, hl.out, H'.out.1, hT.out]
        rw [e]
        exact GotI.of hS.out
def fiL (zs ys : List Int) : List Int := if (cB zs && cB ys) = true then finList zs ys else []
set_option maxHeartbeats 4000000 in
theorem sFinishFrames_any (A A' : Option Addr) (n c m c' : Nat) (zs ys : List Int) (w : World) (h : Rd w w.heap.size A n zs) (h' : Rd w w.heap.size A' m ys) (hn : n ≤ 2000000) (hm : m ≤ 2000000) :
    Calls Try.prog 24 #[.slice A n c, .slice A' m c'] w (GotI w (fiL zs ys)) := by
  have H := Lib.hid h
  have H' := Lib.hid h'
  clear h h'
  cases hv : (cB zs && cB ys)
  · go_enter Try.func24, Try.ntmps24
    go_wp2_with (go_at_call 32; ((with_reducible refine (validCosts_any A A' n c m c' zs ys _ _ _ (H.out.alloc (Nat.le_refl _) _) (H'.out.alloc (Nat.le_refl _) _) hn hm).mono ?_); rintro e w' ⟨rfl, rfl⟩))
    go_ret
    have e : fiL zs ys = [] := by simp [fiL, hv]
    rw [e]
    exact GotI.nil w ((Below.refl _ _).alloc (Nat.le_refl _) _)
  · obtain ⟨hz, hy⟩ := Bool.and_eq_true_iff.1 hv
    have HZ := Lib.hid hz
    have HY := Lib.hid hy
    have hl := Lib.hid H.out.1
    have hl' := Lib.hid H'.out.1
    have hn12 : n ≤ 12 := by have := (cB_iff.1 hz).1; rw [H.out.1] at this; exact this
    have hm12 : m ≤ 12 := by have := (cB_iff.1 hy).1; rw [H'.out.1] at this; exact this
    go_enter Try.func24, Try.ntmps24
    go_wp2_with (first
      | (go_at_call 32; ((with_reducible refine (validCosts_any A A' n c m c' zs ys _ _ _ (H.out.alloc (Nat.le_refl _) _) (H'.out.alloc (Nat.le_refl _) _) hn hm).mono ?_); rintro e w' ⟨rfl, rfl⟩)))
    have hOw := Lib.hid (Ow.empty w w w.heap.size (Below.refl _ _) (Nat.le_refl _))
    generalize w.alloc (.cells #[] 3) = wa at hOw ⊢
    go_loopw [5, 6, 7] (fun v hv i wr => ∃ k : Nat, k ≤ n ∧ i = .int .i64 k ∧ hv = .int .i64 (tot zs k) ∧ Hid (Ow w w.heap.size v k (mk k fun j => frm ys (tot zs (j + 1)) m) wr)) (fun _ _ i _ => n - (intOf i).toNat)
    case atStart => exact ⟨0, Nat.zero_le _, rfl, vint (by rw [tot_zero]), hOw.out⟩
    case round =>
      obtain ⟨k, hk, rfl, rfl, hS⟩ := hrel
      obtain ⟨t0, t1⟩ := cB_bd HZ.out k (by rw [hl.out]; omega)
      by_cases hlt : k < n
      · obtain ⟨b, off, rfl, hb, hc⟩ := H.out.cell (by omega)
        obtain ⟨v0, v1⟩ := (cB_iff.1 HZ.out).2.getD k (by rw [hl.out]; omega)
        obtain ⟨v, hv'⟩ : ∃ v, Hid (zs.getD k 0 = v) := ⟨_, rfl⟩
        rw [hv'.out] at v0 v1
        have hcell : wr.cell? ⟨b, off + k, none⟩ = some (.int .i64 v) := by rw [← hv'.out, hS.out.2.1.cell (p := ⟨b, off + k, none⟩) hb]; exact hc k hlt
        have hnx : Hid (tot zs k + v = tot zs (k + 1)) := by rw [tot_succ, hv'.out]; rfl
        clear hc
        go_wp2
        rw [hnx.out]
        obtain ⟨N, hN⟩ : ∃ N, Hid (tot zs (k + 1) = N) := ⟨_, rfl⟩
        have N0 : 0 ≤ N ∧ N ≤ 13000 := by rw [← hN.out, ← hnx.out]; omega
        obtain ⟨N0, N1⟩ := N0
        rw [hN.out]
        obtain ⟨wo, rfl⟩ : ∃ wo : World, wo = wr := ⟨_, rfl⟩
        go_loopw [8, 9, 10] (fun at_ hv j wr => ∃ f : Nat, f ≤ m ∧ j = .int .i64 f ∧ hv = .int .i64 (tot ys f) ∧ at_ = .int .i64 (frm ys N f) ∧ Hid (wo = wr)) (fun _ _ j _ => m - (intOf j).toNat)
        case atStart => exact ⟨0, Nat.zero_le _, rfl, vint (by rw [tot_zero]), rfl, rfl⟩
        case round =>
          obtain ⟨f, hf, rfl, rfl, rfl, hW⟩ := hrel
          obtain rfl := hW.out
          obtain ⟨u0, u1⟩ := cB_bd HY.out f (by rw [hl'.out]; omega)
          have fb := frm_bd ys N f
          obtain ⟨F, hF⟩ : ∃ F, Hid (frm ys N f = F) := ⟨_, rfl⟩
          rw [hF.out] at fb ⊢
          obtain ⟨f0, f1⟩ := fb
          by_cases hgo : f < m ∧ F < 0
          · obtain ⟨hlt2, hneg⟩ := hgo
            obtain ⟨b', off', rfl, hb', hc'⟩ := H'.out.cell (by omega)
            obtain ⟨x0, x1⟩ := (cB_iff.1 HY.out).2.getD f (by rw [hl'.out]; omega)
            obtain ⟨x, hx'⟩ : ∃ x, Hid (ys.getD f 0 = x) := ⟨_, rfl⟩
            rw [hx'.out] at x0 x1
            have hcell' : wo.cell? ⟨b', off' + f, none⟩ = some (.int .i64 x) := by rw [← hx'.out, hS.out.2.1.cell (p := ⟨b', off' + f, none⟩) hb']; exact hc' f hlt2
            have hnx2 : Hid (tot ys (f + 1) = tot ys f + x) := by rw [tot_succ, hx'.out]; rfl
            clear hc'
            by_cases hdone : N ≤ tot ys f + x
            · go_wp2
              go_roundw
              case rel => exact ⟨f + 1, by omega, by go_num, vint hnx2.out.symm, vint (by rw [frm, hF.out, if_neg (by omega), hnx2.out, if_pos hdone]), by first | exact rfl | exact trivial⟩
              case measure => simp [intOf]; omega
            · go_wp2
              go_roundw
              case rel => exact ⟨f + 1, by omega, by go_num, vint hnx2.out.symm, vint (by rw [frm, hF.out, if_neg (by omega), hnx2.out, if_neg hdone]; omega), by first | exact rfl | exact trivial⟩
              case measure => simp [intOf]; omega
          · have hend : Hid (frm ys N m = F) := by
              rw [← hF.out]
              by_cases h1 : f < m
              · exact frm_stop (by rw [hF.out]; omega) (by omega)
              · have : f = m := by omega
                subst this; rfl
            by_cases h1 : f < m
            · have h2 : 0 ≤ F := by omega
              clear hgo
              go_wp2_with (at_builtin; refine wpList_app1 _ rfl _ _ rfl w.heap.size _ _ _ rfl (hS.out.alloc _) (by omega) wo.heap.size F rfl (by simp [go_sem]) ?_; intro v' w1 how hg; have HO := Lib.hid how; clear how hg)
              go_roundw
              case rel => exact ⟨k + 1, by omega, by go_num, vint hN.out.symm, by rw [mk_succ, hN.out, hend.out]; exact HO.out⟩
              case measure => simp [intOf]; omega
            · clear hgo
              go_wp2_with (at_builtin; refine wpList_app1 _ rfl _ _ rfl w.heap.size _ _ _ rfl (hS.out.alloc _) (by omega) wo.heap.size F rfl (by simp [go_sem]) ?_; intro v' w1 how hg; have HO := Lib.hid how; clear how hg)
              go_roundw
              case rel => exact ⟨k + 1, by omega, by go_num, vint hN.out.symm, by rw [mk_succ, hN.out, hend.out]; exact HO.out⟩
              case measure => simp [intOf]; omega
      · obtain rfl : k = n := by omega
        go_wp2
        go_ret
        have e : fiL zs ys = mk k fun j => frm ys (tot zs (j + 1)) m := by unfold fiL finList; rw [hv, if_pos rfl, hl.out, hl'.out]
        rw [e]
        exact GotI.of hS.out
end Go.Proofs.Ytbodefholknneaa
