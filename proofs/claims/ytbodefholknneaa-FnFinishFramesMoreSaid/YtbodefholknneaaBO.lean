/- Frames: the frames in which jobs are done, by the program. -/
import Derived.Test.YtbodefholknneaaBN
namespace Go.Proofs.Ytbodefholknneaa
open Go.RowKit

set_option maxHeartbeats 4000000 in
theorem iFinishFrames_any (A A' : Option Addr) (n c m c' : Nat) (zs ys : List Int) (w : World) (h : Rd w w.heap.size A n zs) (h' : Rd w w.heap.size A' m ys) (hn : n ≤ 2000000) (hm : m ≤ 2000000) (hnc : n ≤ c) (hmc : m ≤ c') (hcm : c ≤ maxLen) (hcm' : c' ≤ maxLen) :
    Calls Try.prog 25 #[.slice A n c, .slice A' m c'] w (GotI w (fiL zs ys)) := by
  have H := Lib.hid h
  have H' := Lib.hid h'
  clear h h'
  unfold maxLen at hcm hcm'
  cases hv : (cB zs && cB ys)
  · go_enter Try.func25, Try.ntmps25
    go_wp2_with (go_at_call 38; ((with_reducible refine (workOk_any A A' n c m c' zs ys _ H.out H'.out hn hm).mono ?_); rintro e w1 ⟨rfl, hb1⟩; have HB := Lib.hid hb1; clear hb1))
    go_ret
    have e : fiL zs ys = [] := by simp [fiL, hv]
    rw [e]
    exact GotI.nil w HB.out
  · obtain ⟨hz, hy⟩ := Bool.and_eq_true_iff.1 hv
    have HZ := Lib.hid hz
    have HY := Lib.hid hy
    have hl := Lib.hid H.out.1
    have hl' := Lib.hid H'.out.1
    have hn12 : n ≤ 12 := by have := (cB_iff.1 hz).1; rw [H.out.1] at this; exact this
    have hm12 : m ≤ 12 := by have := (cB_iff.1 hy).1; rw [H'.out.1] at this; exact this
    have hmk := made_room n hn
    go_enter Try.func25, Try.ntmps25
    go_wp2_with (first
      | (go_at_call 38; ((with_reducible refine (workOk_any A A' n c m c' zs ys _ H.out H'.out hn hm).mono ?_); rintro e w1 ⟨rfl, hb1⟩; have HB := Lib.hid hb1; clear hb1)))
    have hOw := Lib.hid (Ow.room w w1 w.heap.size n HB.out (Nat.le_refl _) hn)
    generalize w1.alloc (.cells (madeCells #[Value.int .i64 0] n) 3) = wa at hOw ⊢
    go_loopw [5, 19] (fun v i wr => ∃ k : Nat, k ≤ n ∧ i = .int .i64 k ∧ Hid (Ow w w.heap.size v k (mk k fun j => frm ys (tot zs (j + 1)) m) wr)) (fun _ i _ => n - (intOf i).toNat)
    case atStart => exact ⟨0, Nat.zero_le _, rfl, hOw.out⟩
    case round =>
      obtain ⟨k, hk, rfl, hS⟩ := hrel
      by_cases hlt : k < n
      · have hcut : (k : Int) + 1 ≤ (c : Int) := by omega
        have hk0 : (0 : Int) ≤ (k : Int) + 1 := by omega
        have hB := Lib.hid hS.out.bl
        go_wp2_with (go_at_call 37; ((with_reducible refine (total_any A (k + 1) c (zs.take (k + 1)) w.heap.size _ ((H.out.below hB.out).take (by omega)) (by omega) ((cB_all HZ.out).take _)).mono ?_); rintro e w' ⟨rfl, rfl⟩; rw [tot_take zs (k + 1) (k + 1) (Nat.le_refl _)]))
        obtain ⟨N, hN⟩ : ∃ N, Hid (tot zs (k + 1) = N) := ⟨_, rfl⟩
        obtain ⟨N0, N1⟩ := cB_bd HZ.out (k + 1) (by rw [hl.out]; omega)
        rw [hN.out] at N0 N1 ⊢
        obtain ⟨wo, rfl⟩ : ∃ wo : World, wo = wr := ⟨_, rfl⟩
        go_loopw [8, 29] (fun at_ j wr => ∃ f : Nat, f ≤ m ∧ j = .int .i64 f ∧ at_ = .int .i64 (-1) ∧ Hid (frm ys N f < 0) ∧ Hid (wo = wr)) (fun _ j _ => m - (intOf j).toNat)
        case atStart => exact ⟨0, Nat.zero_le _, rfl, rfl, (by simp [frm] : frm ys N 0 < 0), rfl⟩
        case round =>
          obtain ⟨f, hf, rfl, rfl, hF, hW⟩ := hrel
          obtain rfl := hW.out
          by_cases hlt2 : f < m
          · obtain ⟨u0, u1⟩ := cB_bd HY.out (f + 1) (by rw [hl'.out]; omega)
            have hcut2 : (f : Int) + 1 ≤ (c' : Int) := by omega
            have hf0 : (0 : Int) ≤ (f : Int) + 1 := by omega
            by_cases hdone : N ≤ tot ys (f + 1)
            · have hend : Hid (frm ys N m = f) := by
                have h1 : frm ys N (f + 1) = f := by rw [frm, if_neg (by have := hF.out; omega), if_pos hdone]
                show frm ys N m = f
                rw [← h1]; exact frm_stop (by rw [h1]; omega) (by omega)
              go_wp2_with (first
                | (go_at_call 37; ((with_reducible refine (total_any A' (f + 1) c' (ys.take (f + 1)) w.heap.size _ ((H'.out.below hB.out).take (by omega)) (by omega) ((cB_all HY.out).take _)).mono ?_); rintro e w' ⟨rfl, rfl⟩; rw [tot_take ys (f + 1) (f + 1) (Nat.le_refl _)]))
                | (at_builtin; refine wpList_app1 _ rfl _ _ rfl w.heap.size _ _ _ rfl (hS.out.alloc _) (by omega) wo.heap.size f rfl (by simp [go_sem]) ?_; intro v' w1 how hg; have HO := Lib.hid how; clear how hg))
              go_roundw
              case rel => exact ⟨k + 1, by omega, by go_num, by rw [mk_succ, hN.out, hend.out]; exact HO.out⟩
              case measure => simp [intOf]; omega
            · go_wp2_with (go_at_call 37; ((with_reducible refine (total_any A' (f + 1) c' (ys.take (f + 1)) w.heap.size _ ((H'.out.below hB.out).take (by omega)) (by omega) ((cB_all HY.out).take _)).mono ?_); rintro e w' ⟨rfl, rfl⟩; rw [tot_take ys (f + 1) (f + 1) (Nat.le_refl _)]))
              go_roundw
              case rel => exact ⟨f + 1, by omega, by go_num, rfl, (by show frm ys N (f + 1) < 0; rw [frm, if_neg (by have := hF.out; omega), if_neg (by omega)]; omega), by first | exact rfl | exact trivial⟩
              case measure => simp [intOf]; omega
          · obtain rfl : f = m := by omega
            have hend : Hid (frm ys N f = -1) := by
              have h1 := frm_bd ys N f
              have := hF.out
              show frm ys N f = -1
              omega
            go_wp2_with (at_builtin; refine wpList_app1 _ rfl _ _ rfl w.heap.size _ _ _ rfl (hS.out.alloc _) (by omega) wo.heap.size (-1) rfl (by simp [go_sem]) ?_; intro v' w1 how hg; have HO := Lib.hid how; clear how hg)
            go_roundw
            case rel => exact ⟨k + 1, by omega, by go_num, by rw [mk_succ, hN.out, hend.out]; exact HO.out⟩
            case measure => simp [intOf]; omega
      · obtain rfl : k = n := by omega
        go_wp2
        go_ret
        have e : fiL zs ys = mk k fun j => frm ys (tot zs (j + 1)) m := by unfold fiL finList; rw [hv, if_pos rfl, hl.out, hl'.out]
        rw [e]
        exact GotI.of hS.out
end Go.Proofs.Ytbodefholknneaa
