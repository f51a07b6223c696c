/- Frames: what is left of the work. -/
import Derived.Test.YtbodefholknneaaBL
import Derived.Test.YtbodefholknneaaBA
namespace Go.Proofs.Ytbodefholknneaa
open Go.RowKit

theorem vint {a b : Int} (h : a = b) : Value.int .i64 a = .int .i64 b := by rw [h]
def wkL (zs ys : List Int) : List Int := if (cB zs && cB ys) = true then workList zs (tot ys ys.length) else []
/- A slice of integers of the call's own comes back. -/
def GotI (w : World) (zs : List Int) (e : Ending) (w' : World) : Prop := ∃ A n c, e = .returned (.slice A n c) ∧ n ≤ c ∧ Wr w' w.heap.size A n zs ∧ Below w.heap.size w w'
theorem GotI.nil (w : World) {w' : World} (hb : Below w.heap.size w w') : GotI w [] (.returned (.slice none 0 0)) w' := ⟨none, 0, 0, rfl, Nat.le_refl _, Wr.nil _ _ _, hb⟩
theorem GotI.of {w w' : World} {v : Value} {n : Nat} {zs : List Int} (h : Ow w w.heap.size v n zs w') : GotI w zs (.returned v) w' := by
  obtain ⟨A, c, rfl, hc, _, hw, hb⟩ := h.out
  exact ⟨A, n, c, rfl, hc, hw, hb⟩
set_option maxHeartbeats 2000000 in
theorem sWorkLeft_any (A A' : Option Addr) (n c m c' : Nat) (zs ys : List Int) (w : World) (h : Rd w w.heap.size A n zs) (h' : Rd w w.heap.size A' m ys) (hn : n ≤ 2000000) (hm : m ≤ 2000000) :
    Calls Try.prog 20 #[.slice A n c, .slice A' m c'] w (GotI w (wkL zs ys)) := by
  have H := Lib.hid h
  have H' := Lib.hid h'
  clear h h'
  cases hv : (cB zs && cB ys)
  · go_enter Try.func20, Try.ntmps20
    go_wp2_with (go_at_call 32; ((with_reducible refine (validCosts_any A A' n c m c' zs ys _ _ _ (H.out.alloc (Nat.le_refl _) _) (H'.out.alloc (Nat.le_refl _) _) hn hm).mono ?_); rintro e w' ⟨rfl, rfl⟩))
    go_ret
    have e : wkL zs ys = [] := by simp [wkL, hv]
    rw [e]
    exact GotI.nil w ((Below.refl _ _).alloc (Nat.le_refl _) _)
  · obtain ⟨hz, hy⟩ := Bool.and_eq_true_iff.1 hv
    have HZ := Lib.hid hz
    obtain ⟨s0, s1⟩ := cB_bd hy m (by rw [H'.out.1]; omega)
    have HA' := Lib.hid (cB_all hy)
    obtain ⟨T, hT⟩ : ∃ T, Hid (tot ys m = T) := ⟨_, rfl⟩
    rw [hT.out] at s0 s1
    have hl := Lib.hid H.out.1
    have hn12 : n ≤ 12 := by have := (cB_iff.1 hz).1; rw [H.out.1] at this; exact this
    go_enter Try.func20, Try.ntmps20
    go_wp2_with (first
      | (go_at_call 32; ((with_reducible refine (validCosts_any A A' n c m c' zs ys _ _ _ (H.out.alloc (Nat.le_refl _) _) (H'.out.alloc (Nat.le_refl _) _) hn hm).mono ?_); rintro e w' ⟨rfl, rfl⟩))
      | (go_at_call 34; ((with_reducible refine (ssum_any A' m c' ys _ _ (H'.out.alloc (Nat.le_refl _) _) hm HA'.out).mono ?_); rintro e w' ⟨rfl, rfl⟩; rw [hT.out])))
    have hOw := Lib.hid (Ow.empty w w w.heap.size (Below.refl _ _) (Nat.le_refl _))
    generalize w.alloc (.cells #[] 3) = wa at hOw ⊢
    go_loopw [5, 6, 7] (fun v hv i wr => ∃ k : Nat, k ≤ n ∧ i = .int .i64 k ∧ hv = .int .i64 (max (T - tot zs k) 0) ∧ Hid (Ow w w.heap.size v k (mk k (wl zs T)) wr)) (fun _ _ i _ => n - (intOf i).toNat)
    case atStart => exact ⟨0, Nat.zero_le _, rfl, vint (by rw [tot_zero]; omega), hOw.out⟩
    case round =>
      obtain ⟨k, hk, rfl, rfl, hS⟩ := hrel
      obtain ⟨t0, t1⟩ := cB_bd HZ.out k (by rw [hl.out]; omega)
      by_cases hlt : k < n
      · obtain ⟨b, off, rfl, hb, hc⟩ := H.out.cell (by omega)
        obtain ⟨v0, v1⟩ := (cB_iff.1 HZ.out).2.getD k (by rw [hl.out]; omega)
        obtain ⟨v, hv'⟩ : ∃ v, Hid (zs.getD k 0 = v) := ⟨_, rfl⟩
        rw [hv'.out] at v0 v1
        have hcell : wr.cell? ⟨b, off + k, none⟩ = some (.int .i64 v) := by rw [← hv'.out, hS.out.2.1.cell (p := ⟨b, off + k, none⟩) hb]; exact hc k hlt
        obtain ⟨q, hq⟩ : ∃ q, Hid (max (T - tot zs k) 0 = q) := ⟨_, rfl⟩
        have q0 : 0 ≤ q ∧ q ≤ 12000 := by rw [← hq.out]; omega
        obtain ⟨q0, q1⟩ := q0
        rw [hq.out]
        obtain ⟨tk, htk⟩ : ∃ t, Hid (tot zs k = t) := ⟨_, rfl⟩
        clear hc
        go_wp2_with (at_builtin; refine wpList_app1 _ rfl _ _ rfl w.heap.size _ _ _ rfl (hS.out.alloc _) (by omega) wr.heap.size (v - min q v) rfl (by simp [go_sem]) ?_; intro v' w1 how hg; have HO := Lib.hid how; clear how hg)
        go_roundw
        case rel =>
          refine ⟨k + 1, by omega, by go_num, vint ?_, ?_⟩
          · rw [tot_succ, hv'.out]; have := hq.out; omega
          · rw [mk_succ]
            have e : wl zs T k = v - min q v := by unfold wl; rw [hv'.out]; have := hq.out; omega
            rw [e]; exact HO.out
        case measure => simp [intOf]; omega
      · obtain rfl : k = n := by omega
        go_wp2
        go_ret
        have e : wkL zs ys = mk k (wl zs T) := by unfold wkL workList; rw [hv, if_pos rfl, hl.out, H'.out.1, hT.out]
        rw [e]
        exact GotI.of hS.out
end Go.Proofs.Ytbodefholknneaa
