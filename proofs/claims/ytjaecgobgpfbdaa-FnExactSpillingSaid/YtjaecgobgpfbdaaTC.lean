/- The boxes in a box, by the program and by the reference. -/
import Derived.Test.YtjaecgobgpfbdaaTB
import Derived.Test.YtjaecgobgpfbdaaBA
namespace Go.Proofs.Ytjaecgobgpfbdaa
open Go.RowKit

/- Numbers of boxes as integers. -/
def ki (l : List Nat) : List Int := l.map (fun (i : Nat) => (i : Int))
theorem ki_len (l : List Nat) : (ki l).length = l.length := by unfold ki; simp
theorem ki_app (l m : List Nat) : ki (l ++ m) = ki l ++ ki m := by unfold ki; simp
theorem Ow.gotI {w : World} {v : Value} {n : Nat} {zs : List Int} {w' : World} (h : Ow w w.heap.size v n zs w') : GotI w zs (.returned v) w' := by
  obtain ⟨A, c, rfl, h1, _, h2, h3⟩ := h.out
  exact ⟨A, n, c, rfl, h1, h2, h3⟩
/- The parent of a box, where the tree lies. -/
theorem parCell {w : World} {b off n : Nat} {zs : List Int} (hc : ∀ i, i < 9 * n → w.cell? ⟨b, off + i, none⟩ = some (.int .i64 (zs.getD i 0))) {k : Nat} (h : k < n) : w.cell? ⟨b, off + k * 9, none⟩ = some (.int .i64 (parB zs k)) := (at9 hc h).1
set_option maxHeartbeats 4000000 in
theorem skids_any (A : Option Addr) (n c a : Nat) (zs : List Int) (w : World) (h : Rd w w.heap.size A (9 * n) zs) (hn : n ≤ 2000000) (ha : a < n) (hp : PK zs (a + 1)) :
    Calls Try.prog 69 #[.slice A n c, .int .i64 a] w (GotI w (ki (kdsL zs n a))) := by
  have H := Lib.hid h
  have hlow := Lib.hid (kdsL_low hp (Nat.lt_succ_self a) (a + 1) (Nat.le_refl _))
  clear h hp
  go_enter Try.func69, Try.ntmps69
  have hOw := Lib.hid (Ow.empty w w w.heap.size (Below.refl _ _) (Nat.le_refl _))
  go_wp2
  generalize w.alloc (.cells #[] 3) = wa at hOw ⊢
  go_loopw [5, 6] (fun v i wr => ∃ k : Nat, k ≤ n ∧ i = .int .i64 k ∧ Hid (Ow w w.heap.size v (kdsL zs k a).length (ki (kdsL zs k a)) wr)) (fun _ i _ => n - (intOf i).toNat)
  case atStart => exact ⟨a + 1, ha, by go_num, by rw [hlow.out]; exact hOw⟩
  case round =>
    obtain ⟨k, hk, rfl, hS⟩ := hrel
    have hkl := kdsL_len zs k a
    by_cases hlt : k < n
    · obtain ⟨b, off, rfl, hb, hc⟩ := H.out.cell (by omega)
      have hcell : ∀ j, j < 9 * n → wr.cell? ⟨b, off + j, none⟩ = some (.int .i64 (zs.getD j 0)) := fun j hj => by rw [hS.out.2.1.cell (p := ⟨b, off + j, none⟩) hb]; exact hc j hj
      have c0 := parCell hcell hlt
      clear hcell hc
      obtain ⟨x0, h0⟩ : ∃ x, Hid (parB zs k = x) := ⟨_, rfl⟩
      rw [h0.out] at c0
      have hkm : (k : Int) < (n : Int) := by omega
      have hk0 : (0 : Int) ≤ (k : Int) := by omega
      by_cases he : x0 = (a : Int)
      · subst he
        go_wp2_with (at_builtin; refine wpList_app1 _ rfl _ _ rfl w.heap.size _ _ _ rfl (hS.out.alloc _) (by omega) wr.heap.size k rfl (by simp [go_sem]) ?_; intro v' w1 how hg; have HO := Lib.hid how; clear how hg)
        go_roundw
        case rel => exact ⟨k + 1, by omega, by go_num, by rw [kdsL_succ, if_pos h0.out, ki_app, List.length_append]; exact HO⟩
        case measure => simp [intOf]; omega
      · go_wp2
        go_roundw
        case rel => exact ⟨k + 1, by omega, by go_num, by rw [kdsL_succ, if_neg (by rw [h0.out]; exact he), List.append_nil]; exact hS⟩
        case measure => simp [intOf]; omega
    · obtain rfl : n = k := by omega
      go_wp2
      go_ret
      exact hS.out.gotI
theorem clip_any (A : Option Addr) (n c : Nat) (w : World) (hc : n ≤ c) :
    Calls Try.prog 82 #[.slice A n c] w fun e w' => e = .returned (.slice A n n) ∧ w = w' := by
  go_enter Try.func82, Try.ntmps82
  have h0 : (0 : Int) ≤ (n : Int) := by omega
  have h1 : (n : Int) ≤ (c : Int) := by omega
  go_wp2
  go_ret
  exact ⟨rfl, rfl⟩
set_option maxHeartbeats 4000000 in
theorem ikids_any (A : Option Addr) (n c a : Nat) (zs : List Int) (w : World) (h : Rd w w.heap.size A (9 * n) zs) (hn : n ≤ 2000000) :
    Calls Try.prog 62 #[.slice A n c, .int .i64 a] w (GotI w (ki (kdsL zs n a))) := by
  have H := Lib.hid h
  clear h
  go_enter Try.func62, Try.ntmps62
  have hOw := Lib.hid (Ow.empty w w w.heap.size (Below.refl _ _) (Nat.le_refl _))
  go_wp2
  generalize w.alloc (.cells #[] 3) = wa at hOw ⊢
  go_loopw [5, 11] (fun v i wr => ∃ k : Nat, k ≤ n ∧ i = .int .i64 k ∧ Hid (Ow w w.heap.size v (kdsL zs k a).length (ki (kdsL zs k a)) wr)) (fun _ i _ => n - (intOf i).toNat)
  case atStart => exact ⟨0, Nat.zero_le _, by go_num, hOw⟩
  case round =>
    obtain ⟨k, hk, rfl, hS⟩ := hrel
    have hkl := kdsL_len zs k a
    by_cases hlt : k < n
    · obtain ⟨b, off, rfl, hb, hc⟩ := H.out.cell (by omega)
      have hcell : ∀ j, j < 9 * n → wr.cell? ⟨b, off + j, none⟩ = some (.int .i64 (zs.getD j 0)) := fun j hj => by rw [hS.out.2.1.cell (p := ⟨b, off + j, none⟩) hb]; exact hc j hj
      have c0 := parCell hcell hlt
      obtain ⟨cz, c1, c2, c3, c4, c5, c6, c7, c8⟩ := at9 hcell hlt
      clear hcell hc cz
      obtain ⟨x1, h1⟩ : ∃ x, Hid (zs.getD (9 * k + 1) 0 = x) := ⟨_, rfl⟩
      rw [h1.out] at c1
      obtain ⟨x2, h2⟩ : ∃ x, Hid (zs.getD (9 * k + 2) 0 = x) := ⟨_, rfl⟩
      rw [h2.out] at c2
      obtain ⟨x3, h3⟩ : ∃ x, Hid (zs.getD (9 * k + 3) 0 = x) := ⟨_, rfl⟩
      rw [h3.out] at c3
      obtain ⟨x4, h4⟩ : ∃ x, Hid (zs.getD (9 * k + 4) 0 = x) := ⟨_, rfl⟩
      rw [h4.out] at c4
      obtain ⟨x5, h5⟩ : ∃ x, Hid (zs.getD (9 * k + 5) 0 = x) := ⟨_, rfl⟩
      rw [h5.out] at c5
      obtain ⟨x6, h6⟩ : ∃ x, Hid (zs.getD (9 * k + 6) 0 = x) := ⟨_, rfl⟩
      rw [h6.out] at c6
      obtain ⟨x7, h7⟩ : ∃ x, Hid (zs.getD (9 * k + 7) 0 = x) := ⟨_, rfl⟩
      rw [h7.out] at c7
      obtain ⟨x8, h8⟩ : ∃ x, Hid (zs.getD (9 * k + 8) 0 = x) := ⟨_, rfl⟩
      rw [h8.out] at c8
      obtain ⟨x0, h0⟩ : ∃ x, Hid (parB zs k = x) := ⟨_, rfl⟩
      rw [h0.out] at c0
      have hkm : (k : Int) < (n : Int) := by omega
      have hk0 : (0 : Int) ≤ (k : Int) := by omega
      by_cases he : x0 = (a : Int)
      · subst he
        go_wp2_with (at_builtin; refine wpList_app1 _ rfl _ _ rfl w.heap.size _ _ _ rfl ((hS.out.alloc _).alloc _) (by omega) (wr.heap.size + 1) k (by simp [go_sem]) (by simp [go_sem]) ?_; intro v' w1 how hg; have HO := Lib.hid how; clear how hg)
        go_roundw
        case rel => exact ⟨k + 1, by omega, by go_num, by rw [kdsL_succ, if_pos h0.out, ki_app, List.length_append]; exact HO⟩
        case measure => simp [intOf]; omega
      · go_wp2
        go_roundw
        case rel => exact ⟨k + 1, by omega, by go_num, by rw [kdsL_succ, if_neg (by rw [h0.out]; exact he), List.append_nil]; exact Lib.hid (hS.out.alloc _)⟩
        case measure => simp [intOf]; omega
    · obtain rfl : n = k := by omega
      obtain ⟨A6, c6, rfl, g1, g2, hW6, hB6⟩ := hS.out.out
      have W6 := Lib.hid hW6
      have B6 := Lib.hid hB6
      clear hW6 hB6
      go_wp2_with fail
      refine (clip_any A6 _ c6 wr g1).mono ?_
      rintro e w7 ⟨rfl, rfl⟩
      go_wp2
      go_ret
      exact ⟨A6, _, _, rfl, Nat.le_refl _, W6.out, B6.out⟩
end Go.Proofs.Ytjaecgobgpfbdaa
