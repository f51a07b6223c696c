/- Paths, depths, and what is around what. -/
import Derived.Test.YtjaecgobgpfbdaaTD
namespace Go.Proofs.Ytjaecgobgpfbdaa
open Go.RowKit

theorem ki_rev (l : List Nat) : (ki l).reverse = ki l.reverse := by unfold ki; simp
set_option maxRecDepth 4000 in
set_option maxHeartbeats 4000000 in
theorem path_any (A : Option Addr) (n c a : Nat) (zs : List Int) (w : World) (h : Rd w w.heap.size A (9 * n) zs) (hn : n ≤ 1500000) (ha : a < n) (hp : PK zs (a + 1)) :
    Calls Try.prog 61 #[.slice A n c, .int .i64 a] w (GotI w (ki (pth zs a))) := by
  have H := Lib.hid h
  have HP := Lib.hid hp
  have hlen := pth_len hp a (Nat.lt_succ_self a)
  have hpos := pth_pos zs a
  clear h hp
  go_enter Try.func61, Try.ntmps61
  have hOw := Lib.hid (Ow.empty w w w.heap.size (Below.refl _ _) (Nat.le_refl _))
  go_wp2
  generalize w.alloc (.cells #[] 3) = wa at hOw ⊢
  go_loopw [1, 5] (fun i v wr => ∃ (t : Int) (P : List Nat), -1 ≤ t ∧ i = .int .i64 t ∧ Hid (Ow w w.heap.size v P.length (ki P) wr) ∧ Hid ((t = -1 ∧ P.reverse = pth zs a) ∨ ∃ q : Nat, t = q ∧ q ≤ a ∧ pth zs q ++ P.reverse = pth zs a)) (fun i _ _ => (intOf i + 1).toNat)
  case atStart => exact ⟨a, [], by omega, rfl, hOw, Lib.hid (.inr ⟨a, rfl, Nat.le_refl _, by simp⟩)⟩
  case round =>
    obtain ⟨t, P, ht, rfl, hS, hT⟩ := hrel
    have hPl : P.length ≤ a + 1 := by
      rcases hT.out with ⟨_, e⟩ | ⟨q, _, _, e⟩
      · have := congrArg List.length e; rw [List.length_reverse] at this; omega
      · have := congrArg List.length e; rw [List.length_append, List.length_reverse] at this; omega
    by_cases hlt : 0 ≤ t
    · obtain ⟨q, hq⟩ : ∃ q : Nat, Hid (t = (q : Int) ∧ q ≤ a ∧ pth zs q ++ P.reverse = pth zs a) := by
        rcases hT.out with ⟨e, _⟩ | h1
        · omega
        · exact h1
      obtain rfl := hq.out.1
      have hqa := hq.out.2.1
      obtain ⟨b, off, rfl, hb, hc⟩ := H.out.cell (by omega)
      have hqn : (q : Int) < (n : Int) := by omega
      have c0 := parCell hc (show q < n by omega)
      obtain ⟨x0, h0⟩ : ∃ x, Hid (parB zs q = x) := ⟨_, Lib.hid rfl⟩
      rw [h0.out] at c0
      have C0 := Lib.hid c0
      clear hc c0
      go_wp2_with (at_builtin; refine wpList_app1 _ rfl _ _ rfl w.heap.size _ _ _ rfl (hS.out.alloc _) (by omega) wr.heap.size q rfl (by simp [go_sem]) ?_; intro v' w1 how hg; have HO := Lib.hid how; have c0 : w1.cell? ⟨b, off + q * 9, none⟩ = some (.int .i64 x0) := (HO.out.bl.cell (p := ⟨b, off + q * 9, none⟩) hb).trans C0.out; clear how hg)
      go_roundw
      case rel =>
        refine ⟨x0, P ++ [q], by rw [← h0.out]; exact HP.out.ge (by omega), rfl, ?_, ?_⟩
        · rw [List.length_append, ki_app]; exact HO
        · by_cases hx : 0 ≤ x0
          · obtain ⟨p, e, hlt', hn'⟩ := HP.out.up (show q < a + 1 by omega) (by rw [h0.out]; exact hx)
            refine Lib.hid (.inr ⟨p, h0.out.symm.trans e, by omega, ?_⟩)
            have h5 := hq.out.2.2
            rw [pth_up HP.out (by omega) e] at h5
            simpa using h5
          · obtain ⟨e, e0⟩ := pth_top HP.out (show q < a + 1 by omega) (by rw [h0.out]; omega)
            refine Lib.hid (.inl ⟨by have := HP.out.ge (show q < a + 1 by omega); rw [h0.out] at this; omega, ?_⟩)
            have h5 := hq.out.2.2
            rw [e] at h5
            simpa using h5
      case measure =>
        have := HP.out.lt (show q < a + 1 by omega)
        rw [h0.out] at this
        simp [intOf]; omega
    · have hE : Hid (P.reverse = pth zs a) := by
        rcases hT.out with ⟨_, e⟩ | ⟨q, e, _⟩
        · exact Lib.hid e
        · omega
      have hP0 : 0 < P.length := by have := congrArg List.length hE.out; rw [List.length_reverse] at this; omega
      obtain ⟨A6, c6, rfl, g1, g2, hW6, hB6⟩ := hS.out.out
      obtain ⟨b6, o6, rfl, hb6, _⟩ := hW6.2 hP0
      have W6 := Lib.hid hW6
      have B6 := Lib.hid hB6
      clear hW6 hB6
      go_wp2_with fail
      refine (reverse_any b6 o6 P.length c6 w.heap.size (ki P) wr W6.out hP0 (by omega)).mono ?_
      rintro e w7 ⟨rfl, hW7, hg7⟩
      have W7 := Lib.hid hW7
      have B7 := Lib.hid (B6.out.grown hg7 B6.out.size (fun k e => by injection e with e; omega))
      clear hW7 hg7
      go_wp2_with fail
      refine (clip_any _ _ c6 w7 g1).mono ?_
      rintro e w8 ⟨rfl, rfl⟩
      go_wp2
      go_ret
      exact ⟨_, _, _, rfl, Nat.le_refl _, by rw [← hE.out, ← ki_rev]; exact W7.out, B7.out⟩
set_option maxHeartbeats 2000000 in
theorem depth_any (A : Option Addr) (n c a : Nat) (zs : List Int) (B : Nat) (w : World) (h : Rd w B A (9 * n) zs) (hn : n ≤ 1500000) (ha : a < n) (hp : PK zs (a + 1)) :
    Calls Try.prog 63 #[.slice A n c, .int .i64 a] w fun e w' => e = .returned (.int .i64 ((pth zs a).length - 1)) ∧ w = w' := by
  have H := Lib.hid h
  have HP := Lib.hid hp
  have hlen := pth_len hp a (Nat.lt_succ_self a)
  have hpos := pth_pos zs a
  clear h hp
  go_enter Try.func63, Try.ntmps63
  go_wp2
  go_loop [1, 5] (fun i v => ∃ (q k : Nat), q ≤ a ∧ i = .int .i64 q ∧ v = .int .i64 k ∧ Hid ((pth zs q).length + k = (pth zs a).length)) (fun i _ => (intOf i).toNat)
  case atStart => exact ⟨a, 0, Nat.le_refl _, rfl, rfl, Lib.hid rfl⟩
  case round =>
    obtain ⟨q, k, hq, rfl, rfl, hS⟩ := hrel
    obtain ⟨b, off, rfl, hb, hc⟩ := H.out.cell (by omega)
    have hk := hS.out
    have hqp := pth_pos zs q
    have hqn : (q : Int) < (n : Int) := by omega
    have hq0 : (0 : Int) ≤ (q : Int) := by omega
    have c0 := parCell hc (show q < n by omega)
    obtain ⟨x0, h0⟩ : ∃ x, Hid (parB zs q = x) := ⟨_, Lib.hid rfl⟩
    rw [h0.out] at c0
    clear hc
    by_cases hx : 0 ≤ x0
    · obtain ⟨p, e, hlt, hn'⟩ := HP.out.up (show q < a + 1 by omega) (by rw [h0.out]; exact hx)
      rw [h0.out] at e
      subst e
      have hk1 : k ≤ 2000000 := by omega
      clear hk
      go_wp2
      go_round
      case rel => exact ⟨p, k + 1, by omega, rfl, by go_num, by have h5 := hS.out; rw [pth_up HP.out (by omega) h0.out, List.length_append] at h5; exact Lib.hid (by simp at h5; omega)⟩
      case measure => simp [intOf]; omega
    · have e1 : (pth zs q).length = 1 := by rw [(pth_top HP.out (show q < a + 1 by omega) (by rw [h0.out]; omega)).1]; rfl
      have e2 : (k : Int) = (pth zs a).length - 1 := by omega
      clear hk
      go_wp2
      go_ret
      exact ⟨rfl, rfl⟩
theorem cont_app (l : List Nat) (q p : Nat) (h : ¬ q = p) : (l ++ [q]).contains p = l.contains p := by
  rw [Bool.eq_iff_iff]
  simp only [List.contains_iff_mem, List.mem_append, List.mem_singleton]
  constructor
  · rintro (h1 | h1)
    · exact h1
    · exact absurd h1.symm h
  · exact .inl
theorem cont_self {zs : List Int} {n i : Nat} (h : PK zs n) (hi : i < n) : (pth zs i).contains i = true := by
  rw [List.contains_iff_mem]; exact pth_self h hi
theorem cont_high {zs : List Int} {n i a : Nat} (h : PK zs n) (hi : i < n) (ha : i < a) : (pth zs i).contains a = false := by
  rw [Bool.eq_false_iff]
  intro h1
  have := pth_mem_le h i hi a (List.contains_iff_mem.1 h1)
  omega
set_option maxHeartbeats 2000000 in
theorem saround_any (A : Option Addr) (n c a j : Nat) (zs : List Int) (B : Nat) (w : World) (h : Rd w B A (9 * n) zs) (hn : n ≤ 1500000) (hj : j < n) (hp : PK zs (j + 1)) :
    Calls Try.prog 65 #[.slice A n c, .int .i64 a, .int .i64 j] w fun e w' => e = .returned (.bool ((pth zs j).contains a)) ∧ w = w' := by
  have H := Lib.hid h
  have HP := Lib.hid hp
  clear h hp
  obtain ⟨R, hR⟩ : ∃ R, Hid ((pth zs j).contains a = R) := ⟨_, Lib.hid rfl⟩
  rw [hR.out]
  go_enter Try.func65, Try.ntmps65
  go_wp2
  go_loop [2] (fun i => ∃ (q : Nat), q ≤ j ∧ i = .int .i64 q ∧ Hid ((pth zs q).contains a = R)) (fun i => (intOf i).toNat)
  case atStart => exact ⟨j, Nat.le_refl _, rfl, hR⟩
  case round =>
    obtain ⟨q, hq, rfl, hS⟩ := hrel
    by_cases hqa : a < q
    · obtain ⟨b, off, rfl, hb, hc⟩ := H.out.cell (by omega)
      have hqn : (q : Int) < (n : Int) := by omega
      have hq0 : (0 : Int) ≤ (q : Int) := by omega
      have c0 := parCell hc (show q < n by omega)
      clear hc
      obtain ⟨p, e, hlt, hn'⟩ := HP.out.up (show q < j + 1 by omega) ((HP.out q (by omega)).2 (by omega)).1
      rw [e] at c0
      have he := Lib.hid e
      clear e
      go_wp2
      go_round
      case rel => exact ⟨p, by omega, rfl, by have h5 := hS.out; rw [pth_up HP.out (by omega) he.out, cont_app _ _ _ (by omega)] at h5; exact Lib.hid h5⟩
      case measure => simp [intOf]; omega
    · by_cases hqe : q = a
      · subst hqe
        obtain rfl : true = R := (cont_self HP.out (show q < j + 1 by omega)).symm.trans hS.out
        go_wp2
        go_ret
        exact ⟨ret_bool (by simp), rfl⟩
      · obtain rfl : false = R := (cont_high HP.out (show q < j + 1 by omega) (show q < a by omega)).symm.trans hS.out
        go_wp2
        go_ret
        exact ⟨ret_bool (by simp; try omega), rfl⟩
end Go.Proofs.Ytjaecgobgpfbdaa
