/- The law of frames that are enough: the walk. -/
import Derived.Test.YtbodefholknneaaY
namespace Go.Proofs.Ytbodefholknneaa
open Go.RowKit

theorem tot_const (f : Nat) (b : Int) (k : Nat) (hk : k ≤ f) : tot (mk f fun _ => b) k = k * b := by
  induction k with
  | zero => simp [tot_zero]
  | succ k ih =>
    rw [tot_succ, ih (by omega), mk_getD _ _ _ (by omega), show ((k + 1 : Nat) : Int) = (k : Int) + 1 from by omega, Int.add_mul, Int.one_mul]
theorem cB_const (f : Nat) (b : Int) (h1 : f ≤ 12) (h2 : 0 ≤ b) (h3 : b ≤ 1000) : cB (mk f fun _ => b) = true :=
  cB_iff.2 ⟨by rw [mk_len]; exact h1, mk_AllB _ _ _ _ fun _ _ => ⟨h2, h3⟩⟩
theorem ceil_bd {T b : Int} {f : Nat} (hb : 1 ≤ b) (h : (T + b - 1) / b = f) : T ≤ f * b ∧ f * b - b < T := by
  have h2 := Int.lt_ediv_add_one_mul_self (T + b - 1) (show 0 < b by omega)
  have h3 := Int.ediv_mul_le (T + b - 1) (show b ≠ 0 by omega)
  rw [h] at h2 h3
  rw [Int.add_mul, Int.one_mul] at h2
  omega
set_option maxHeartbeats 4000000 in
theorem walkFnFramesNeeded (A : Option Addr) (n c : Nat) (zs : List Int) (w : World) (h : IsRow .u8 w A n c zs) :
    Calls Try.prog 8 #[.slice A n c] w fun e w' => e = .returned (.bool true) ∧ Below w.heap.size w w' := by
  have H := Lib.hid h
  have hn : (n : Int) ≤ 9223372036854775807 := by obtain ⟨h1, h2, _⟩ := bytes_of_row h; unfold maxLen at h2; omega
  clear h
  by_cases hl : (1048576 : Int) < n
  · go_enter Try.func8, Try.ntmps8
    go_wp2
    go_ret
    exact ⟨rfl, Below.refl _ _⟩
  go_enter Try.func8, Try.ntmps8
  go_wp2_with fail
  refine (DrawFramesNeeded_any _ _ _ _ _ H.out).mono ?_
  rintro e w1 ⟨A1, m, c1, xs, b, rfl, hL, ⟨b0, b1⟩, hb1⟩
  have hm : m ≤ 14 := hL.1
  have L := Lib.hid hL
  have B1 := Lib.hid hb1
  clear hL hb1
  obtain ⟨F, hF⟩ : ∃ F, Hid (frN xs b = F) := ⟨_, rfl⟩
  have hc := frN_cases hF.out
  have hlen := Lib.hid L.out.2.2.2.2.2.1
  rw [hlen.out] at hc
  have HC := Lib.hid hc
  clear hc
  go_wp2_with fail
  refine (iFramesNeeded_any A1 m c1 xs b w1 L.out.rd (by omega)).mono ?_
  rintro e w2 ⟨rfl, hb⟩
  rw [hF.out]
  have B2 := Lib.hid hb
  clear hb
  go_wp2_with fail
  refine (sFramesNeeded_any A1 m c1 xs b _ w2 (L.out.rd.below B2.out) (by omega)).mono ?_
  rintro e w' ⟨rfl, rfl⟩
  rw [hF.out]
  have BB := Lib.hid (B1.out.trans (B2.out.mono B1.out.size))
  by_cases hF1 : F < 1
  · go_wp2_with (go_at_call 14; ((with_reducible refine (sFramesNeeded_any A1 m c1 xs b _ w2 (L.out.rd.below B2.out) (by omega)).mono ?_); rintro e w' ⟨rfl, rfl⟩; rw [hF.out]))
    go_ret
    exact ⟨ret_bool (by simp), BB.out⟩
  by_cases hF2 : 12 < F
  · go_wp2_with (go_at_call 14; ((with_reducible refine (sFramesNeeded_any A1 m c1 xs b _ w2 (L.out.rd.below B2.out) (by omega)).mono ?_); rintro e w' ⟨rfl, rfl⟩; rw [hF.out]))
    go_ret
    exact ⟨ret_bool (by simp), BB.out⟩
  obtain ⟨F0, v1, v2, v3, v4⟩ := HC.out.resolve_left (by omega)
  obtain ⟨f, hf⟩ := Int.eq_ofNat_of_zero_le F0
  have V1 := Lib.hid v1
  obtain ⟨t0, t1⟩ := cB_bd V1.out m (by rw [hlen.out]; omega)
  obtain ⟨T, hT⟩ : ∃ T, Hid (tot xs m = T) := ⟨_, rfl⟩
  rw [hT.out] at t0 t1 v4
  rw [hf] at v4
  have hcb := Lib.hid (ceil_bd v2 v4)
  subst hf
  have hf1 : 1 ≤ f := by omega
  have hf2 : f ≤ 12 := by omega
  clear v1 v4 hF1 hF2 F0 hF HC
  go_wp2
  have hOw := Lib.hid (Ow.empty w2 w2 w2.heap.size (Below.refl _ _) (Nat.le_refl _))
  generalize w2.alloc (.cells #[] 3) = wa at hOw ⊢
  go_loopw [6, 7] (fun v i wr => ∃ k : Nat, k ≤ f ∧ i = .int .i64 k ∧ Hid (Ow w2 w2.heap.size v k (mk k fun _ => b) wr)) (fun _ i _ => f - (intOf i).toNat)
  case atStart => exact ⟨0, Nat.zero_le _, rfl, hOw.out⟩
  case round =>
    obtain ⟨k, hk, rfl, hS⟩ := hrel
    by_cases hlt : k < f
    · go_wp2_with (at_builtin; refine wpList_app1 _ rfl _ _ rfl w2.heap.size _ _ _ rfl (hS.out.alloc _) (by omega) wr.heap.size b rfl (by simp [go_sem]) ?_; intro v' w3 how hg; have HO := Lib.hid how; clear how hg)
      go_roundw
      case rel => exact ⟨k + 1, by omega, by go_num, by rw [mk_succ]; exact HO.out⟩
      case measure => simp [intOf]; omega
    · obtain rfl : k = f := by omega
      obtain ⟨A3, c3, rfl, hc3, hm3, hW, hbl⟩ := hS.out.out
      have W3 := Lib.hid hW
      have B3 := Lib.hid hbl
      have hm3' : (c3 : Int) ≤ 9223372036854775807 := by unfold maxLen at hm3; omega
      have hkc : (1 : Int) ≤ (c3 : Int) := by omega
      clear hW hbl hm3 hS
      have VC := Lib.hid (cB_const k b hf2 (by omega) v3)
      have R1 := Lib.hid ((((L.out.rd.below B2.out).more B2.out.size).below B3.out).more B3.out.size)
      have BR := Lib.hid (BB.out.trans (B3.out.mono BB.out.size))
      have hs1 := wkL_sum V1.out VC.out
      rw [mk_len, tot_const k b k (Nat.le_refl _), hlen.out, hT.out] at hs1
      have e1 := Lib.hid (show tot (wkL xs (mk k fun _ => b)) m = 0 by rw [hs1]; have := hcb.out; omega)
      have hs2 := wkL_sum V1.out (cB_drop VC.out 1)
      rw [List.length_drop, mk_len, tot_drop, show 1 + (k - 1) = k from by omega, tot_const k b k (Nat.le_refl _), tot_const k b 1 hf1, hlen.out, hT.out] at hs2
      obtain ⟨U, hU⟩ : ∃ U, Hid (tot (wkL xs ((mk k fun _ => b).drop 1)) m = U) := ⟨_, rfl⟩
      have u0 : 0 < U := by rw [← hU.out, hs2]; have := hcb.out; simp; omega
      have h6 := Lib.hid (wkL_length V1.out VC.out)
      have h7 := Lib.hid (wkL_length V1.out (cB_drop VC.out 1))
      clear hs1 hs2
      go_wp2_with fail
      refine (iWorkLeft_any A1 A3 m c1 k c3 xs (mk k fun _ => b) wr R1.out W3.out.rd (by omega) (by omega)).mono ?_
      rintro e w4 ⟨A4, q, c4, rfl, hq, hW, hb⟩
      obtain rfl : m = q := by have := hW.1; rw [h6.out, hlen.out] at this; exact this
      have W4 := Lib.hid hW
      have B4 := Lib.hid hb
      clear hW hb
      go_wp2_with fail
      refine (lsum_any A4 m c4 (wkL xs (mk k fun _ => b)) _ w4 W4.out.rd (by omega) (wkL_all V1.out VC.out).wide).mono ?_
      rintro e w' ⟨rfl, rfl⟩
      rw [e1.out]
      obtain ⟨bb, off, rfl, _⟩ := W3.out.2 hf1
      by_cases hc1 : c3 = 1
      · subst hc1
        obtain rfl : k = 1 := by omega
        go_wp2_with fail
        refine (iWorkLeft_any A1 (some ⟨bb, off, none⟩) m c1 0 0 xs ((mk 1 fun _ => b).drop 1) w4 ((R1.out.below B4.out).more B4.out.size) ⟨by simp [mk_len], fun h => absurd h (by omega)⟩ (by omega) (by omega)).mono ?_
        rintro e w5 ⟨A5, q, c5, rfl, hq, hW, hb⟩
        obtain rfl : m = q := by have := hW.1; rw [h7.out, hlen.out] at this; exact this
        have W5 := Lib.hid hW
        have B5 := Lib.hid hb
        clear hW hb
        go_wp2_with fail
        refine (lsum_any A5 m c5 (wkL xs ((mk 1 fun _ => b).drop 1)) _ w5 W5.out.rd (by omega) (wkL_all V1.out (cB_drop VC.out 1)).wide).mono ?_
        rintro e w' ⟨rfl, rfl⟩
        rw [hU.out]
        go_wp2
        go_ret
        exact ⟨ret_bool (by first | (simp; done) | (simp; omega)), (BR.out.trans (B4.out.mono BR.out.size)).trans (B5.out.mono (Nat.le_trans BR.out.size B4.out.size))⟩
      · have hcut := Lib.hid (((W3.out.rd.cut (k := 1) (cap := c3) hf1 hc3).below B4.out).more B4.out.size)
        rw [if_neg hc1] at hcut
        go_wp2_with fail
        refine (iWorkLeft_any A1 (some ⟨bb, off + 1, none⟩) m c1 (k - 1) (c3 - 1) xs ((mk k fun _ => b).drop 1) w4 ((R1.out.below B4.out).more B4.out.size) hcut.out (by omega) (by omega)).mono ?_
        rintro e w5 ⟨A5, q, c5, rfl, hq, hW, hb⟩
        obtain rfl : m = q := by have := hW.1; rw [h7.out, hlen.out] at this; exact this
        have W5 := Lib.hid hW
        have B5 := Lib.hid hb
        clear hW hb
        go_wp2_with fail
        refine (lsum_any A5 m c5 (wkL xs ((mk k fun _ => b).drop 1)) _ w5 W5.out.rd (by omega) (wkL_all V1.out (cB_drop VC.out 1)).wide).mono ?_
        rintro e w' ⟨rfl, rfl⟩
        rw [hU.out]
        go_wp2
        go_ret
        exact ⟨ret_bool (by first | (simp; done) | (simp; omega)), (BR.out.trans (B4.out.mono BR.out.size)).trans (B5.out.mono (Nat.le_trans BR.out.size B4.out.size))⟩
end Go.Proofs.Ytbodefholknneaa
