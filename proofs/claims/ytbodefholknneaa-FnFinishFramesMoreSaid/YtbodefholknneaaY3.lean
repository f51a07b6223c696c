/- The laws of finished frames: the walks. -/
import Derived.Test.YtbodefholknneaaY
namespace Go.Proofs.Ytbodefholknneaa
open Go.RowKit

theorem fiL_len' (zs ys : List Int) : (fiL zs ys).length ≤ zs.length := by unfold fiL; split <;> simp [finList_len]
theorem fiL_no {xs ys : List Int} (h : ¬ (cB xs && cB ys) = true) : fiL xs ys = [] := by unfold fiL; rw [if_neg h]
theorem fiL_val {xs ys : List Int} (h1 : cB xs = true) (h2 : cB ys = true) : fiL xs ys = finList xs ys := by unfold fiL; rw [h1, h2]; rfl
theorem fiL_getD {xs ys : List Int} (h1 : cB xs = true) (h2 : cB ys = true) (k : Nat) (hk : k < xs.length) : (fiL xs ys).getD k 0 = frm ys (tot xs (k + 1)) ys.length := by
  rw [fiL_val h1 h2, finList_getD _ _ _ hk]
theorem tot_set0 (ys : List Int) (x : Int) (h : 0 < ys.length) (k : Nat) : tot (ys.set 0 x) (k + 1) = tot ys (k + 1) - ys.getD 0 0 + x := by
  cases ys with
  | nil => simp at h
  | cons y ys => show x + tot ys k = y + tot ys k - _ + x; simp; omega
theorem fi_step {xs ys : List Int} (h1 : cB xs = true) (k : Nat) (hk : k + 1 < xs.length) (m : Nat) (h : 0 ≤ frm ys (tot xs (k + 1 + 1)) m) : 0 ≤ frm ys (tot xs (k + 1)) m ∧ frm ys (tot xs (k + 1)) m ≤ frm ys (tot xs (k + 1 + 1)) m :=
  frm_mono (tot_mono xs 1000 (cB_iff.1 h1).2 (k + 1) (k + 1 + 1) (by omega) (by omega)) h
set_option maxHeartbeats 4000000 in
theorem walkFnFinishFrames (A : Option Addr) (n c : Nat) (zs : List Int) (w : World) (h : IsRow .u8 w A n c zs) :
    Calls Try.prog 12 #[.slice A n c] w fun e w' => e = .returned (.bool true) ∧ Below w.heap.size w w' := by
  have H := Lib.hid h
  have hn : (n : Int) ≤ 9223372036854775807 := by obtain ⟨h1, h2, _⟩ := bytes_of_row h; unfold maxLen at h2; omega
  clear h
  by_cases hl : (1048576 : Int) < n
  · go_enter Try.func12, Try.ntmps12
    go_wp2
    go_ret
    exact ⟨rfl, Below.refl _ _⟩
  go_enter Try.func12, Try.ntmps12
  go_wp2_with fail
  refine (DrawFinishFrames_any _ _ _ _ _ H.out).mono ?_
  rintro e w1 ⟨A1, m, c1, xs, A2, k, c2, ys, rfl, hL, hM, hb1⟩
  have hm : m ≤ 14 := hL.1
  have hk : k ≤ 14 := hM.1
  have L := Lib.hid hL
  have M := Lib.hid hM
  have B1 := Lib.hid hb1
  clear hL hM hb1
  have hlx := Lib.hid L.out.2.2.2.2.2.1
  have hly := Lib.hid M.out.2.2.2.2.2.1
  go_wp2_with fail
  refine (iFinishFrames_any A1 A2 m c1 k c2 xs ys w1 L.out.rd M.out.rd (by omega) (by omega) L.out.2.1 M.out.2.1 L.out.2.2.1 M.out.2.2.1).mono ?_
  rintro e w2 ⟨A3, q, c3, rfl, hq, hW, hb⟩
  have W2 := Lib.hid hW
  have B2 := Lib.hid hb
  have hqm : q ≤ m := by have h1 := hW.1; have h2 := fiL_len' xs ys; have h3 := hlx.out; omega
  clear hW hb hq
  go_wp2_with fail
  refine (sFinishFrames_any A1 A2 m c1 k c2 xs ys w2 ((L.out.rd.below B2.out).more B2.out.size) ((M.out.rd.below B2.out).more B2.out.size) (by omega) (by omega)).mono ?_
  rintro e w3 ⟨A4, q', c4, rfl, hq', hW, hb⟩
  obtain rfl : q = q' := W2.out.1.symm.trans hW.1
  have W3 := Lib.hid hW
  have W23 := Lib.hid (W2.out.below hb)
  have B3 := Lib.hid hb
  clear hW hb hq'
  go_wp2_with fail
  refine (equalInts_any A3 A4 q c3 c4 (fiL xs ys) _ _ w3 W23.out.rd W3.out.rd (by omega)).mono ?_
  rintro e w4 ⟨rfl, hb⟩
  have B4 := Lib.hid hb
  have W24 := Lib.hid (W23.out.below hb)
  clear hb
  have R1 := Lib.hid ((((((L.out.rd.below B2.out).more B2.out.size).below B3.out).more B3.out.size).below B4.out).more B4.out.size)
  have R2 := Lib.hid ((((((M.out.rd.below B2.out).more B2.out.size).below B3.out).more B3.out.size).below B4.out).more B4.out.size)
  have BB := Lib.hid (((B1.out.trans (B2.out.mono B1.out.size)).trans (B3.out.mono (Nat.le_trans B1.out.size B2.out.size))).trans (B4.out.mono (Nat.le_trans (Nat.le_trans B1.out.size B2.out.size) B3.out.size)))
  by_cases hq0 : q = 0
  · subst hq0
    go_wp2_with fail
    refine (sFinishFrames_any A1 A2 m c1 k c2 xs ys w4 R1.out R2.out (by omega) (by omega)).mono ?_
    rintro e w5 ⟨A5, q', c5, rfl, hq', hW, hb⟩
    obtain rfl : 0 = q' := W2.out.1.symm.trans hW.1
    have W5 := Lib.hid hW
    have W25 := Lib.hid (W24.out.below hb)
    have B5 := Lib.hid hb
    clear hW hb hq'
    go_wp2_with fail
    refine (equalInts_any A3 A5 0 c3 c5 (fiL xs ys) _ _ w5 W25.out.rd W5.out.rd (by omega)).mono ?_
    rintro e w6 ⟨rfl, hb⟩
    have B6 := Lib.hid hb
    clear hb
    go_wp2
    go_ret
    exact ⟨rfl, (BB.out.trans (B5.out.mono BB.out.size)).trans (B6.out.mono (Nat.le_trans BB.out.size B5.out.size))⟩
  · have hqp : 0 < q := by omega
    have hv : (cB xs && cB ys) = true := Decidable.byContradiction fun h => by
      have h1 := W2.out.1
      rw [fiL_no h] at h1
      simp at h1
      omega
    obtain ⟨v1, v2⟩ := Bool.and_eq_true_iff.1 hv
    have V1 := Lib.hid v1
    have V2 := Lib.hid v2
    obtain rfl : m = q := by have h1 := W2.out.1; rw [fiL_val v1 v2, finList_len, hlx.out] at h1; exact h1
    clear hv v1 v2 hq0
    have hmz : ((m : Int) == 0) = false := by simp; omega
    go_wp2_with fail
    obtain ⟨b, off, rfl, _, _, hc⟩ := W24.out.2 hqp
    have HCc := Lib.hid hc
    clear hc
    go_loopw [6] (fun i wr => ∃ j : Nat, 1 ≤ j ∧ j ≤ m ∧ i = .int .i64 j ∧ Hid (∃ d, wr = w4.drewN d)) (fun i _ => m - (intOf i).toNat)
    case atStart => exact ⟨1, by omega, by omega, rfl, 0, rfl⟩
    case round =>
      obtain ⟨j, hj1, hj, rfl, hd⟩ := hrel
      obtain ⟨d, rfl⟩ := hd.out
      clear hd
      by_cases hlt : j < m
      · obtain ⟨u, hu⟩ : ∃ u, Hid (frm ys (tot xs (j - 1 + 1)) k = u) := ⟨_, rfl⟩
        obtain ⟨v, hv⟩ : ∃ v, Hid (frm ys (tot xs (j + 1)) k = v) := ⟨_, rfl⟩
        have hcu : w4.cell? ⟨b, off + (j - 1), none⟩ = some (.int .i64 u) := by rw [(HCc.out (j - 1) (by omega)).1, fiL_getD V1.out V2.out (j - 1) (by rw [hlx.out]; omega), hly.out, hu.out]
        have hcv : w4.cell? ⟨b, off + j, none⟩ = some (.int .i64 v) := by rw [(HCc.out j hlt).1, fiL_getD V1.out V2.out j (by rw [hlx.out]; omega), hly.out, hv.out]
        have hst : 0 ≤ v → 0 ≤ u ∧ u ≤ v := by
          intro h0
          have := fi_step (ys := ys) V1.out (j - 1) (by rw [hlx.out]; omega) k (by rw [show j - 1 + 1 + 1 = j + 1 from by omega, hv.out]; exact h0)
          rw [show j - 1 + 1 + 1 = j + 1 from by omega, hu.out, hv.out] at this
          exact this
        have i0 : (0 : Int) ≤ (j : Int) := by omega
        have i1 : (j : Int) < (m : Int) := by omega
        have i2 : (0 : Int) ≤ (j : Int) - 1 := by omega
        have i4 : (j : Int) - 1 < (m : Int) := by omega
        have i6 : IntKind.i64.wrap ((j : Int) - 1) = (j : Int) - 1 := by rw [IntKind.wrap_i64]; omega
        have i7 : ((j : Int) - 1).toNat = j - 1 := by omega
        by_cases h0 : 0 ≤ v
        · obtain ⟨u0, u1⟩ := hst h0
          have hn1 : decide (u < 0) = false := decide_eq_false (by omega)
          have hn2 : decide (v < u) = false := decide_eq_false (by omega)
          clear hst
          go_wp2
          go_quiet (fail)
          clear i6 i7 hn1 hn2
          go_wp2
          go_roundw
          case rel => exact ⟨j + 1, by omega, by omega, by go_num, _, rfl⟩
          case measure => simp [intOf]; omega
        · have hn0 : v < 0 := by omega
          have hd : decide (0 ≤ v) = false := decide_eq_false h0
          clear hst
          go_wp2
          go_quiet (fail)
          clear i6 i7 hd
          go_wp2
          go_roundw
          case rel => exact ⟨j + 1, by omega, by omega, by go_num, _, rfl⟩
          case measure => simp [intOf]; omega
      · go_wp2
        go_ret
        exact ⟨ret_bool (by simp), below_drewN BB.out _⟩
end Go.Proofs.Ytbodefholknneaa
