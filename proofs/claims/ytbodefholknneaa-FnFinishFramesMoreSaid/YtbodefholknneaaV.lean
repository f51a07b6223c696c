/- The laws of needed frames and idle time: the walks. -/
import Derived.Test.YtbodefholknneaaU
import Derived.Test.YtbodefholknneaaBO
namespace Go.Proofs.Ytbodefholknneaa
open Go.RowKit

theorem Lst.rd {lo hi : Int} {N B : Nat} {A : Option Addr} {m c : Nat} {zs : List Int} {w : World} (h : Lst lo hi N B A m c zs w) : Rd w w.heap.size A m zs := h.2.2.2.2.2.rd
theorem Lst.all {lo hi : Int} {N B : Nat} {A : Option Addr} {m c : Nat} {zs : List Int} {w : World} (h : Lst lo hi N B A m c zs w) (h1 : -1000000 ≤ lo) (h2 : hi ≤ 1000000) : AllB zs (-1000000) 1000000 := h.2.2.2.2.1.mono h1 h2
theorem wkL_len' (zs ys : List Int) : (wkL zs ys).length ≤ zs.length := by unfold wkL; split <;> simp [workList_len]
theorem frN_cases {xs : List Int} {b F : Int} (h : frN xs b = F) : F = -1 ∨ (0 ≤ F ∧ cB xs = true ∧ 1 ≤ b ∧ b ≤ 1000 ∧ (tot xs xs.length + b - 1) / b = F) := by
  unfold frN at h
  by_cases hv : (cB xs && inB b 1 1000) = true
  · rw [if_pos hv] at h
    obtain ⟨h1, h2⟩ := Bool.and_eq_true_iff.1 hv
    obtain ⟨h3, h4⟩ := inB_iff.1 h2
    have h5 := cB_bd h1 xs.length (Nat.le_refl _)
    exact .inr ⟨by rw [← h]; exact Int.ediv_nonneg (by omega) (by omega), h1, h3, h4, h⟩
  · rw [if_neg hv] at h
    exact .inl h.symm
theorem ceil_mono {T b : Int} (hT : 0 ≤ T) (hb : 1 ≤ b) : (T + b) / (b + 1) ≤ (T + b - 1) / b := by
  have h1 : 0 ≤ (T + b - 1) / b := Int.ediv_nonneg (by omega) (by omega)
  have h2 : T + b - 1 < ((T + b - 1) / b + 1) * b := by
    have := Int.lt_ediv_add_one_mul_self (T + b - 1) (show 0 < b by omega)
    exact this
  apply Int.le_of_lt_add_one
  apply Int.ediv_lt_of_lt_mul (by omega)
  have h3 : ((T + b - 1) / b + 1) * (b + 1) = ((T + b - 1) / b + 1) * b + ((T + b - 1) / b + 1) := by rw [Int.mul_add, Int.mul_one]
  omega
theorem ceil_zero {T b : Int} (hT : 0 ≤ T) (hb : 1 ≤ b) : (T + b - 1) / b = 0 ↔ T = 0 := by
  constructor
  · intro h
    have h2 := Int.lt_ediv_add_one_mul_self (T + b - 1) (show 0 < b by omega)
    rw [h] at h2
    omega
  · rintro rfl
    exact Int.ediv_eq_zero_of_lt (by omega) (by omega)
theorem frN_more {xs : List Int} {b : Int} (h : cB xs = true) (h1 : 1 ≤ b) (h2 : b < 1000) : frN xs (b + 1) = (tot xs xs.length + b) / (b + 1) := by
  unfold frN
  have h3 : inB (b + 1) 1 1000 = true := inB_iff.2 ⟨by omega, by omega⟩
  rw [h, h3]
  simp only [Bool.and_self, if_true]
  congr 1
  omega
set_option maxHeartbeats 4000000 in
theorem walkFnFramesNeededMore (A : Option Addr) (n c : Nat) (zs : List Int) (w : World) (h : IsRow .u8 w A n c zs) :
    Calls Try.prog 7 #[.slice A n c] w fun e w' => e = .returned (.bool true) ∧ Below w.heap.size w w' := by
  have H := Lib.hid h
  have hn : (n : Int) ≤ 9223372036854775807 := by obtain ⟨h1, h2, _⟩ := bytes_of_row h; unfold maxLen at h2; omega
  clear h
  by_cases hl : (1048576 : Int) < n
  · go_enter Try.func7, Try.ntmps7
    go_wp2
    go_ret
    exact ⟨rfl, Below.refl _ _⟩
  go_enter Try.func7, Try.ntmps7
  go_wp2_with fail
  refine (DrawFramesNeeded_any _ _ _ _ _ H.out).mono ?_
  rintro e w1 ⟨A1, m, c1, xs, b, rfl, hL, ⟨b0, b1⟩, hb1⟩
  have hm : m ≤ 14 := hL.1
  have L := Lib.hid hL
  have B1 := Lib.hid hb1
  clear hL hb1
  obtain ⟨F, hF⟩ : ∃ F, Hid (frN xs b = F) := ⟨_, rfl⟩
  have hc := frN_cases hF.out
  have hlen := Lib.hid L.out.2.2.2.2.2.1
  rw [hlen.out] at hc
  have HC := Lib.hid hc
  clear hc
  go_wp2_with fail
  refine (iFramesNeeded_any A1 m c1 xs b w1 L.out.rd (by omega)).mono ?_
  rintro e w2 ⟨rfl, hb⟩
  rw [hF.out]
  have B2 := Lib.hid hb
  clear hb
  go_wp2_with fail
  refine (sFramesNeeded_any A1 m c1 xs b _ w2 (L.out.rd.below B2.out) (by omega)).mono ?_
  rintro e w' ⟨rfl, rfl⟩
  rw [hF.out]
  have BB := Lib.hid (B1.out.trans (B2.out.mono B1.out.size))
  rcases HC.out with e1 | ⟨F0, v1, v2, v3, v4⟩
  · have e2 : F < 0 := by omega
    clear e1
    go_wp2_with (go_at_call 14; ((with_reducible refine (sFramesNeeded_any A1 m c1 xs b _ w2 (L.out.rd.below B2.out) (by omega)).mono ?_); rintro e w' ⟨rfl, rfl⟩; rw [hF.out]))
    go_ret
    exact ⟨ret_bool (by simp), BB.out⟩
  · have V1 := Lib.hid v1
    have V4 := Lib.hid v4
    clear v1 v4
    by_cases hb0 : b = 1000
    · have hb2 : (b == 1000) = true := by simp [hb0]
      clear hb0
      go_wp2_with (go_at_call 14; ((with_reducible refine (sFramesNeeded_any A1 m c1 xs b _ w2 (L.out.rd.below B2.out) (by omega)).mono ?_); rintro e w' ⟨rfl, rfl⟩; rw [hF.out]))
      go_ret
      exact ⟨ret_bool (by simp), BB.out⟩
    · have hb2 : (b == 1000) = false := by simp [hb0]
      have hb3 : b < 1000 := by omega
      clear hb0
      obtain ⟨t0, t1⟩ := cB_bd V1.out m (by rw [hlen.out]; omega)
      obtain ⟨T, hT⟩ : ∃ T, Hid (tot xs m = T) := ⟨_, rfl⟩
      obtain ⟨G, hG⟩ : ∃ G, Hid (frN xs (b + 1) = G) := ⟨_, rfl⟩
      have hq := V4.out
      rw [hT.out] at t0 t1 hq
      have hg1 : G ≤ F := by rw [← hG.out, frN_more V1.out v2 hb3, hlen.out, hT.out, ← hq]; exact ceil_mono t0 v2
      have hg2 : F = 0 ↔ T = 0 := by rw [← hq]; exact ceil_zero t0 v2
      have HG : Hid ((F == 0) = (T == 0)) := by show (F == 0) = (T == 0); rw [Bool.eq_iff_iff]; simpa using hg2
      clear hq hg2
      go_wp2_with (first
        | (go_at_call 16; ((with_reducible refine (iFramesNeeded_any A1 m c1 xs (b + 1) w2 ((L.out.rd.below B2.out).more B2.out.size) (by omega)).mono ?_); rintro e w3 ⟨rfl, hb3'⟩; rw [hG.out]; have B3 := Lib.hid hb3'; clear hb3'))
        | (go_at_call 27; ((with_reducible refine (lsum_any A1 m c1 xs _ w3 (((L.out.rd.below B2.out).more B2.out.size).below B3.out) (by omega) (L.out.all (by omega) (by omega))).mono ?_); rintro e w' ⟨rfl, rfl⟩; rw [hT.out])))
      all_goals go_ret
      all_goals exact ⟨ret_bool (by have h := HG.out; simp [h]), BB.out.trans (B3.out.mono BB.out.size)⟩
end Go.Proofs.Ytbodefholknneaa
