/- The law of valid flexible sizes: the walk. -/
import Derived.Test.YtlijbopcllanfaaFB
import Derived.Test.YtlijbopcllanfaaFG
namespace Go.Proofs.Ytlijbopcllanfaa
open Go.RowKit

theorem fx_take {zs : List Int} {m k : Nat} (h : k < m) : fx (zs.take (5 * m)) k = fx zs k := by
  have e : ∀ j, j < 5 → (zs.take (5 * m)).getD (5 * k + j) 0 = zs.getD (5 * k + j) 0 := fun j hj => by
    simp [List.getD_eq_getElem?_getD, show 5 * k + j < 5 * m by omega]
  have e0 := e 0 (by omega)
  simp only [Nat.add_zero] at e0
  unfold fx
  rw [e0, e 1 (by omega), e 2 (by omega), e 3 (by omega), e 4 (by omega)]
theorem fx_drop {zs : List Int} {k : Nat} : fx (zs.drop 5) k = fx zs (k + 1) := by
  have e : ∀ j, (zs.drop 5).getD (5 * k + j) 0 = zs.getD (5 * (k + 1) + j) 0 := fun j => by
    simp [List.getD_eq_getElem?_getD, show 5 + (5 * k + j) = 5 * (k + 1) + j by omega]
  have e0 := e 0
  simp only [Nat.add_zero] at e0
  unfold fx
  rw [e0, e 1, e 2, e 3, e 4]
theorem vF_take {zs : List Int} {n : Nat} (h : vF zs (n + 1) = true) (hn : 1 ≤ n) : vF (zs.take (5 * n)) n = true := by
  obtain ⟨⟨h1, h2⟩, h3⟩ := vF_iff.1 h
  exact vF_iff.2 ⟨⟨hn, by omega⟩, fun k hk => by rw [fx_take hk]; exact h3 k (by omega)⟩
theorem vF_drop {zs : List Int} {n : Nat} (h : vF zs (n + 1) = true) (hn : 1 ≤ n) : vF (zs.drop 5) n = true := by
  obtain ⟨⟨h1, h2⟩, h3⟩ := vF_iff.1 h
  exact vF_iff.2 ⟨⟨hn, by omega⟩, fun k hk => by rw [fx_drop]; exact h3 (k + 1) (by omega)⟩
set_option maxHeartbeats 4000000 in
theorem walkFnValidFlexes (A : Option Addr) (n c : Nat) (zs : List Int) (w : World) (h : IsRow .u8 w A n c zs) :
    Calls Try.prog 3 #[.slice A n c] w fun e w' => e = .returned (.bool true) ∧ Below w.heap.size w w' := by
  have H := Lib.hid h
  have hn : (n : Int) ≤ 9223372036854775807 := by obtain ⟨h1, h2, _⟩ := bytes_of_row h; unfold maxLen at h2; omega
  clear h
  by_cases hl : (1048576 : Int) < n
  · go_enter Try.func3, Try.ntmps3
    go_wp2
    go_ret
    exact ⟨rfl, Below.refl _ _⟩
  go_enter Try.func3, Try.ntmps3
  go_wp2_with fail
  refine (DrawValidFlexes_any _ _ _ _ _ H.out).mono ?_
  rintro e w1 ⟨A1, m, c1, zs, rfl, hL, hb1⟩
  have hm : m ≤ 9 := hL.1
  have hmc : (m : Int) ≤ (c1 : Int) := by have := hL.2.1; omega
  have hcm : (c1 : Int) ≤ 9223372036854775807 := by have := hL.2.2.1; unfold maxLen at this; omega
  have L := Lib.hid hL
  have B1 := Lib.hid hb1
  clear hL hb1
  have RD := Lib.hid L.out.2.2.2.2.rd
  obtain ⟨V, hV⟩ : ∃ V, Hid (vF zs m = V) := ⟨_, rfl⟩
  go_wp2_with fail
  refine (iValidFlexes_any A1 m c1 zs w1 RD.out (by omega)).mono ?_
  rintro e w2 ⟨rfl, hb⟩
  rw [hV.out]
  have B2 := Lib.hid hb
  have R2 := Lib.hid ((RD.out.below hb).more hb.size)
  clear hb
  go_wp2_with fail
  refine (sValidFlexes_any A1 m c1 zs w2 R2.out (by omega)).mono ?_
  rintro e w3 ⟨rfl, hb⟩
  rw [hV.out]
  have B3 := Lib.hid hb
  have R3 := Lib.hid ((R2.out.below hb).more hb.size)
  clear hb
  have BB := Lib.hid ((B1.out.trans (B2.out.mono B1.out.size)).trans (B3.out.mono (Nat.le_trans B1.out.size B2.out.size)))
  by_cases hc : V = true ∧ 2 ≤ m
  · obtain ⟨hv, hm2⟩ := hc
    subst hv
    have hd1 : decide (m < 2) = false := by simp; omega
    have hd2 : decide ((m : Int) < 2) = false := by simp; omega
    have HN : Hid (m = (m - 1) + 1) := by show m = _; omega
    have HT : Hid (vF (zs.take (5 * (m - 1))) (m - 1) = true) := vF_take (by rw [← HN.out]; exact hV.out) (by omega)
    have HD : Hid (vF (zs.drop 5) (m - 1) = true) := vF_drop (by rw [← HN.out]; exact hV.out) (by omega)
    have i1 : IntKind.i64.wrap ((m : Int) - 1) = (m : Int) - 1 := IntWalk.i64_in _ (by omega)
    have i2 : (0 : Int) ≤ (m : Int) - 1 := by omega
    have i3 : ((m : Int) - 1).toNat = m - 1 := by omega
    have i4 : (m : Int) - 1 ≤ (c1 : Int) := by omega
    have i5 : (1 : Int) ≤ (m : Int) := by omega
    go_wp2_with fail
    refine (iValidFlexes_any A1 (m - 1) c1 (zs.take (5 * (m - 1))) w3 (R3.out.take (by omega)) (by omega)).mono ?_
    rintro e w4 ⟨rfl, hb⟩
    rw [HT.out]
    have B4 := Lib.hid hb
    have R4 := Lib.hid ((R3.out.below hb).more hb.size)
    clear hb
    obtain ⟨b, off, rfl, _, _⟩ := R4.out.cell (by omega)
    have hcc : ¬ c1 = 1 := by omega
    have hcut := Rd.cut (n := 5 * m) (k := 5) (cap := 5 * c1) R4.out (by omega) (by omega)
    rw [if_neg (show ¬ 5 * c1 = 5 by omega), show 5 * m - 5 = 5 * (m - 1) by omega] at hcut
    have HC := Lib.hid hcut
    clear hcut
    go_wp2_with fail
    refine (iValidFlexes_any (some ⟨b, off + 5, none⟩) (m - 1) (c1 - 1) (zs.drop 5) w4 HC.out (by omega)).mono ?_
    rintro e w5 ⟨rfl, hb⟩
    rw [HD.out]
    have B5 := Lib.hid hb
    clear hb
    go_wp2
    go_ret
    exact ⟨rfl, (BB.out.trans (B4.out.mono BB.out.size)).trans (B5.out.mono (Nat.le_trans BB.out.size B4.out.size))⟩
  · have hsh : V = false ∨ (V = true ∧ decide (m < 2) = true ∧ decide ((m : Int) < 2) = true) := by
      cases V
      · exact .inl rfl
      · have h5 : ¬ 2 ≤ m := fun h => hc ⟨rfl, h⟩
        exact .inr ⟨rfl, by simp; omega, by simp; omega⟩
    clear hc
    rcases hsh with hv | ⟨hv, hd1, hd2⟩
    all_goals
      subst hv
      go_wp2_with fail
      refine (sValidFlexes_any A1 m c1 zs w3 R3.out (by omega)).mono ?_
      rintro e w4 ⟨rfl, hb⟩
      rw [hV.out]
      have B4 := Lib.hid hb
      clear hb
      go_wp2
      go_ret
      exact ⟨rfl, BB.out.trans (B4.out.mono BB.out.size)⟩
end Go.Proofs.Ytlijbopcllanfaa
