/- A box of another style, by the reference. -/
import Derived.Test.YtjaecgobgpfbdaaTU
namespace Go.Proofs.Ytjaecgobgpfbdaa
open Go.RowKit

set_option maxRecDepth 100000 in
set_option maxHeartbeats 4000000 in
theorem sStyleBox_any (A : Option Addr) (n c : Nat) (zs : List Int) (a x0 x1 x2 x3 x4 x5 x6 x7 x8 : Int) (w : World) (h : Rd w w.heap.size A (9 * n) zs) (hn : n ≤ 1500000) :
    Calls Try.prog 45 #[.slice A n c, .int .i64 a, .agg #[.int .i64 x0, .int .i64 x1, .int .i64 x2, .int .i64 x3, .int .i64 x4, .int .i64 x5, .int .i64 x6, .int .i64 x7, .int .i64 x8]] w (GotKB 9 w (stL zs n a x1 x2 x3 x4 x5 x6 x7 x8) (stO zs n a x1 x2 x3 x4 x5 x6 x7 x8)) := by
  have H := Lib.hid h
  clear h
  cases hv : vtB zs n
  · have HN := Lib.hid (stO_not (x1 := x1) (x2 := x2) (x3 := x3) (x4 := x4) (x5 := x5) (x6 := x6) (x7 := x7) (x8 := x8) (inT_no (a := a) hv))
    go_enter Try.func45, Try.ntmps45
    go_wp2_with (go_at_call 57; refine (svalidTree_any A n c zs _ ((H.out.alloc (Nat.le_refl _) _).more (by simp)) hn).mono ?_; rintro e w1 ⟨rfl, hb⟩; rw [hv]; have B1 := Lib.hid hb; clear hb)
    go_ret2
    rw [HN.out.1, HN.out.2]
    exact GotKB.nil (((Below.refl _ _).alloc (Nat.le_refl _) _).trans (B1.out.mono (by simp)))
  · obtain ⟨hi, hhi⟩ : ∃ hi, Hid ((n : Int) - 1 = hi) := ⟨_, Lib.hid rfl⟩
    have hwh : IntKind.i64.wrap ((n : Int) - 1) = hi := by rw [← hhi.out]; exact IntWalk.i64_in _ (by omega)
    cases hr : inB a 0 hi
    · have HN := Lib.hid (stO_not (x1 := x1) (x2 := x2) (x3 := x3) (x4 := x4) (x5 := x5) (x6 := x6) (x7 := x7) (x8 := x8) (inT_out (zs := zs) (n := n) (a := a) (by rw [hhi.out]; exact hr)))
      go_enter Try.func45, Try.ntmps45
      go_wp2_with (first
        | (go_at_call 57; refine (svalidTree_any A n c zs _ ((H.out.alloc (Nat.le_refl _) _).more (by simp)) hn).mono ?_; rintro e w1 ⟨rfl, hb⟩; rw [hv]; have B1 := Lib.hid hb; clear hb)
        | (go_at_call 49; ((with_reducible refine (inRange_any _ _ _ _).mono ?_); rintro e w' ⟨rfl, rfl⟩; rw [hr])))
      go_ret2
      rw [HN.out.1, HN.out.2]
      exact GotKB.nil (((Below.refl _ _).alloc (Nat.le_refl _) _).trans (B1.out.mono (by simp)))
    · have ht := inT_yes hv (by rw [hhi.out]; exact hr)
      obtain ⟨k, rfl, hk⟩ := inT_at ht
      obtain ⟨b, off, rfl, hb, _⟩ := H.out.cell (by omega)
      obtain ⟨p, hp⟩ : ∃ p, Hid (parB zs k = p) := ⟨_, Lib.hid rfl⟩
      have HN := Lib.hid (stO_at (x1 := x1) (x2 := x2) (x3 := x3) (x4 := x4) (x5 := x5) (x6 := x6) (x7 := x7) (x8 := x8) ht hp.out)
      have hkn : (k : Int) < (n : Int) := by omega
      have hk0 : (0 : Int) ≤ (k : Int) := by omega
      go_enter Try.func45, Try.ntmps45
      go_wp2_with fail
      refine (svalidTree_any _ n c zs _ ((H.out.alloc (Nat.le_refl _) _).more (by simp)) hn).mono ?_
      rintro e w1 ⟨rfl, hb1⟩
      rw [hv]
      have E1 := Lib.hid ((Bx9.made x0 x1 x2 x3 x4 x5 x6 x7 x8 _ (Below.refl w.heap.size w)).below hb1)
      have F1 : Hid (∀ j, j < 9 → w1.frozen? ⟨w.heap.size, j, none⟩ = false) := Lib.hid fun j _ => by
        rw [hb1.frozen (p := ⟨w.heap.size, j, none⟩) (by simp)]; simp [go_sem]
      have R1 := Lib.hid ((H.out.below E1.out.bl).more E1.out.bl.size)
      clear hb1 hv ht
      go_wp2_with fail
      ((with_reducible refine (inRange_any _ _ _ _).mono ?_); rintro e w' ⟨rfl, rfl⟩; rw [hr])
      go_wp2_with (at_builtin; refine wpList_allBox _ rfl _ _ rfl w1.heap.size _ _ _ rfl (Rk.empty w1 9 _ w1.heap.size (Nat.le_refl _)) w1.heap.size b off n c zs rfl (R1.out.alloc (Nat.le_refl _) _) (by omega) (by omega) ?_; intro v' w2 hown hg; simp only [Nat.zero_add, List.nil_append] at hown; obtain ⟨A2, c2, rfl, g1, g2, _, hW⟩ := hown.out; have W1 := Lib.hid (hW.low (Nat.succ_le_of_lt E1.out.lt)); have HG := Lib.hid (show Below w1.heap.size w1 w2 from ((Below.refl w1.heap.size w1).alloc (Nat.le_refl _) _).grown hg (by simp) (fun r e => (Rk.empty w1 9 54 w1.heap.size (Nat.le_refl _)).row r e)); obtain ⟨b2, o2, rfl, hl2, hb2, _⟩ := W1.out.2 (by omega); obtain ⟨_, _, ⟨d0, g0⟩, ⟨d1, g1'⟩, ⟨d2, g2'⟩, ⟨d3, g3⟩, ⟨d4, g4⟩, ⟨d5, g5⟩, ⟨d6, g6⟩, ⟨d7, g7⟩, ⟨d8, g8⟩⟩ := W1.out.at_9 hk; rw [show zs.getD (9 * k) 0 = p from hp.out] at d0; obtain ⟨u1, hu1⟩ : ∃ u, Hid (zs.getD (9 * k + 1) 0 = u) := ⟨_, Lib.hid rfl⟩; rw [hu1.out] at d1; obtain ⟨u2, hu2⟩ : ∃ u, Hid (zs.getD (9 * k + 2) 0 = u) := ⟨_, Lib.hid rfl⟩; rw [hu2.out] at d2; obtain ⟨u3, hu3⟩ : ∃ u, Hid (zs.getD (9 * k + 3) 0 = u) := ⟨_, Lib.hid rfl⟩; rw [hu3.out] at d3; obtain ⟨u4, hu4⟩ : ∃ u, Hid (zs.getD (9 * k + 4) 0 = u) := ⟨_, Lib.hid rfl⟩; rw [hu4.out] at d4; obtain ⟨u5, hu5⟩ : ∃ u, Hid (zs.getD (9 * k + 5) 0 = u) := ⟨_, Lib.hid rfl⟩; rw [hu5.out] at d5; obtain ⟨u6, hu6⟩ : ∃ u, Hid (zs.getD (9 * k + 6) 0 = u) := ⟨_, Lib.hid rfl⟩; rw [hu6.out] at d6; obtain ⟨u7, hu7⟩ : ∃ u, Hid (zs.getD (9 * k + 7) 0 = u) := ⟨_, Lib.hid rfl⟩; rw [hu7.out] at d7; obtain ⟨u8, hu8⟩ : ∃ u, Hid (zs.getD (9 * k + 8) 0 = u) := ⟨_, Lib.hid rfl⟩; rw [hu8.out] at d8; have e0 := (E1.out.below HG.out).c0; have e1 := (E1.out.below HG.out).c1; have e2 := (E1.out.below HG.out).c2; have e3 := (E1.out.below HG.out).c3; have e4 := (E1.out.below HG.out).c4; have e5 := (E1.out.below HG.out).c5; have e6 := (E1.out.below HG.out).c6; have e7 := (E1.out.below HG.out).c7; have e8 := (E1.out.below HG.out).c8; have f0 := (HG.out.frozen (p := ⟨w.heap.size, 0, none⟩) E1.out.lt).trans (F1.out 0 (by omega)); have Q2 := Lib.hid g1; have hne : ¬ w.heap.size = b2 := (by omega); have hne' : ¬ b2 = w.heap.size := (by omega); clear hown hg hW g2 g1)
      have E3 := Lib.hid ((E1.out.below HG.out).setPar (Nat.le_refl _) p)
      have W3 := Lib.hid (ysB_mk zs n k p x1 x2 x3 x4 x5 x6 x7 x8 (Wr.keep W1.out (w' := w2.setCell ⟨w.heap.size, 0, none⟩ (.int .i64 p)) (by simp [World.setCell]) fun b h1 _ => Below.heap_setCell w2 _ _ b (by show ¬ b = w.heap.size; omega)) hk)
      have B3 := Lib.hid (bl_set9 (off := o2) (k := k) E3.out.bl (show w.heap.size ≤ b2 by omega) (.int .i64 p) (.int .i64 x1) (.int .i64 x2) (.int .i64 x3) (.int .i64 x4) (.int .i64 x5) (.int .i64 x6) (.int .i64 x7) (.int .i64 x8))
      clear e0 e1 e2 e3 e4 e5 e6 e7 e8 d0 f0 d1 d2 d3 d4 d5 d6 d7 d8 g0 g1' g2' g3 g4 g5 g6 g7 g8 E1 F1
      refine (svalidTree_any _ n c2 _ _ W3.out.rd hn).mono ?_
      rintro e w4 ⟨rfl, hb4⟩
      have W4 := Lib.hid (W3.out.below hb4)
      have B4 := Lib.hid (B3.out.trans (hb4.mono B3.out.size))
      clear hb4 W3 B3 E3
      have HN2 := Lib.hid HN.out
      obtain ⟨v, hv⟩ : ∃ v, Hid (vtB (ysB zs n k p x1 x2 x3 x4 x5 x6 x7 x8) n = v) := ⟨_, Lib.hid rfl⟩
      rw [hv.out]
      rw [hv.out] at HN2
      clear HN
      cases v
      · go_wp2
        go_ret2
        rw [HN2.out.1, HN2.out.2]
        exact GotKB.nil B4.out
      · go_wp2
        go_ret2
        rw [HN2.out.1, HN2.out.2]
        exact ⟨_, n, c2, rfl, Q2.out, W4.out.low (by omega), B4.out⟩
end Go.Proofs.Ytjaecgobgpfbdaa
