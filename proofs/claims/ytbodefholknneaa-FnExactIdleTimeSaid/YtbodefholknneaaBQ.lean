/- The exact laws of frames: the walks. -/
import Derived.Test.YtbodefholknneaaBO
namespace Go.Proofs.Ytbodefholknneaa
open Go.RowKit

theorem isRow_len {k : IntKind} {w : World} {a : Option Addr} {len cap : Nat} {zs : List Int} (h : IsRow k w a len cap zs) : (len : Int) ≤ 9223372036854775807 := by
  rcases h with ⟨_, rfl, _⟩ | ⟨x, _, hl, hm, _⟩
  · omega
  · unfold maxLen at hm; omega
theorem belowOf {w w' : World} (h : w = w') : Below w.heap.size w w' := by subst h; exact Below.refl _ _
theorem Wr.grown2 {w w' : World} {lo hi n : Nat} {A : Option Addr} {zs : List Int} {row : Option Nat} (h : Wr w lo A n zs) (hh : ∀ b off, A = some ⟨b, off, none⟩ → 0 < n → b < hi) (hg : w.grownBy w' row) (hr : ∀ g, row = some g → g < lo ∨ hi ≤ g) : Wr w' lo A n zs :=
  ⟨h.1, fun hn => by
    obtain ⟨b, off, e, hl, hb, hc⟩ := h.2 hn
    have hb2 := hh b off e hn
    have hk := hg.block b hb (fun e => by have := hr b e.symm; omega)
    exact ⟨b, off, e, hl, Nat.lt_of_lt_of_le hb hg.size, fun i hi => ⟨(World.cell?_of_block hk).trans (hc i hi).1, (World.frozen?_of_block hk).trans (hc i hi).2⟩⟩⟩
theorem wkL_len (zs ys : List Int) : (wkL zs ys).length ≤ zs.length := by unfold wkL; split <;> simp [workList_len]
theorem fiL_len (zs ys : List Int) : (fiL zs ys).length ≤ zs.length := by unfold fiL; split <;> simp [finList_len]
set_option maxHeartbeats 4000000 in
theorem walkFnExactFramesNeeded (A0 : Option Addr) (n0 c0 : Nat) (z0 : List Int) (a1 : Int) (w : World) (h0 : IsRow .i64 w A0 n0 c0 z0) (_ : (Lit.int .i64 a1).wf = true) :
    Calls Try.prog 3 #[.slice A0 n0 c0, .int .i64 a1] w fun e w' => e = .returned (.bool true) ∧ Below w.heap.size w w' := by
  obtain ⟨y0, hy0⟩ : ∃ y, y = z0.take n0 := ⟨_, rfl⟩
  have hr0 := Rd.of_row h0
  rw [← hy0] at hr0
  have R0 := Lib.hid hr0
  have hm0 : (n0 : Int) ≤ 9223372036854775807 := isRow_len h0
  clear h0 hy0 hr0
  by_cases hl0 : (1048576 : Int) < n0
  · go_enter Try.func3, Try.ntmps3
    go_wp2
    go_ret
    exact ⟨rfl, Below.refl _ _⟩
  have hn0 : n0 ≤ 2000000 := by omega
  have BB0 := Lib.hid (Below.refl w.heap.size w)
  go_enter Try.func3, Try.ntmps3
  go_wp2_with fail
  refine (toIntS_any A0 n0 c0 y0 _ ((R0.out.below BB0.out).more BB0.out.size) hn0).mono ?_
  rintro e w1 ⟨Ax1, cx1, rfl, kx1, mx1, hw, hb⟩
  have Sx1_1 := Lib.hid hw
  have kx1' := Lib.hid kx1
  have mx1' := Lib.hid mx1
  have Hx1 := Lib.hid hw.hi
  clear hw kx1 mx1
  have BB1 := Lib.hid (BB0.out.trans (hb.mono BB0.out.size))
  have ZW1 := Lib.hid hb.size
  clear hb
  go_wp2_with fail
  refine (sFramesNeeded_any Ax1 n0 cx1 y0 a1 _ _ Sx1_1.out.rd hn0).mono ?_
  rintro e w2 ⟨rfl, hb⟩
  try have hb := belowOf hb
  have BB2 := Lib.hid (BB1.out.trans (hb.mono BB1.out.size))
  have Sx1_2 := Lib.hid (Sx1_1.out.below hb)
  have ZW2 := Lib.hid hb.size
  clear hb
  clear Sx1_2
  go_wp2_with fail
  refine (toIntS_any A0 n0 c0 y0 _ ((R0.out.below BB2.out).more BB2.out.size) hn0).mono ?_
  rintro e w3 ⟨Ax3, cx3, rfl, kx3, mx3, hw, hb⟩
  have Sx3_3 := Lib.hid hw
  have kx3' := Lib.hid kx3
  have mx3' := Lib.hid mx3
  have Hx3 := Lib.hid hw.hi
  clear hw kx3 mx3
  have BB3 := Lib.hid (BB2.out.trans (hb.mono BB2.out.size))
  have ZW3 := Lib.hid hb.size
  clear hb
  go_wp2_with fail
  refine (iFramesNeeded_any Ax3 n0 cx3 y0 a1 _ Sx3_3.out.rd hn0).mono ?_
  rintro e w4 ⟨rfl, hb⟩
  try have hb := belowOf hb
  have BB4 := Lib.hid (BB3.out.trans (hb.mono BB3.out.size))
  have Sx3_4 := Lib.hid (Sx3_3.out.below hb)
  have ZW4 := Lib.hid hb.size
  clear hb
  go_wp2_with fail
  refine (toIntS_any A0 n0 c0 y0 _ ((R0.out.below BB4.out).more BB4.out.size) hn0).mono ?_
  rintro e w5 ⟨Ax5, cx5, rfl, kx5, mx5, hw, hb⟩
  have Sx5_5 := Lib.hid hw
  have kx5' := Lib.hid kx5
  have mx5' := Lib.hid mx5
  have Hx5 := Lib.hid hw.hi
  clear hw kx5 mx5
  have BB5 := Lib.hid (BB4.out.trans (hb.mono BB4.out.size))
  have Sx3_5 := Lib.hid (Sx3_4.out.below hb)
  have ZW5 := Lib.hid hb.size
  clear hb
  go_wp2_with fail
  refine (eqIntS_any Ax3 Ax5 n0 cx3 cx5 y0 _ _ _ Sx3_5.out.rd Sx5_5.out.rd (by omega)).mono ?_
  rintro e w6 ⟨rfl, hb⟩
  have BB6 := Lib.hid (BB5.out.trans (hb.mono BB5.out.size))
  have Sx3_6 := Lib.hid (Sx3_5.out.below hb)
  have Sx5_6 := Lib.hid (Sx5_5.out.below hb)
  have ZW6 := Lib.hid hb.size
  clear hb
  clear Sx5_6
  go_wp2
  go_ret
  exact ⟨rfl, BB6.out⟩
set_option maxHeartbeats 4000000 in
theorem walkFnExactIdleTime (A0 : Option Addr) (n0 c0 : Nat) (z0 : List Int) (A1 : Option Addr) (n1 c1 : Nat) (z1 : List Int) (w : World) (h0 : IsRow .i64 w A0 n0 c0 z0) (h1 : IsRow .i64 w A1 n1 c1 z1) :
    Calls Try.prog 4 #[.slice A0 n0 c0, .slice A1 n1 c1] w fun e w' => e = .returned (.bool true) ∧ Below w.heap.size w w' := by
  obtain ⟨y0, hy0⟩ : ∃ y, y = z0.take n0 := ⟨_, rfl⟩
  have hr0 := Rd.of_row h0
  rw [← hy0] at hr0
  have R0 := Lib.hid hr0
  have hm0 : (n0 : Int) ≤ 9223372036854775807 := isRow_len h0
  clear h0 hy0 hr0
  obtain ⟨y1, hy1⟩ : ∃ y, y = z1.take n1 := ⟨_, rfl⟩
  have hr1 := Rd.of_row h1
  rw [← hy1] at hr1
  have R1 := Lib.hid hr1
  have hm1 : (n1 : Int) ≤ 9223372036854775807 := isRow_len h1
  clear h1 hy1 hr1
  by_cases hl0 : (1048576 : Int) < n0
  · go_enter Try.func4, Try.ntmps4
    go_wp2
    go_ret
    exact ⟨rfl, Below.refl _ _⟩
  by_cases hl1 : (1048576 : Int) < n1
  · go_enter Try.func4, Try.ntmps4
    go_wp2
    go_ret
    exact ⟨rfl, Below.refl _ _⟩
  have hn0 : n0 ≤ 2000000 := by omega
  have hn1 : n1 ≤ 2000000 := by omega
  have BB0 := Lib.hid (Below.refl w.heap.size w)
  go_enter Try.func4, Try.ntmps4
  go_wp2_with fail
  refine (toIntS_any A0 n0 c0 y0 _ ((R0.out.below BB0.out).more BB0.out.size) hn0).mono ?_
  rintro e w1 ⟨Ax1, cx1, rfl, kx1, mx1, hw, hb⟩
  have Sx1_1 := Lib.hid hw
  have kx1' := Lib.hid kx1
  have mx1' := Lib.hid mx1
  have Hx1 := Lib.hid hw.hi
  clear hw kx1 mx1
  have BB1 := Lib.hid (BB0.out.trans (hb.mono BB0.out.size))
  have ZW1 := Lib.hid hb.size
  clear hb
  go_wp2_with fail
  refine (toIntS_any A1 n1 c1 y1 _ ((R1.out.below BB1.out).more BB1.out.size) hn1).mono ?_
  rintro e w2 ⟨Ax2, cx2, rfl, kx2, mx2, hw, hb⟩
  have Sx2_2 := Lib.hid hw
  have kx2' := Lib.hid kx2
  have mx2' := Lib.hid mx2
  have Hx2 := Lib.hid hw.hi
  clear hw kx2 mx2
  have BB2 := Lib.hid (BB1.out.trans (hb.mono BB1.out.size))
  have Sx1_2 := Lib.hid (Sx1_1.out.below hb)
  have ZW2 := Lib.hid hb.size
  clear hb
  go_wp2_with fail
  refine (sIdleTime_any Ax1 Ax2 n0 cx1 n1 cx2 y0 y1 _ _ _ Sx1_2.out.rd Sx2_2.out.rd hn0 hn1).mono ?_
  rintro e w3 ⟨rfl, hb⟩
  try have hb := belowOf hb
  have BB3 := Lib.hid (BB2.out.trans (hb.mono BB2.out.size))
  have Sx1_3 := Lib.hid (Sx1_2.out.below hb)
  have Sx2_3 := Lib.hid (Sx2_2.out.below hb)
  have ZW3 := Lib.hid hb.size
  clear hb
  clear Sx1_3
  clear Sx2_3
  go_wp2_with fail
  refine (toIntS_any A0 n0 c0 y0 _ ((R0.out.below BB3.out).more BB3.out.size) hn0).mono ?_
  rintro e w4 ⟨Ax4, cx4, rfl, kx4, mx4, hw, hb⟩
  have Sx4_4 := Lib.hid hw
  have kx4' := Lib.hid kx4
  have mx4' := Lib.hid mx4
  have Hx4 := Lib.hid hw.hi
  clear hw kx4 mx4
  have BB4 := Lib.hid (BB3.out.trans (hb.mono BB3.out.size))
  have ZW4 := Lib.hid hb.size
  clear hb
  go_wp2_with fail
  refine (toIntS_any A1 n1 c1 y1 _ ((R1.out.below BB4.out).more BB4.out.size) hn1).mono ?_
  rintro e w5 ⟨Ax5, cx5, rfl, kx5, mx5, hw, hb⟩
  have Sx5_5 := Lib.hid hw
  have kx5' := Lib.hid kx5
  have mx5' := Lib.hid mx5
  have Hx5 := Lib.hid hw.hi
  clear hw kx5 mx5
  have BB5 := Lib.hid (BB4.out.trans (hb.mono BB4.out.size))
  have Sx4_5 := Lib.hid (Sx4_4.out.below hb)
  have ZW5 := Lib.hid hb.size
  clear hb
  go_wp2_with fail
  refine (iIdleTime_any Ax4 Ax5 n0 cx4 n1 cx5 y0 y1 _ Sx4_5.out.rd Sx5_5.out.rd hn0 hn1).mono ?_
  rintro e w6 ⟨rfl, hb⟩
  try have hb := belowOf hb
  have BB6 := Lib.hid (BB5.out.trans (hb.mono BB5.out.size))
  have Sx4_6 := Lib.hid (Sx4_5.out.below hb)
  have Sx5_6 := Lib.hid (Sx5_5.out.below hb)
  have ZW6 := Lib.hid hb.size
  clear hb
  go_wp2_with fail
  refine (toIntS_any A0 n0 c0 y0 _ ((R0.out.below BB6.out).more BB6.out.size) hn0).mono ?_
  rintro e w7 ⟨Ax7, cx7, rfl, kx7, mx7, hw, hb⟩
  have Sx7_7 := Lib.hid hw
  have kx7' := Lib.hid kx7
  have mx7' := Lib.hid mx7
  have Hx7 := Lib.hid hw.hi
  clear hw kx7 mx7
  have BB7 := Lib.hid (BB6.out.trans (hb.mono BB6.out.size))
  have Sx4_7 := Lib.hid (Sx4_6.out.below hb)
  have Sx5_7 := Lib.hid (Sx5_6.out.below hb)
  have ZW7 := Lib.hid hb.size
  clear hb
  go_wp2_with fail
  refine (eqIntS_any Ax4 Ax7 n0 cx4 cx7 y0 _ _ _ Sx4_7.out.rd Sx7_7.out.rd (by omega)).mono ?_
  rintro e w8 ⟨rfl, hb⟩
  have BB8 := Lib.hid (BB7.out.trans (hb.mono BB7.out.size))
  have Sx4_8 := Lib.hid (Sx4_7.out.below hb)
  have Sx5_8 := Lib.hid (Sx5_7.out.below hb)
  have Sx7_8 := Lib.hid (Sx7_7.out.below hb)
  have ZW8 := Lib.hid hb.size
  clear hb
  clear Sx7_8
  go_wp2_with fail
  refine (toIntS_any A1 n1 c1 y1 _ ((R1.out.below BB8.out).more BB8.out.size) hn1).mono ?_
  rintro e w9 ⟨Ax9, cx9, rfl, kx9, mx9, hw, hb⟩
  have Sx9_9 := Lib.hid hw
  have kx9' := Lib.hid kx9
  have mx9' := Lib.hid mx9
  have Hx9 := Lib.hid hw.hi
  clear hw kx9 mx9
  have BB9 := Lib.hid (BB8.out.trans (hb.mono BB8.out.size))
  have Sx4_9 := Lib.hid (Sx4_8.out.below hb)
  have Sx5_9 := Lib.hid (Sx5_8.out.below hb)
  have ZW9 := Lib.hid hb.size
  clear hb
  go_wp2_with fail
  refine (eqIntS_any Ax5 Ax9 n1 cx5 cx9 y1 _ _ _ Sx5_9.out.rd Sx9_9.out.rd (by omega)).mono ?_
  rintro e w10 ⟨rfl, hb⟩
  have BB10 := Lib.hid (BB9.out.trans (hb.mono BB9.out.size))
  have Sx4_10 := Lib.hid (Sx4_9.out.below hb)
  have Sx5_10 := Lib.hid (Sx5_9.out.below hb)
  have Sx9_10 := Lib.hid (Sx9_9.out.below hb)
  have ZW10 := Lib.hid hb.size
  clear hb
  clear Sx9_10
  go_wp2
  go_ret
  exact ⟨rfl, BB10.out⟩
set_option maxHeartbeats 4000000 in
theorem walkFnExactWorkLeft (A0 : Option Addr) (n0 c0 : Nat) (z0 : List Int) (A1 : Option Addr) (n1 c1 : Nat) (z1 : List Int) (w : World) (h0 : IsRow .i64 w A0 n0 c0 z0) (h1 : IsRow .i64 w A1 n1 c1 z1) :
    Calls Try.prog 5 #[.slice A0 n0 c0, .slice A1 n1 c1] w fun e w' => e = .returned (.bool true) ∧ Below w.heap.size w w' := by
  obtain ⟨y0, hy0⟩ : ∃ y, y = z0.take n0 := ⟨_, rfl⟩
  have hr0 := Rd.of_row h0
  rw [← hy0] at hr0
  have R0 := Lib.hid hr0
  have hm0 : (n0 : Int) ≤ 9223372036854775807 := isRow_len h0
  clear h0 hy0 hr0
  obtain ⟨y1, hy1⟩ : ∃ y, y = z1.take n1 := ⟨_, rfl⟩
  have hr1 := Rd.of_row h1
  rw [← hy1] at hr1
  have R1 := Lib.hid hr1
  have hm1 : (n1 : Int) ≤ 9223372036854775807 := isRow_len h1
  clear h1 hy1 hr1
  by_cases hl0 : (1048576 : Int) < n0
  · go_enter Try.func5, Try.ntmps5
    go_wp2
    go_ret
    exact ⟨rfl, Below.refl _ _⟩
  by_cases hl1 : (1048576 : Int) < n1
  · go_enter Try.func5, Try.ntmps5
    go_wp2
    go_ret
    exact ⟨rfl, Below.refl _ _⟩
  have hn0 : n0 ≤ 2000000 := by omega
  have hn1 : n1 ≤ 2000000 := by omega
  have BB0 := Lib.hid (Below.refl w.heap.size w)
  obtain ⟨N, hN⟩ : ∃ N, Hid (((wkL y0 y1)).length = N) := ⟨_, rfl⟩
  have hN1 : N ≤ 1100000 := by rw [← hN.out]; have hq := wkL_len y0 y1; have hy := R0.out.1; omega
  go_enter Try.func5, Try.ntmps5
  go_wp2_with fail
  refine (toIntS_any A0 n0 c0 y0 _ ((R0.out.below BB0.out).more BB0.out.size) hn0).mono ?_
  rintro e w1 ⟨Ax1, cx1, rfl, kx1, mx1, hw, hb⟩
  have Sx1_1 := Lib.hid hw
  have kx1' := Lib.hid kx1
  have mx1' := Lib.hid mx1
  have Hx1 := Lib.hid hw.hi
  clear hw kx1 mx1
  have BB1 := Lib.hid (BB0.out.trans (hb.mono BB0.out.size))
  have ZW1 := Lib.hid hb.size
  clear hb
  go_wp2_with fail
  refine (toIntS_any A1 n1 c1 y1 _ ((R1.out.below BB1.out).more BB1.out.size) hn1).mono ?_
  rintro e w2 ⟨Ax2, cx2, rfl, kx2, mx2, hw, hb⟩
  have Sx2_2 := Lib.hid hw
  have kx2' := Lib.hid kx2
  have mx2' := Lib.hid mx2
  have Hx2 := Lib.hid hw.hi
  clear hw kx2 mx2
  have BB2 := Lib.hid (BB1.out.trans (hb.mono BB1.out.size))
  have Sx1_2 := Lib.hid (Sx1_1.out.below hb)
  have ZW2 := Lib.hid hb.size
  clear hb
  go_wp2_with fail
  refine (sWorkLeft_any Ax1 Ax2 n0 cx1 n1 cx2 y0 y1 _ Sx1_2.out.rd Sx2_2.out.rd hn0 hn1).mono ?_
  rintro e w3 ⟨Ag3, ng3, cg3, rfl, kk, hw, hb⟩
  have eg3 : N = ng3 := hN.out.symm.trans hw.1
  subst eg3
  have Sg3_3 := Lib.hid hw
  have Hg3 := Lib.hid hw.hi
  have kg3' := Lib.hid kk
  clear hw kk
  have BB3 := Lib.hid (BB2.out.trans (hb.mono BB2.out.size))
  have Sx1_3 := Lib.hid (Sx1_2.out.below hb)
  have Sx2_3 := Lib.hid (Sx2_2.out.below hb)
  have ZW3 := Lib.hid hb.size
  clear hb
  clear Sx1_3
  clear Sx2_3
  go_wp2_with fail
  refine (toIntS_any A0 n0 c0 y0 _ ((R0.out.below BB3.out).more BB3.out.size) hn0).mono ?_
  rintro e w4 ⟨Ax4, cx4, rfl, kx4, mx4, hw, hb⟩
  have Sx4_4 := Lib.hid hw
  have kx4' := Lib.hid kx4
  have mx4' := Lib.hid mx4
  have Hx4 := Lib.hid hw.hi
  clear hw kx4 mx4
  have BB4 := Lib.hid (BB3.out.trans (hb.mono BB3.out.size))
  have Sg3_4 := Lib.hid (Sg3_3.out.below hb)
  have ZW4 := Lib.hid hb.size
  clear hb
  go_wp2_with fail
  refine (toIntS_any A1 n1 c1 y1 _ ((R1.out.below BB4.out).more BB4.out.size) hn1).mono ?_
  rintro e w5 ⟨Ax5, cx5, rfl, kx5, mx5, hw, hb⟩
  have Sx5_5 := Lib.hid hw
  have kx5' := Lib.hid kx5
  have mx5' := Lib.hid mx5
  have Hx5 := Lib.hid hw.hi
  clear hw kx5 mx5
  have BB5 := Lib.hid (BB4.out.trans (hb.mono BB4.out.size))
  have Sg3_5 := Lib.hid (Sg3_4.out.below hb)
  have Sx4_5 := Lib.hid (Sx4_4.out.below hb)
  have ZW5 := Lib.hid hb.size
  clear hb
  go_wp2_with fail
  refine (iWorkLeft_any Ax4 Ax5 n0 cx4 n1 cx5 y0 y1 _ Sx4_5.out.rd Sx5_5.out.rd hn0 hn1).mono ?_
  rintro e w6 ⟨Ag6, ng6, cg6, rfl, kk, hw, hb⟩
  have eg6 : N = ng6 := hN.out.symm.trans hw.1
  subst eg6
  have Sg6_6 := Lib.hid hw
  have Hg6 := Lib.hid hw.hi
  have kg6' := Lib.hid kk
  clear hw kk
  have BB6 := Lib.hid (BB5.out.trans (hb.mono BB5.out.size))
  have Sg3_6 := Lib.hid (Sg3_5.out.below hb)
  have Sx4_6 := Lib.hid (Sx4_5.out.below hb)
  have Sx5_6 := Lib.hid (Sx5_5.out.below hb)
  have ZW6 := Lib.hid hb.size
  clear hb
  go_wp2_with fail
  refine (eqIntS_any Ag6 Ag3 N cg6 cg3 (wkL y0 y1) _ _ _ Sg6_6.out.rd Sg3_6.out.rd (by omega)).mono ?_
  rintro e w7 ⟨rfl, hb⟩
  have BB7 := Lib.hid (BB6.out.trans (hb.mono BB6.out.size))
  have Sg3_7 := Lib.hid (Sg3_6.out.below hb)
  have Sx4_7 := Lib.hid (Sx4_6.out.below hb)
  have Sx5_7 := Lib.hid (Sx5_6.out.below hb)
  have Sg6_7 := Lib.hid (Sg6_6.out.below hb)
  have ZW7 := Lib.hid hb.size
  clear hb
  go_wp2_with fail
  refine (toIntS_any A0 n0 c0 y0 _ ((R0.out.below BB7.out).more BB7.out.size) hn0).mono ?_
  rintro e w8 ⟨Ax8, cx8, rfl, kx8, mx8, hw, hb⟩
  have Sx8_8 := Lib.hid hw
  have kx8' := Lib.hid kx8
  have mx8' := Lib.hid mx8
  have Hx8 := Lib.hid hw.hi
  clear hw kx8 mx8
  have BB8 := Lib.hid (BB7.out.trans (hb.mono BB7.out.size))
  have Sg3_8 := Lib.hid (Sg3_7.out.below hb)
  have Sx4_8 := Lib.hid (Sx4_7.out.below hb)
  have Sx5_8 := Lib.hid (Sx5_7.out.below hb)
  have Sg6_8 := Lib.hid (Sg6_7.out.below hb)
  have ZW8 := Lib.hid hb.size
  clear hb
  go_wp2_with fail
  refine (eqIntS_any Ax4 Ax8 n0 cx4 cx8 y0 _ _ _ Sx4_8.out.rd Sx8_8.out.rd (by omega)).mono ?_
  rintro e w9 ⟨rfl, hb⟩
  have BB9 := Lib.hid (BB8.out.trans (hb.mono BB8.out.size))
  have Sg3_9 := Lib.hid (Sg3_8.out.below hb)
  have Sx4_9 := Lib.hid (Sx4_8.out.below hb)
  have Sx5_9 := Lib.hid (Sx5_8.out.below hb)
  have Sg6_9 := Lib.hid (Sg6_8.out.below hb)
  have Sx8_9 := Lib.hid (Sx8_8.out.below hb)
  have ZW9 := Lib.hid hb.size
  clear hb
  clear Sx8_9
  go_wp2_with fail
  refine (toIntS_any A1 n1 c1 y1 _ ((R1.out.below BB9.out).more BB9.out.size) hn1).mono ?_
  rintro e w10 ⟨Ax10, cx10, rfl, kx10, mx10, hw, hb⟩
  have Sx10_10 := Lib.hid hw
  have kx10' := Lib.hid kx10
  have mx10' := Lib.hid mx10
  have Hx10 := Lib.hid hw.hi
  clear hw kx10 mx10
  have BB10 := Lib.hid (BB9.out.trans (hb.mono BB9.out.size))
  have Sg3_10 := Lib.hid (Sg3_9.out.below hb)
  have Sx4_10 := Lib.hid (Sx4_9.out.below hb)
  have Sx5_10 := Lib.hid (Sx5_9.out.below hb)
  have Sg6_10 := Lib.hid (Sg6_9.out.below hb)
  have ZW10 := Lib.hid hb.size
  clear hb
  go_wp2_with fail
  refine (eqIntS_any Ax5 Ax10 n1 cx5 cx10 y1 _ _ _ Sx5_10.out.rd Sx10_10.out.rd (by omega)).mono ?_
  rintro e w11 ⟨rfl, hb⟩
  have BB11 := Lib.hid (BB10.out.trans (hb.mono BB10.out.size))
  have Sg3_11 := Lib.hid (Sg3_10.out.below hb)
  have Sx4_11 := Lib.hid (Sx4_10.out.below hb)
  have Sx5_11 := Lib.hid (Sx5_10.out.below hb)
  have Sg6_11 := Lib.hid (Sg6_10.out.below hb)
  have Sx10_11 := Lib.hid (Sx10_10.out.below hb)
  have ZW11 := Lib.hid hb.size
  clear hb
  clear Sx10_11
  go_wp2_with fail
  refine (markIntS_any Ax4 n0 cx4 y0 1 w3.heap.size w4.heap.size _ Sx4_11.out (by omega) (by omega) (by omega) Hx4.out).mono ?_
  rintro e w12 ⟨row, rfl, hw, hrow, hg⟩
  have BB12 := Lib.hid (bl_gb BB11.out hg BB11.out.size (fun g e => by have h1 := (hrow g e).1; have z0 := ZW1.out; have z1 := ZW2.out; have z2 := ZW3.out; have z3 := ZW4.out; have z4 := ZW5.out; have z5 := ZW6.out; have z6 := ZW7.out; have z7 := ZW8.out; have z8 := ZW9.out; have z9 := ZW10.out; have z10 := ZW11.out; omega))
  have ZW12 := Lib.hid hg.size
  have Sg3_12 := Lib.hid (Sg3_11.out.grown2 Hg3.out hg (fun g e => by have h1 := (hrow g e).1; have h2 := (hrow g e).2; have z0 := ZW1.out; have z1 := ZW2.out; have z2 := ZW3.out; have z3 := ZW4.out; have z4 := ZW5.out; have z5 := ZW6.out; have z6 := ZW7.out; have z7 := ZW8.out; have z8 := ZW9.out; have z9 := ZW10.out; have z10 := ZW11.out; omega))
  have Sx5_12 := Lib.hid (Sx5_11.out.grown2 Hx5.out hg (fun g e => by have h1 := (hrow g e).1; have h2 := (hrow g e).2; have z0 := ZW1.out; have z1 := ZW2.out; have z2 := ZW3.out; have z3 := ZW4.out; have z4 := ZW5.out; have z5 := ZW6.out; have z6 := ZW7.out; have z7 := ZW8.out; have z8 := ZW9.out; have z9 := ZW10.out; have z10 := ZW11.out; omega))
  have Sg6_12 := Lib.hid (Sg6_11.out.grown2 Hg6.out hg (fun g e => by have h1 := (hrow g e).1; have h2 := (hrow g e).2; have z0 := ZW1.out; have z1 := ZW2.out; have z2 := ZW3.out; have z3 := ZW4.out; have z4 := ZW5.out; have z5 := ZW6.out; have z6 := ZW7.out; have z7 := ZW8.out; have z8 := ZW9.out; have z9 := ZW10.out; have z10 := ZW11.out; omega))
  have Sx4_12 := Lib.hid hw
  clear hw hg hrow
  go_wp2_with fail
  refine (markIntS_any Ax5 n1 cx5 y1 (1 + (n0 : Int)) w4.heap.size w5.heap.size _ Sx5_12.out (by omega) (by omega) (by omega) Hx5.out).mono ?_
  rintro e w13 ⟨row, rfl, hw, hrow, hg⟩
  have BB13 := Lib.hid (bl_gb BB12.out hg BB12.out.size (fun g e => by have h1 := (hrow g e).1; have z0 := ZW1.out; have z1 := ZW2.out; have z2 := ZW3.out; have z3 := ZW4.out; have z4 := ZW5.out; have z5 := ZW6.out; have z6 := ZW7.out; have z7 := ZW8.out; have z8 := ZW9.out; have z9 := ZW10.out; have z10 := ZW11.out; have z11 := ZW12.out; omega))
  have ZW13 := Lib.hid hg.size
  have Sg3_13 := Lib.hid (Sg3_12.out.grown2 Hg3.out hg (fun g e => by have h1 := (hrow g e).1; have h2 := (hrow g e).2; have z0 := ZW1.out; have z1 := ZW2.out; have z2 := ZW3.out; have z3 := ZW4.out; have z4 := ZW5.out; have z5 := ZW6.out; have z6 := ZW7.out; have z7 := ZW8.out; have z8 := ZW9.out; have z9 := ZW10.out; have z10 := ZW11.out; have z11 := ZW12.out; omega))
  have Sx4_13 := Lib.hid (Sx4_12.out.grown2 Hx4.out hg (fun g e => by have h1 := (hrow g e).1; have h2 := (hrow g e).2; have z0 := ZW1.out; have z1 := ZW2.out; have z2 := ZW3.out; have z3 := ZW4.out; have z4 := ZW5.out; have z5 := ZW6.out; have z6 := ZW7.out; have z7 := ZW8.out; have z8 := ZW9.out; have z9 := ZW10.out; have z10 := ZW11.out; have z11 := ZW12.out; omega))
  have Sg6_13 := Lib.hid (Sg6_12.out.grown2 Hg6.out hg (fun g e => by have h1 := (hrow g e).1; have h2 := (hrow g e).2; have z0 := ZW1.out; have z1 := ZW2.out; have z2 := ZW3.out; have z3 := ZW4.out; have z4 := ZW5.out; have z5 := ZW6.out; have z6 := ZW7.out; have z7 := ZW8.out; have z8 := ZW9.out; have z9 := ZW10.out; have z10 := ZW11.out; have z11 := ZW12.out; omega))
  have Sx5_13 := Lib.hid hw
  clear hw hg hrow
  go_wp2_with fail
  refine (eqIntS_any Ag6 Ag3 N cg6 cg3 (wkL y0 y1) _ _ _ Sg6_13.out.rd Sg3_13.out.rd (by omega)).mono ?_
  rintro e w14 ⟨rfl, hb⟩
  have BB14 := Lib.hid (BB13.out.trans (hb.mono BB13.out.size))
  have Sg3_14 := Lib.hid (Sg3_13.out.below hb)
  have Sx4_14 := Lib.hid (Sx4_13.out.below hb)
  have Sx5_14 := Lib.hid (Sx5_13.out.below hb)
  have Sg6_14 := Lib.hid (Sg6_13.out.below hb)
  have ZW14 := Lib.hid hb.size
  clear hb
  clear Sx4_14
  clear Sx5_14
  go_wp2_with fail
  refine (markIntS_any Ag6 N cg6 (wkL y0 y1) 1 w5.heap.size w6.heap.size _ Sg6_14.out (by omega) (by omega) (by omega) Hg6.out).mono ?_
  rintro e w15 ⟨row, rfl, hw, hrow, hg⟩
  have BB15 := Lib.hid (bl_gb BB14.out hg BB14.out.size (fun g e => by have h1 := (hrow g e).1; have z0 := ZW1.out; have z1 := ZW2.out; have z2 := ZW3.out; have z3 := ZW4.out; have z4 := ZW5.out; have z5 := ZW6.out; have z6 := ZW7.out; have z7 := ZW8.out; have z8 := ZW9.out; have z9 := ZW10.out; have z10 := ZW11.out; have z11 := ZW12.out; have z12 := ZW13.out; have z13 := ZW14.out; omega))
  have ZW15 := Lib.hid hg.size
  have Sg3_15 := Lib.hid (Sg3_14.out.grown2 Hg3.out hg (fun g e => by have h1 := (hrow g e).1; have h2 := (hrow g e).2; have z0 := ZW1.out; have z1 := ZW2.out; have z2 := ZW3.out; have z3 := ZW4.out; have z4 := ZW5.out; have z5 := ZW6.out; have z6 := ZW7.out; have z7 := ZW8.out; have z8 := ZW9.out; have z9 := ZW10.out; have z10 := ZW11.out; have z11 := ZW12.out; have z12 := ZW13.out; have z13 := ZW14.out; omega))
  have Sg6_15 := Lib.hid hw
  clear hw hg hrow
  go_wp2_with fail
  refine (heldIntS_any Ag6 N cg6 1 _ _ Sg6_15.out.rd (by omega) (by omega) (by omega)).mono ?_
  rintro e w_ ⟨rfl, rfl⟩
  go_wp2_with fail
  refine (toIntS_any A0 n0 c0 y0 _ ((R0.out.below BB15.out).more BB15.out.size) hn0).mono ?_
  rintro e w17 ⟨Ax17, cx17, rfl, kx17, mx17, hw, hb⟩
  have Sx17_17 := Lib.hid hw
  have kx17' := Lib.hid kx17
  have mx17' := Lib.hid mx17
  have Hx17 := Lib.hid hw.hi
  clear hw kx17 mx17
  have BB17 := Lib.hid (BB15.out.trans (hb.mono BB15.out.size))
  have Sg3_17 := Lib.hid (Sg3_15.out.below hb)
  have Sg6_17 := Lib.hid (Sg6_15.out.below hb)
  have ZW17 := Lib.hid hb.size
  clear hb
  go_wp2_with fail
  refine (toIntS_any A1 n1 c1 y1 _ ((R1.out.below BB17.out).more BB17.out.size) hn1).mono ?_
  rintro e w18 ⟨Ax18, cx18, rfl, kx18, mx18, hw, hb⟩
  have Sx18_18 := Lib.hid hw
  have kx18' := Lib.hid kx18
  have mx18' := Lib.hid mx18
  have Hx18 := Lib.hid hw.hi
  clear hw kx18 mx18
  have BB18 := Lib.hid (BB17.out.trans (hb.mono BB17.out.size))
  have Sg3_18 := Lib.hid (Sg3_17.out.below hb)
  have Sg6_18 := Lib.hid (Sg6_17.out.below hb)
  have Sx17_18 := Lib.hid (Sx17_17.out.below hb)
  have ZW18 := Lib.hid hb.size
  clear hb
  go_wp2_with fail
  refine (iWorkLeft_any Ax17 Ax18 n0 cx17 n1 cx18 y0 y1 _ Sx17_18.out.rd Sx18_18.out.rd hn0 hn1).mono ?_
  rintro e w19 ⟨Ag19, ng19, cg19, rfl, kk, hw, hb⟩
  have eg19 : N = ng19 := hN.out.symm.trans hw.1
  subst eg19
  have Sg19_19 := Lib.hid hw
  have Hg19 := Lib.hid hw.hi
  have kg19' := Lib.hid kk
  clear hw kk
  have BB19 := Lib.hid (BB18.out.trans (hb.mono BB18.out.size))
  have Sg3_19 := Lib.hid (Sg3_18.out.below hb)
  have Sg6_19 := Lib.hid (Sg6_18.out.below hb)
  have Sx17_19 := Lib.hid (Sx17_18.out.below hb)
  have Sx18_19 := Lib.hid (Sx18_18.out.below hb)
  have ZW19 := Lib.hid hb.size
  clear hb
  clear Sx17_19
  clear Sx18_19
  go_wp2_with fail
  refine (eqIntS_any Ag19 Ag3 N cg19 cg3 (wkL y0 y1) _ _ _ Sg19_19.out.rd Sg3_19.out.rd (by omega)).mono ?_
  rintro e w20 ⟨rfl, hb⟩
  have BB20 := Lib.hid (BB19.out.trans (hb.mono BB19.out.size))
  have Sg3_20 := Lib.hid (Sg3_19.out.below hb)
  have Sg6_20 := Lib.hid (Sg6_19.out.below hb)
  have Sg19_20 := Lib.hid (Sg19_19.out.below hb)
  have ZW20 := Lib.hid hb.size
  clear hb
  go_wp2_with fail
  refine (heldIntS_any Ag6 N cg6 1 _ _ Sg6_20.out.rd (by omega) (by omega) (by omega)).mono ?_
  rintro e w_ ⟨rfl, rfl⟩
  go_wp2
  go_ret
  exact ⟨rfl, BB20.out⟩
set_option maxHeartbeats 4000000 in
theorem walkFnExactFinishFrames (A0 : Option Addr) (n0 c0 : Nat) (z0 : List Int) (A1 : Option Addr) (n1 c1 : Nat) (z1 : List Int) (w : World) (h0 : IsRow .i64 w A0 n0 c0 z0) (h1 : IsRow .i64 w A1 n1 c1 z1) :
    Calls Try.prog 6 #[.slice A0 n0 c0, .slice A1 n1 c1] w fun e w' => e = .returned (.bool true) ∧ Below w.heap.size w w' := by
  obtain ⟨y0, hy0⟩ : ∃ y, y = z0.take n0 := ⟨_, rfl⟩
  have hr0 := Rd.of_row h0
  rw [← hy0] at hr0
  have R0 := Lib.hid hr0
  have hm0 : (n0 : Int) ≤ 9223372036854775807 := isRow_len h0
  clear h0 hy0 hr0
  obtain ⟨y1, hy1⟩ : ∃ y, y = z1.take n1 := ⟨_, rfl⟩
  have hr1 := Rd.of_row h1
  rw [← hy1] at hr1
  have R1 := Lib.hid hr1
  have hm1 : (n1 : Int) ≤ 9223372036854775807 := isRow_len h1
  clear h1 hy1 hr1
  by_cases hl0 : (1048576 : Int) < n0
  · go_enter Try.func6, Try.ntmps6
    go_wp2
    go_ret
    exact ⟨rfl, Below.refl _ _⟩
  by_cases hl1 : (1048576 : Int) < n1
  · go_enter Try.func6, Try.ntmps6
    go_wp2
    go_ret
    exact ⟨rfl, Below.refl _ _⟩
  have hn0 : n0 ≤ 2000000 := by omega
  have hn1 : n1 ≤ 2000000 := by omega
  have BB0 := Lib.hid (Below.refl w.heap.size w)
  obtain ⟨N, hN⟩ : ∃ N, Hid (((fiL y0 y1)).length = N) := ⟨_, rfl⟩
  have hN1 : N ≤ 1100000 := by rw [← hN.out]; have hq := fiL_len y0 y1; have hy := R0.out.1; omega
  go_enter Try.func6, Try.ntmps6
  go_wp2_with fail
  refine (toIntS_any A0 n0 c0 y0 _ ((R0.out.below BB0.out).more BB0.out.size) hn0).mono ?_
  rintro e w1 ⟨Ax1, cx1, rfl, kx1, mx1, hw, hb⟩
  have Sx1_1 := Lib.hid hw
  have kx1' := Lib.hid kx1
  have mx1' := Lib.hid mx1
  have Hx1 := Lib.hid hw.hi
  clear hw kx1 mx1
  have BB1 := Lib.hid (BB0.out.trans (hb.mono BB0.out.size))
  have ZW1 := Lib.hid hb.size
  clear hb
  go_wp2_with fail
  refine (toIntS_any A1 n1 c1 y1 _ ((R1.out.below BB1.out).more BB1.out.size) hn1).mono ?_
  rintro e w2 ⟨Ax2, cx2, rfl, kx2, mx2, hw, hb⟩
  have Sx2_2 := Lib.hid hw
  have kx2' := Lib.hid kx2
  have mx2' := Lib.hid mx2
  have Hx2 := Lib.hid hw.hi
  clear hw kx2 mx2
  have BB2 := Lib.hid (BB1.out.trans (hb.mono BB1.out.size))
  have Sx1_2 := Lib.hid (Sx1_1.out.below hb)
  have ZW2 := Lib.hid hb.size
  clear hb
  go_wp2_with fail
  refine (sFinishFrames_any Ax1 Ax2 n0 cx1 n1 cx2 y0 y1 _ Sx1_2.out.rd Sx2_2.out.rd hn0 hn1).mono ?_
  rintro e w3 ⟨Ag3, ng3, cg3, rfl, kk, hw, hb⟩
  have eg3 : N = ng3 := hN.out.symm.trans hw.1
  subst eg3
  have Sg3_3 := Lib.hid hw
  have Hg3 := Lib.hid hw.hi
  have kg3' := Lib.hid kk
  clear hw kk
  have BB3 := Lib.hid (BB2.out.trans (hb.mono BB2.out.size))
  have Sx1_3 := Lib.hid (Sx1_2.out.below hb)
  have Sx2_3 := Lib.hid (Sx2_2.out.below hb)
  have ZW3 := Lib.hid hb.size
  clear hb
  clear Sx1_3
  clear Sx2_3
  go_wp2_with fail
  refine (toIntS_any A0 n0 c0 y0 _ ((R0.out.below BB3.out).more BB3.out.size) hn0).mono ?_
  rintro e w4 ⟨Ax4, cx4, rfl, kx4, mx4, hw, hb⟩
  have Sx4_4 := Lib.hid hw
  have kx4' := Lib.hid kx4
  have mx4' := Lib.hid mx4
  have Hx4 := Lib.hid hw.hi
  clear hw kx4 mx4
  have BB4 := Lib.hid (BB3.out.trans (hb.mono BB3.out.size))
  have Sg3_4 := Lib.hid (Sg3_3.out.below hb)
  have ZW4 := Lib.hid hb.size
  clear hb
  go_wp2_with fail
  refine (toIntS_any A1 n1 c1 y1 _ ((R1.out.below BB4.out).more BB4.out.size) hn1).mono ?_
  rintro e w5 ⟨Ax5, cx5, rfl, kx5, mx5, hw, hb⟩
  have Sx5_5 := Lib.hid hw
  have kx5' := Lib.hid kx5
  have mx5' := Lib.hid mx5
  have Hx5 := Lib.hid hw.hi
  clear hw kx5 mx5
  have BB5 := Lib.hid (BB4.out.trans (hb.mono BB4.out.size))
  have Sg3_5 := Lib.hid (Sg3_4.out.below hb)
  have Sx4_5 := Lib.hid (Sx4_4.out.below hb)
  have ZW5 := Lib.hid hb.size
  clear hb
  go_wp2_with fail
  refine (iFinishFrames_any Ax4 Ax5 n0 cx4 n1 cx5 y0 y1 _ Sx4_5.out.rd Sx5_5.out.rd hn0 hn1 kx4'.out kx5'.out mx4'.out mx5'.out).mono ?_
  rintro e w6 ⟨Ag6, ng6, cg6, rfl, kk, hw, hb⟩
  have eg6 : N = ng6 := hN.out.symm.trans hw.1
  subst eg6
  have Sg6_6 := Lib.hid hw
  have Hg6 := Lib.hid hw.hi
  have kg6' := Lib.hid kk
  clear hw kk
  have BB6 := Lib.hid (BB5.out.trans (hb.mono BB5.out.size))
  have Sg3_6 := Lib.hid (Sg3_5.out.below hb)
  have Sx4_6 := Lib.hid (Sx4_5.out.below hb)
  have Sx5_6 := Lib.hid (Sx5_5.out.below hb)
  have ZW6 := Lib.hid hb.size
  clear hb
  go_wp2_with fail
  refine (eqIntS_any Ag6 Ag3 N cg6 cg3 (fiL y0 y1) _ _ _ Sg6_6.out.rd Sg3_6.out.rd (by omega)).mono ?_
  rintro e w7 ⟨rfl, hb⟩
  have BB7 := Lib.hid (BB6.out.trans (hb.mono BB6.out.size))
  have Sg3_7 := Lib.hid (Sg3_6.out.below hb)
  have Sx4_7 := Lib.hid (Sx4_6.out.below hb)
  have Sx5_7 := Lib.hid (Sx5_6.out.below hb)
  have Sg6_7 := Lib.hid (Sg6_6.out.below hb)
  have ZW7 := Lib.hid hb.size
  clear hb
  go_wp2_with fail
  refine (toIntS_any A0 n0 c0 y0 _ ((R0.out.below BB7.out).more BB7.out.size) hn0).mono ?_
  rintro e w8 ⟨Ax8, cx8, rfl, kx8, mx8, hw, hb⟩
  have Sx8_8 := Lib.hid hw
  have kx8' := Lib.hid kx8
  have mx8' := Lib.hid mx8
  have Hx8 := Lib.hid hw.hi
  clear hw kx8 mx8
  have BB8 := Lib.hid (BB7.out.trans (hb.mono BB7.out.size))
  have Sg3_8 := Lib.hid (Sg3_7.out.below hb)
  have Sx4_8 := Lib.hid (Sx4_7.out.below hb)
  have Sx5_8 := Lib.hid (Sx5_7.out.below hb)
  have Sg6_8 := Lib.hid (Sg6_7.out.below hb)
  have ZW8 := Lib.hid hb.size
  clear hb
  go_wp2_with fail
  refine (eqIntS_any Ax4 Ax8 n0 cx4 cx8 y0 _ _ _ Sx4_8.out.rd Sx8_8.out.rd (by omega)).mono ?_
  rintro e w9 ⟨rfl, hb⟩
  have BB9 := Lib.hid (BB8.out.trans (hb.mono BB8.out.size))
  have Sg3_9 := Lib.hid (Sg3_8.out.below hb)
  have Sx4_9 := Lib.hid (Sx4_8.out.below hb)
  have Sx5_9 := Lib.hid (Sx5_8.out.below hb)
  have Sg6_9 := Lib.hid (Sg6_8.out.below hb)
  have Sx8_9 := Lib.hid (Sx8_8.out.below hb)
  have ZW9 := Lib.hid hb.size
  clear hb
  clear Sx8_9
  go_wp2_with fail
  refine (toIntS_any A1 n1 c1 y1 _ ((R1.out.below BB9.out).more BB9.out.size) hn1).mono ?_
  rintro e w10 ⟨Ax10, cx10, rfl, kx10, mx10, hw, hb⟩
  have Sx10_10 := Lib.hid hw
  have kx10' := Lib.hid kx10
  have mx10' := Lib.hid mx10
  have Hx10 := Lib.hid hw.hi
  clear hw kx10 mx10
  have BB10 := Lib.hid (BB9.out.trans (hb.mono BB9.out.size))
  have Sg3_10 := Lib.hid (Sg3_9.out.below hb)
  have Sx4_10 := Lib.hid (Sx4_9.out.below hb)
  have Sx5_10 := Lib.hid (Sx5_9.out.below hb)
  have Sg6_10 := Lib.hid (Sg6_9.out.below hb)
  have ZW10 := Lib.hid hb.size
  clear hb
  go_wp2_with fail
  refine (eqIntS_any Ax5 Ax10 n1 cx5 cx10 y1 _ _ _ Sx5_10.out.rd Sx10_10.out.rd (by omega)).mono ?_
  rintro e w11 ⟨rfl, hb⟩
  have BB11 := Lib.hid (BB10.out.trans (hb.mono BB10.out.size))
  have Sg3_11 := Lib.hid (Sg3_10.out.below hb)
  have Sx4_11 := Lib.hid (Sx4_10.out.below hb)
  have Sx5_11 := Lib.hid (Sx5_10.out.below hb)
  have Sg6_11 := Lib.hid (Sg6_10.out.below hb)
  have Sx10_11 := Lib.hid (Sx10_10.out.below hb)
  have ZW11 := Lib.hid hb.size
  clear hb
  clear Sx10_11
  go_wp2_with fail
  refine (markIntS_any Ax4 n0 cx4 y0 1 w3.heap.size w4.heap.size _ Sx4_11.out (by omega) (by omega) (by omega) Hx4.out).mono ?_
  rintro e w12 ⟨row, rfl, hw, hrow, hg⟩
  have BB12 := Lib.hid (bl_gb BB11.out hg BB11.out.size (fun g e => by have h1 := (hrow g e).1; have z0 := ZW1.out; have z1 := ZW2.out; have z2 := ZW3.out; have z3 := ZW4.out; have z4 := ZW5.out; have z5 := ZW6.out; have z6 := ZW7.out; have z7 := ZW8.out; have z8 := ZW9.out; have z9 := ZW10.out; have z10 := ZW11.out; omega))
  have ZW12 := Lib.hid hg.size
  have Sg3_12 := Lib.hid (Sg3_11.out.grown2 Hg3.out hg (fun g e => by have h1 := (hrow g e).1; have h2 := (hrow g e).2; have z0 := ZW1.out; have z1 := ZW2.out; have z2 := ZW3.out; have z3 := ZW4.out; have z4 := ZW5.out; have z5 := ZW6.out; have z6 := ZW7.out; have z7 := ZW8.out; have z8 := ZW9.out; have z9 := ZW10.out; have z10 := ZW11.out; omega))
  have Sx5_12 := Lib.hid (Sx5_11.out.grown2 Hx5.out hg (fun g e => by have h1 := (hrow g e).1; have h2 := (hrow g e).2; have z0 := ZW1.out; have z1 := ZW2.out; have z2 := ZW3.out; have z3 := ZW4.out; have z4 := ZW5.out; have z5 := ZW6.out; have z6 := ZW7.out; have z7 := ZW8.out; have z8 := ZW9.out; have z9 := ZW10.out; have z10 := ZW11.out; omega))
  have Sg6_12 := Lib.hid (Sg6_11.out.grown2 Hg6.out hg (fun g e => by have h1 := (hrow g e).1; have h2 := (hrow g e).2; have z0 := ZW1.out; have z1 := ZW2.out; have z2 := ZW3.out; have z3 := ZW4.out; have z4 := ZW5.out; have z5 := ZW6.out; have z6 := ZW7.out; have z7 := ZW8.out; have z8 := ZW9.out; have z9 := ZW10.out; have z10 := ZW11.out; omega))
  have Sx4_12 := Lib.hid hw
  clear hw hg hrow
  go_wp2_with fail
  refine (markIntS_any Ax5 n1 cx5 y1 (1 + (n0 : Int)) w4.heap.size w5.heap.size _ Sx5_12.out (by omega) (by omega) (by omega) Hx5.out).mono ?_
  rintro e w13 ⟨row, rfl, hw, hrow, hg⟩
  have BB13 := Lib.hid (bl_gb BB12.out hg BB12.out.size (fun g e => by have h1 := (hrow g e).1; have z0 := ZW1.out; have z1 := ZW2.out; have z2 := ZW3.out; have z3 := ZW4.out; have z4 := ZW5.out; have z5 := ZW6.out; have z6 := ZW7.out; have z7 := ZW8.out; have z8 := ZW9.out; have z9 := ZW10.out; have z10 := ZW11.out; have z11 := ZW12.out; omega))
  have ZW13 := Lib.hid hg.size
  have Sg3_13 := Lib.hid (Sg3_12.out.grown2 Hg3.out hg (fun g e => by have h1 := (hrow g e).1; have h2 := (hrow g e).2; have z0 := ZW1.out; have z1 := ZW2.out; have z2 := ZW3.out; have z3 := ZW4.out; have z4 := ZW5.out; have z5 := ZW6.out; have z6 := ZW7.out; have z7 := ZW8.out; have z8 := ZW9.out; have z9 := ZW10.out; have z10 := ZW11.out; have z11 := ZW12.out; omega))
  have Sx4_13 := Lib.hid (Sx4_12.out.grown2 Hx4.out hg (fun g e => by have h1 := (hrow g e).1; have h2 := (hrow g e).2; have z0 := ZW1.out; have z1 := ZW2.out; have z2 := ZW3.out; have z3 := ZW4.out; have z4 := ZW5.out; have z5 := ZW6.out; have z6 := ZW7.out; have z7 := ZW8.out; have z8 := ZW9.out; have z9 := ZW10.out; have z10 := ZW11.out; have z11 := ZW12.out; omega))
  have Sg6_13 := Lib.hid (Sg6_12.out.grown2 Hg6.out hg (fun g e => by have h1 := (hrow g e).1; have h2 := (hrow g e).2; have z0 := ZW1.out; have z1 := ZW2.out; have z2 := ZW3.out; have z3 := ZW4.out; have z4 := ZW5.out; have z5 := ZW6.out; have z6 := ZW7.out; have z7 := ZW8.out; have z8 := ZW9.out; have z9 := ZW10.out; have z10 := ZW11.out; have z11 := ZW12.out; omega))
  have Sx5_13 := Lib.hid hw
  clear hw hg hrow
  go_wp2_with fail
  refine (eqIntS_any Ag6 Ag3 N cg6 cg3 (fiL y0 y1) _ _ _ Sg6_13.out.rd Sg3_13.out.rd (by omega)).mono ?_
  rintro e w14 ⟨rfl, hb⟩
  have BB14 := Lib.hid (BB13.out.trans (hb.mono BB13.out.size))
  have Sg3_14 := Lib.hid (Sg3_13.out.below hb)
  have Sx4_14 := Lib.hid (Sx4_13.out.below hb)
  have Sx5_14 := Lib.hid (Sx5_13.out.below hb)
  have Sg6_14 := Lib.hid (Sg6_13.out.below hb)
  have ZW14 := Lib.hid hb.size
  clear hb
  clear Sx4_14
  clear Sx5_14
  go_wp2_with fail
  refine (markIntS_any Ag6 N cg6 (fiL y0 y1) 1 w5.heap.size w6.heap.size _ Sg6_14.out (by omega) (by omega) (by omega) Hg6.out).mono ?_
  rintro e w15 ⟨row, rfl, hw, hrow, hg⟩
  have BB15 := Lib.hid (bl_gb BB14.out hg BB14.out.size (fun g e => by have h1 := (hrow g e).1; have z0 := ZW1.out; have z1 := ZW2.out; have z2 := ZW3.out; have z3 := ZW4.out; have z4 := ZW5.out; have z5 := ZW6.out; have z6 := ZW7.out; have z7 := ZW8.out; have z8 := ZW9.out; have z9 := ZW10.out; have z10 := ZW11.out; have z11 := ZW12.out; have z12 := ZW13.out; have z13 := ZW14.out; omega))
  have ZW15 := Lib.hid hg.size
  have Sg3_15 := Lib.hid (Sg3_14.out.grown2 Hg3.out hg (fun g e => by have h1 := (hrow g e).1; have h2 := (hrow g e).2; have z0 := ZW1.out; have z1 := ZW2.out; have z2 := ZW3.out; have z3 := ZW4.out; have z4 := ZW5.out; have z5 := ZW6.out; have z6 := ZW7.out; have z7 := ZW8.out; have z8 := ZW9.out; have z9 := ZW10.out; have z10 := ZW11.out; have z11 := ZW12.out; have z12 := ZW13.out; have z13 := ZW14.out; omega))
  have Sg6_15 := Lib.hid hw
  clear hw hg hrow
  go_wp2_with fail
  refine (heldIntS_any Ag6 N cg6 1 _ _ Sg6_15.out.rd (by omega) (by omega) (by omega)).mono ?_
  rintro e w_ ⟨rfl, rfl⟩
  go_wp2_with fail
  refine (toIntS_any A0 n0 c0 y0 _ ((R0.out.below BB15.out).more BB15.out.size) hn0).mono ?_
  rintro e w17 ⟨Ax17, cx17, rfl, kx17, mx17, hw, hb⟩
  have Sx17_17 := Lib.hid hw
  have kx17' := Lib.hid kx17
  have mx17' := Lib.hid mx17
  have Hx17 := Lib.hid hw.hi
  clear hw kx17 mx17
  have BB17 := Lib.hid (BB15.out.trans (hb.mono BB15.out.size))
  have Sg3_17 := Lib.hid (Sg3_15.out.below hb)
  have Sg6_17 := Lib.hid (Sg6_15.out.below hb)
  have ZW17 := Lib.hid hb.size
  clear hb
  go_wp2_with fail
  refine (toIntS_any A1 n1 c1 y1 _ ((R1.out.below BB17.out).more BB17.out.size) hn1).mono ?_
  rintro e w18 ⟨Ax18, cx18, rfl, kx18, mx18, hw, hb⟩
  have Sx18_18 := Lib.hid hw
  have kx18' := Lib.hid kx18
  have mx18' := Lib.hid mx18
  have Hx18 := Lib.hid hw.hi
  clear hw kx18 mx18
  have BB18 := Lib.hid (BB17.out.trans (hb.mono BB17.out.size))
  have Sg3_18 := Lib.hid (Sg3_17.out.below hb)
  have Sg6_18 := Lib.hid (Sg6_17.out.below hb)
  have Sx17_18 := Lib.hid (Sx17_17.out.below hb)
  have ZW18 := Lib.hid hb.size
  clear hb
  go_wp2_with fail
  refine (iFinishFrames_any Ax17 Ax18 n0 cx17 n1 cx18 y0 y1 _ Sx17_18.out.rd Sx18_18.out.rd hn0 hn1 kx17'.out kx18'.out mx17'.out mx18'.out).mono ?_
  rintro e w19 ⟨Ag19, ng19, cg19, rfl, kk, hw, hb⟩
  have eg19 : N = ng19 := hN.out.symm.trans hw.1
  subst eg19
  have Sg19_19 := Lib.hid hw
  have Hg19 := Lib.hid hw.hi
  have kg19' := Lib.hid kk
  clear hw kk
  have BB19 := Lib.hid (BB18.out.trans (hb.mono BB18.out.size))
  have Sg3_19 := Lib.hid (Sg3_18.out.below hb)
  have Sg6_19 := Lib.hid (Sg6_18.out.below hb)
  have Sx17_19 := Lib.hid (Sx17_18.out.below hb)
  have Sx18_19 := Lib.hid (Sx18_18.out.below hb)
  have ZW19 := Lib.hid hb.size
  clear hb
  clear Sx17_19
  clear Sx18_19
  go_wp2_with fail
  refine (eqIntS_any Ag19 Ag3 N cg19 cg3 (fiL y0 y1) _ _ _ Sg19_19.out.rd Sg3_19.out.rd (by omega)).mono ?_
  rintro e w20 ⟨rfl, hb⟩
  have BB20 := Lib.hid (BB19.out.trans (hb.mono BB19.out.size))
  have Sg3_20 := Lib.hid (Sg3_19.out.below hb)
  have Sg6_20 := Lib.hid (Sg6_19.out.below hb)
  have Sg19_20 := Lib.hid (Sg19_19.out.below hb)
  have ZW20 := Lib.hid hb.size
  clear hb
  go_wp2_with fail
  refine (heldIntS_any Ag6 N cg6 1 _ _ Sg6_20.out.rd (by omega) (by omega) (by omega)).mono ?_
  rintro e w_ ⟨rfl, rfl⟩
  go_wp2
  go_ret
  exact ⟨rfl, BB20.out⟩
end Go.Proofs.Ytbodefholknneaa
