/- The exact laws of natural sizes: the walks. -/
import Derived.Test.YtjaecgobgpfbdaaTR
import Derived.Test.YtjaecgobgpfbdaaFO
namespace Go.Proofs.Ytjaecgobgpfbdaa
open Go.RowKit

theorem belowOf {w w' : World} (h : w = w') : Below w.heap.size w w' := by subst h; exact Below.refl _ _
theorem Wr.grown2 {w w' : World} {lo hi n : Nat} {A : Option Addr} {zs : List Int} {row : Option Nat} (h : Wr w lo A n zs) (hh : ∀ b off, A = some ⟨b, off, none⟩ → 0 < n → b < hi) (hg : w.grownBy w' row) (hr : ∀ g, row = some g → g < lo ∨ hi ≤ g) : Wr w' lo A n zs :=
  ⟨h.1, fun hn => by
    obtain ⟨b, off, e, hl, hb, hc⟩ := h.2 hn
    have hb2 := hh b off e hn
    have hk := hg.block b hb (fun e => by have := hr b e.symm; omega)
    exact ⟨b, off, e, hl, Nat.lt_of_lt_of_le hb hg.size, fun i hi => ⟨(World.cell?_of_block hk).trans (hc i hi).1, (World.frozen?_of_block hk).trans (hc i hi).2⟩⟩⟩
set_option maxHeartbeats 4000000 in
theorem walkFnExactNaturalSize (A0 : Option Addr) (n0 c0 : Nat) (a1 : Int) (w : World) (h0 : IsRows 9 w A0 n0 c0) (_ : (Lit.int .i64 a1).wf = true) :
    Calls Try.prog 10 #[.slice A0 n0 c0, .int .i64 a1] w fun e w' => e = .returned (.bool true) ∧ Below w.heap.size w w' := by
  obtain ⟨y0, hr0⟩ := Rd.of_rows h0
  have R0 := Lib.hid hr0
  have hm0 : (n0 : Int) ≤ 9223372036854775807 := isRows_len h0
  clear h0 hr0
  by_cases hl0 : (1048576 : Int) < n0
  · go_enter Try.func10, Try.ntmps10
    go_wp2_with (go_at_call 14; ((with_reducible refine (szBoxS_big _ _ _ _ hl0 hm0).mono ?_); rintro e w' ⟨rfl, rfl⟩))
    go_ret
    exact ⟨rfl, Below.refl _ _⟩
  have hn0 : n0 ≤ 2000000 := by omega
  have hk0 : (n0 : Int) ≤ 1048576 := by omega
  have BB0 := Lib.hid (Below.refl w.heap.size w)
  go_enter Try.func10, Try.ntmps10
  go_wp2_with fail
  refine (szBoxS_any _ _ _ _ hk0).mono ?_
  rintro e w' ⟨rfl, rfl⟩
  go_wp2_with fail
  refine (toBoxS_any A0 n0 c0 y0 _ ((R0.out.below BB0.out).more BB0.out.size) hn0).mono ?_
  rintro e w1 ⟨Ax1, cx1, rfl, kx1, mx1, hw, hb⟩
  have Sx1_1 := Lib.hid hw
  have kx1' := Lib.hid kx1
  have mx1' := Lib.hid mx1
  have Hx1 := Lib.hid hw.hi
  clear hw kx1 mx1
  have BB1 := Lib.hid (BB0.out.trans (hb.mono BB0.out.size))
  have ZW1 := Lib.hid hb.size
  clear hb
  go_wp2_with fail
  refine (sNaturalSize_any Ax1 n0 cx1 y0 a1 _ Sx1_1.out.rd (by omega)).mono ?_
  rintro e w2 ⟨rfl, hb⟩
  try have hb := belowOf hb
  have BB2 := Lib.hid (BB1.out.trans (hb.mono BB1.out.size))
  have Sx1_2 := Lib.hid (Sx1_1.out.below hb)
  have ZW2 := Lib.hid hb.size
  clear hb
  clear Sx1_2
  go_wp2_with fail
  refine (toBoxS_any A0 n0 c0 y0 _ ((R0.out.below BB2.out).more BB2.out.size) hn0).mono ?_
  rintro e w3 ⟨Ax3, cx3, rfl, kx3, mx3, hw, hb⟩
  have Sx3_3 := Lib.hid hw
  have kx3' := Lib.hid kx3
  have mx3' := Lib.hid mx3
  have Hx3 := Lib.hid hw.hi
  clear hw kx3 mx3
  have BB3 := Lib.hid (BB2.out.trans (hb.mono BB2.out.size))
  have ZW3 := Lib.hid hb.size
  clear hb
  go_wp2_with fail
  refine (iNaturalSize_any Ax3 n0 cx3 y0 a1 _ Sx3_3.out.rd (by omega)).mono ?_
  rintro e w4 ⟨rfl, hb⟩
  try have hb := belowOf hb
  have BB4 := Lib.hid (BB3.out.trans (hb.mono BB3.out.size))
  have Sx3_4 := Lib.hid (Sx3_3.out.below hb)
  have ZW4 := Lib.hid hb.size
  clear hb
  go_wp2_with fail
  refine (toBoxS_any A0 n0 c0 y0 _ ((R0.out.below BB4.out).more BB4.out.size) hn0).mono ?_
  rintro e w5 ⟨Ax5, cx5, rfl, kx5, mx5, hw, hb⟩
  have Sx5_5 := Lib.hid hw
  have kx5' := Lib.hid kx5
  have mx5' := Lib.hid mx5
  have Hx5 := Lib.hid hw.hi
  clear hw kx5 mx5
  have BB5 := Lib.hid (BB4.out.trans (hb.mono BB4.out.size))
  have Sx3_5 := Lib.hid (Sx3_4.out.below hb)
  have ZW5 := Lib.hid hb.size
  clear hb
  go_wp2_with fail
  refine (eqBoxS_any Ax3 Ax5 n0 cx3 cx5 y0 _ Sx3_5.out.rd Sx5_5.out.rd (by omega)).mono ?_
  rintro e w6 ⟨rfl, hb⟩
  have BB6 := Lib.hid (BB5.out.trans (hb.mono BB5.out.size))
  have Sx3_6 := Lib.hid (Sx3_5.out.below hb)
  have Sx5_6 := Lib.hid (Sx5_5.out.below hb)
  have ZW6 := Lib.hid hb.size
  clear hb
  clear Sx5_6
  go_wp2
  go_ret
  exact ⟨rfl, BB6.out⟩
set_option maxHeartbeats 4000000 in
theorem walkFnExactFitsIn (A0 : Option Addr) (n0 c0 : Nat) (a1 : Int) (a2 : Int) (w : World) (h0 : IsRows 9 w A0 n0 c0) (_ : (Lit.int .i64 a1).wf = true) (_ : (Lit.int .i64 a2).wf = true) :
    Calls Try.prog 9 #[.slice A0 n0 c0, .int .i64 a1, .int .i64 a2] w fun e w' => e = .returned (.bool true) ∧ Below w.heap.size w w' := by
  obtain ⟨y0, hr0⟩ := Rd.of_rows h0
  have R0 := Lib.hid hr0
  have hm0 : (n0 : Int) ≤ 9223372036854775807 := isRows_len h0
  clear h0 hr0
  by_cases hl0 : (1048576 : Int) < n0
  · go_enter Try.func9, Try.ntmps9
    go_wp2_with (go_at_call 14; ((with_reducible refine (szBoxS_big _ _ _ _ hl0 hm0).mono ?_); rintro e w' ⟨rfl, rfl⟩))
    go_ret
    exact ⟨rfl, Below.refl _ _⟩
  have hn0 : n0 ≤ 2000000 := by omega
  have hk0 : (n0 : Int) ≤ 1048576 := by omega
  have BB0 := Lib.hid (Below.refl w.heap.size w)
  go_enter Try.func9, Try.ntmps9
  go_wp2_with fail
  refine (szBoxS_any _ _ _ _ hk0).mono ?_
  rintro e w' ⟨rfl, rfl⟩
  go_wp2_with fail
  refine (toBoxS_any A0 n0 c0 y0 _ ((R0.out.below BB0.out).more BB0.out.size) hn0).mono ?_
  rintro e w1 ⟨Ax1, cx1, rfl, kx1, mx1, hw, hb⟩
  have Sx1_1 := Lib.hid hw
  have kx1' := Lib.hid kx1
  have mx1' := Lib.hid mx1
  have Hx1 := Lib.hid hw.hi
  clear hw kx1 mx1
  have BB1 := Lib.hid (BB0.out.trans (hb.mono BB0.out.size))
  have ZW1 := Lib.hid hb.size
  clear hb
  go_wp2_with fail
  refine (sFitsIn_any Ax1 n0 cx1 y0 a1 a2 _ Sx1_1.out.rd (by omega)).mono ?_
  rintro e w2 ⟨rfl, hb⟩
  try have hb := belowOf hb
  have BB2 := Lib.hid (BB1.out.trans (hb.mono BB1.out.size))
  have Sx1_2 := Lib.hid (Sx1_1.out.below hb)
  have ZW2 := Lib.hid hb.size
  clear hb
  clear Sx1_2
  go_wp2_with fail
  refine (toBoxS_any A0 n0 c0 y0 _ ((R0.out.below BB2.out).more BB2.out.size) hn0).mono ?_
  rintro e w3 ⟨Ax3, cx3, rfl, kx3, mx3, hw, hb⟩
  have Sx3_3 := Lib.hid hw
  have kx3' := Lib.hid kx3
  have mx3' := Lib.hid mx3
  have Hx3 := Lib.hid hw.hi
  clear hw kx3 mx3
  have BB3 := Lib.hid (BB2.out.trans (hb.mono BB2.out.size))
  have ZW3 := Lib.hid hb.size
  clear hb
  go_wp2_with fail
  refine (iFitsIn_any Ax3 n0 cx3 y0 a1 a2 _ Sx3_3.out.rd (by omega)).mono ?_
  rintro e w4 ⟨rfl, hb⟩
  try have hb := belowOf hb
  have BB4 := Lib.hid (BB3.out.trans (hb.mono BB3.out.size))
  have Sx3_4 := Lib.hid (Sx3_3.out.below hb)
  have ZW4 := Lib.hid hb.size
  clear hb
  go_wp2_with fail
  refine (toBoxS_any A0 n0 c0 y0 _ ((R0.out.below BB4.out).more BB4.out.size) hn0).mono ?_
  rintro e w5 ⟨Ax5, cx5, rfl, kx5, mx5, hw, hb⟩
  have Sx5_5 := Lib.hid hw
  have kx5' := Lib.hid kx5
  have mx5' := Lib.hid mx5
  have Hx5 := Lib.hid hw.hi
  clear hw kx5 mx5
  have BB5 := Lib.hid (BB4.out.trans (hb.mono BB4.out.size))
  have Sx3_5 := Lib.hid (Sx3_4.out.below hb)
  have ZW5 := Lib.hid hb.size
  clear hb
  go_wp2_with fail
  refine (eqBoxS_any Ax3 Ax5 n0 cx3 cx5 y0 _ Sx3_5.out.rd Sx5_5.out.rd (by omega)).mono ?_
  rintro e w6 ⟨rfl, hb⟩
  have BB6 := Lib.hid (BB5.out.trans (hb.mono BB5.out.size))
  have Sx3_6 := Lib.hid (Sx3_5.out.below hb)
  have Sx5_6 := Lib.hid (Sx5_5.out.below hb)
  have ZW6 := Lib.hid hb.size
  clear hb
  clear Sx5_6
  go_wp2
  go_ret
  exact ⟨rfl, BB6.out⟩
set_option maxHeartbeats 4000000 in
theorem walkFnExactWidestKid (A0 : Option Addr) (n0 c0 : Nat) (a1 : Int) (w : World) (h0 : IsRows 9 w A0 n0 c0) (_ : (Lit.int .i64 a1).wf = true) :
    Calls Try.prog 12 #[.slice A0 n0 c0, .int .i64 a1] w fun e w' => e = .returned (.bool true) ∧ Below w.heap.size w w' := by
  obtain ⟨y0, hr0⟩ := Rd.of_rows h0
  have R0 := Lib.hid hr0
  have hm0 : (n0 : Int) ≤ 9223372036854775807 := isRows_len h0
  clear h0 hr0
  by_cases hl0 : (1048576 : Int) < n0
  · go_enter Try.func12, Try.ntmps12
    go_wp2_with (go_at_call 14; ((with_reducible refine (szBoxS_big _ _ _ _ hl0 hm0).mono ?_); rintro e w' ⟨rfl, rfl⟩))
    go_ret
    exact ⟨rfl, Below.refl _ _⟩
  have hn0 : n0 ≤ 2000000 := by omega
  have hk0 : (n0 : Int) ≤ 1048576 := by omega
  have BB0 := Lib.hid (Below.refl w.heap.size w)
  go_enter Try.func12, Try.ntmps12
  go_wp2_with fail
  refine (szBoxS_any _ _ _ _ hk0).mono ?_
  rintro e w' ⟨rfl, rfl⟩
  go_wp2_with fail
  refine (toBoxS_any A0 n0 c0 y0 _ ((R0.out.below BB0.out).more BB0.out.size) hn0).mono ?_
  rintro e w1 ⟨Ax1, cx1, rfl, kx1, mx1, hw, hb⟩
  have Sx1_1 := Lib.hid hw
  have kx1' := Lib.hid kx1
  have mx1' := Lib.hid mx1
  have Hx1 := Lib.hid hw.hi
  clear hw kx1 mx1
  have BB1 := Lib.hid (BB0.out.trans (hb.mono BB0.out.size))
  have ZW1 := Lib.hid hb.size
  clear hb
  go_wp2_with fail
  refine (sWidestKid_any Ax1 n0 cx1 y0 a1 _ Sx1_1.out.rd (by omega)).mono ?_
  rintro e w2 ⟨rfl, hb⟩
  try have hb := belowOf hb
  have BB2 := Lib.hid (BB1.out.trans (hb.mono BB1.out.size))
  have Sx1_2 := Lib.hid (Sx1_1.out.below hb)
  have ZW2 := Lib.hid hb.size
  clear hb
  clear Sx1_2
  go_wp2_with fail
  refine (toBoxS_any A0 n0 c0 y0 _ ((R0.out.below BB2.out).more BB2.out.size) hn0).mono ?_
  rintro e w3 ⟨Ax3, cx3, rfl, kx3, mx3, hw, hb⟩
  have Sx3_3 := Lib.hid hw
  have kx3' := Lib.hid kx3
  have mx3' := Lib.hid mx3
  have Hx3 := Lib.hid hw.hi
  clear hw kx3 mx3
  have BB3 := Lib.hid (BB2.out.trans (hb.mono BB2.out.size))
  have ZW3 := Lib.hid hb.size
  clear hb
  go_wp2_with fail
  refine (iWidestKid_any Ax3 n0 cx3 y0 a1 _ Sx3_3.out.rd (by omega)).mono ?_
  rintro e w4 ⟨rfl, hb⟩
  try have hb := belowOf hb
  have BB4 := Lib.hid (BB3.out.trans (hb.mono BB3.out.size))
  have Sx3_4 := Lib.hid (Sx3_3.out.below hb)
  have ZW4 := Lib.hid hb.size
  clear hb
  go_wp2_with fail
  refine (toBoxS_any A0 n0 c0 y0 _ ((R0.out.below BB4.out).more BB4.out.size) hn0).mono ?_
  rintro e w5 ⟨Ax5, cx5, rfl, kx5, mx5, hw, hb⟩
  have Sx5_5 := Lib.hid hw
  have kx5' := Lib.hid kx5
  have mx5' := Lib.hid mx5
  have Hx5 := Lib.hid hw.hi
  clear hw kx5 mx5
  have BB5 := Lib.hid (BB4.out.trans (hb.mono BB4.out.size))
  have Sx3_5 := Lib.hid (Sx3_4.out.below hb)
  have ZW5 := Lib.hid hb.size
  clear hb
  go_wp2_with fail
  refine (eqBoxS_any Ax3 Ax5 n0 cx3 cx5 y0 _ Sx3_5.out.rd Sx5_5.out.rd (by omega)).mono ?_
  rintro e w6 ⟨rfl, hb⟩
  have BB6 := Lib.hid (BB5.out.trans (hb.mono BB5.out.size))
  have Sx3_6 := Lib.hid (Sx3_5.out.below hb)
  have Sx5_6 := Lib.hid (Sx5_5.out.below hb)
  have ZW6 := Lib.hid hb.size
  clear hb
  clear Sx5_6
  go_wp2
  go_ret
  exact ⟨rfl, BB6.out⟩

end Go.Proofs.Ytjaecgobgpfbdaa
