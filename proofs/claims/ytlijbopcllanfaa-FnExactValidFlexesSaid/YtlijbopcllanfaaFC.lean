/- The exact law of valid flexible sizes: the walk. -/
import Derived.Test.YtlijbopcllanfaaFB
import Derived.Test.YtlijbopcllanfaaFO
namespace Go.Proofs.Ytlijbopcllanfaa
open Go.RowKit

theorem belowOfE {w w' : World} (h : w = w') : Below w.heap.size w w' := by subst h; exact Below.refl _ _
set_option maxHeartbeats 4000000 in
theorem walkFnExactValidFlexes (A0 : Option Addr) (n0 c0 : Nat) (w : World) (h0 : IsRows 5 w A0 n0 c0) :
    Calls Try.prog 4 #[.slice A0 n0 c0] w fun e w' => e = .returned (.bool true) ∧ Below w.heap.size w w' := by
  obtain ⟨y0, hr0⟩ := Rd.of_rows h0
  have R0 := Lib.hid hr0
  have hm0 : (n0 : Int) ≤ 9223372036854775807 := isRows_len h0
  clear h0 hr0
  by_cases hl0 : (1048576 : Int) < n0
  · go_enter Try.func4, Try.ntmps4
    go_wp2_with (go_at_call 18; ((with_reducible refine (szFlexS_big _ _ _ _ hl0 hm0).mono ?_); rintro e w' ⟨rfl, rfl⟩))
    go_ret
    exact ⟨rfl, Below.refl _ _⟩
  have hn0 : n0 ≤ 2000000 := by omega
  have hk0 : (n0 : Int) ≤ 1048576 := by omega
  have BB0 := Lib.hid (Below.refl w.heap.size w)
  go_enter Try.func4, Try.ntmps4
  go_wp2_with fail
  refine (szFlexS_any _ _ _ _ hk0).mono ?_
  rintro e w' ⟨rfl, rfl⟩
  go_wp2_with fail
  refine (toFlexS_any A0 n0 c0 y0 _ ((R0.out.below BB0.out).more BB0.out.size) hn0).mono ?_
  rintro e w1 ⟨Ax1, cx1, rfl, kx1, mx1, hw, hb⟩
  have Sx1_1 := Lib.hid hw
  have kx1' := Lib.hid kx1
  have mx1' := Lib.hid mx1
  have Hx1 := Lib.hid hw.hi
  clear hw kx1 mx1
  have BB1 := Lib.hid (BB0.out.trans (hb.mono BB0.out.size))
  have ZW1 := Lib.hid hb.size
  clear hb
  go_wp2_with fail
  refine (sValidFlexes_any Ax1 n0 cx1 y0 _ Sx1_1.out.rd hn0).mono ?_
  rintro e w2 ⟨rfl, hb⟩
  try have hb := belowOfE hb
  have BB2 := Lib.hid (BB1.out.trans (hb.mono BB1.out.size))
  have Sx1_2 := Lib.hid (Sx1_1.out.below hb)
  have ZW2 := Lib.hid hb.size
  clear hb
  clear Sx1_2
  go_wp2_with fail
  refine (toFlexS_any A0 n0 c0 y0 _ ((R0.out.below BB2.out).more BB2.out.size) hn0).mono ?_
  rintro e w3 ⟨Ax3, cx3, rfl, kx3, mx3, hw, hb⟩
  have Sx3_3 := Lib.hid hw
  have kx3' := Lib.hid kx3
  have mx3' := Lib.hid mx3
  have Hx3 := Lib.hid hw.hi
  clear hw kx3 mx3
  have BB3 := Lib.hid (BB2.out.trans (hb.mono BB2.out.size))
  have ZW3 := Lib.hid hb.size
  clear hb
  go_wp2_with fail
  refine (iValidFlexes_any Ax3 n0 cx3 y0 _ Sx3_3.out.rd hn0).mono ?_
  rintro e w4 ⟨rfl, hb⟩
  try have hb := belowOfE hb
  have BB4 := Lib.hid (BB3.out.trans (hb.mono BB3.out.size))
  have Sx3_4 := Lib.hid (Sx3_3.out.below hb)
  have ZW4 := Lib.hid hb.size
  clear hb
  go_wp2_with fail
  refine (toFlexS_any A0 n0 c0 y0 _ ((R0.out.below BB4.out).more BB4.out.size) hn0).mono ?_
  rintro e w5 ⟨Ax5, cx5, rfl, kx5, mx5, hw, hb⟩
  have Sx5_5 := Lib.hid hw
  have kx5' := Lib.hid kx5
  have mx5' := Lib.hid mx5
  have Hx5 := Lib.hid hw.hi
  clear hw kx5 mx5
  have BB5 := Lib.hid (BB4.out.trans (hb.mono BB4.out.size))
  have Sx3_5 := Lib.hid (Sx3_4.out.below hb)
  have ZW5 := Lib.hid hb.size
  clear hb
  go_wp2_with fail
  refine (eqFlexS_any Ax3 Ax5 n0 cx3 cx5 y0 _ Sx3_5.out.rd Sx5_5.out.rd (by omega)).mono ?_
  rintro e w6 ⟨rfl, hb⟩
  have BB6 := Lib.hid (BB5.out.trans (hb.mono BB5.out.size))
  have Sx3_6 := Lib.hid (Sx3_5.out.below hb)
  have Sx5_6 := Lib.hid (Sx5_5.out.below hb)
  have ZW6 := Lib.hid hb.size
  clear hb
  clear Sx5_6
  go_wp2
  go_ret
  exact ⟨rfl, BB6.out⟩
end Go.Proofs.Ytlijbopcllanfaa
