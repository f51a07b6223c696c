/- The exact law of LayoutTree: the walk. -/
import Derived.Test.YtjaecgobgpfbdaaVH
import Derived.Test.YtjaecgobgpfbdaaFO
namespace Go.Proofs.Ytjaecgobgpfbdaa
open Go.RowKit

theorem belowOf {w w' : World} (h : w = w') : Below w.heap.size w w' := by subst h; exact Below.refl _ _
theorem Wr.grown2 {w w' : World} {lo hi n : Nat} {A : Option Addr} {zs : List Int} {row : Option Nat} (h : Wr w lo A n zs) (hh : ∀ b off, A = some ⟨b, off, none⟩ → 0 < n → b < hi) (hg : w.grownBy w' row) (hr : ∀ g, row = some g → g < lo ∨ hi ≤ g) : Wr w' lo A n zs :=
  ⟨h.1, fun hn => by
    obtain ⟨b, off, e, hl, hb, hc⟩ := h.2 hn
    have hb2 := hh b off e hn
    have hk := hg.block b hb (fun e => by have := hr b e.symm; omega)
    exact ⟨b, off, e, hl, Nat.lt_of_lt_of_le hb hg.size, fun i hi => ⟨(World.cell?_of_block hk).trans (hc i hi).1, (World.frozen?_of_block hk).trans (hc i hi).2⟩⟩⟩
theorem lyR_len (zs : List Int) (n : Nat) (W H : Int) : ∃ N, Hid ((lyR zs n W H).length = 4 * N) := by
  unfold lyR
  split
  · exact ⟨n, Lib.hid (layL_len _ _ _ _)⟩
  · exact ⟨0, Lib.hid rfl⟩
theorem lyR_le (zs : List Int) (n : Nat) (W H : Int) : (lyR zs n W H).length ≤ 4 * n := by
  unfold lyR
  split
  · rw [layL_len]; exact Nat.le_refl _
  · exact Nat.zero_le _
set_option maxHeartbeats 4000000 in
theorem walkFnExactLayoutTree (A0 : Option Addr) (n0 c0 : Nat) (a1 : Int) (a2 : Int) (w : World) (h0 : IsRows 9 w A0 n0 c0) (_ : (Lit.int .i64 a1).wf = true) (_ : (Lit.int .i64 a2).wf = true) :
    Calls Try.prog 5 #[.slice A0 n0 c0, .int .i64 a1, .int .i64 a2] w fun e w' => e = .returned (.bool true) ∧ Below w.heap.size w w' := by
  obtain ⟨y0, hr0⟩ := Rd.of_rows h0
  have R0 := Lib.hid hr0
  have hm0 : (n0 : Int) ≤ 9223372036854775807 := isRows_len h0
  clear h0 hr0
  by_cases hl0 : (1048576 : Int) < n0
  · go_enter Try.func5, Try.ntmps5
    go_wp2_with (go_at_call 14; ((with_reducible refine (szBoxS_big _ _ _ _ hl0 hm0).mono ?_); rintro e w' ⟨rfl, rfl⟩))
    go_ret
    exact ⟨rfl, Below.refl _ _⟩
  have hn0 : n0 ≤ 2000000 := by omega
  have hk0 : (n0 : Int) ≤ 1048576 := by omega
  have BB0 := Lib.hid (Below.refl w.heap.size w)
  obtain ⟨N, hN⟩ : ∃ N, Hid ((lyR y0 n0 a1 a2).length = 4 * N) := lyR_len _ _ _ _
  have hN1 : N ≤ 1100000 := by have h1 := hN.out; have h2 := lyR_le y0 n0 a1 a2; omega
  go_enter Try.func5, Try.ntmps5
  go_wp2_with fail
  refine (szBoxS_any _ _ _ _ hk0).mono ?_
  rintro e w' ⟨rfl, rfl⟩
  go_wp2_with fail
  refine (toBoxS_any A0 n0 c0 y0 _ ((R0.out.below BB0.out).more BB0.out.size) hn0).mono ?_
  rintro e w1 ⟨Ax1, cx1, rfl, kx1, mx1, hw, hb⟩
  have Sx1_1 := Lib.hid hw
  have kx1' := Lib.hid kx1
  have mx1' := Lib.hid mx1
  have Hx1 := Lib.hid hw.hi
  clear hw kx1 mx1
  have BB1 := Lib.hid (BB0.out.trans (hb.mono BB0.out.size))
  have ZW1 := Lib.hid hb.size
  clear hb
  go_wp2_with fail
  refine (sLayoutTree_any Ax1 n0 cx1 y0 a1 a2 _ Sx1_1.out.rd (by omega)).mono ?_
  rintro e w2 ⟨Ag2, ng2, cg2, rfl, kk, hw, hb⟩
  have eg2 : N = ng2 := (by have h1 := hN.out; have h2 := hw.1; omega)
  subst eg2
  have Sg2_2 := Lib.hid hw
  have Hg2 := Lib.hid hw.hi
  have kg2' := Lib.hid kk
  clear hw kk
  have BB2 := Lib.hid (BB1.out.trans (hb.mono BB1.out.size))
  have Sx1_2 := Lib.hid (Sx1_1.out.below hb)
  have ZW2 := Lib.hid hb.size
  clear hb
  clear Sx1_2
  go_wp2_with fail
  refine (toBoxS_any A0 n0 c0 y0 _ ((R0.out.below BB2.out).more BB2.out.size) hn0).mono ?_
  rintro e w3 ⟨Ax3, cx3, rfl, kx3, mx3, hw, hb⟩
  have Sx3_3 := Lib.hid hw
  have kx3' := Lib.hid kx3
  have mx3' := Lib.hid mx3
  have Hx3 := Lib.hid hw.hi
  clear hw kx3 mx3
  have BB3 := Lib.hid (BB2.out.trans (hb.mono BB2.out.size))
  have Sg2_3 := Lib.hid (Sg2_2.out.below hb)
  have ZW3 := Lib.hid hb.size
  clear hb
  go_wp2_with fail
  refine (iLayoutTree_any Ax3 n0 cx3 y0 a1 a2 _ Sx3_3.out.rd (by omega)).mono ?_
  rintro e w4 ⟨Ag4, ng4, cg4, rfl, kk, hw, hb⟩
  have eg4 : N = ng4 := (by have h1 := hN.out; have h2 := hw.1; omega)
  subst eg4
  have Sg4_4 := Lib.hid hw
  have Hg4 := Lib.hid hw.hi
  have kg4' := Lib.hid kk
  clear hw kk
  have BB4 := Lib.hid (BB3.out.trans (hb.mono BB3.out.size))
  have Sg2_4 := Lib.hid (Sg2_3.out.below hb)
  have Sx3_4 := Lib.hid (Sx3_3.out.below hb)
  have ZW4 := Lib.hid hb.size
  clear hb
  go_wp2_with fail
  refine (eqRectS_any Ag4 Ag2 N cg4 cg2 (lyR y0 n0 a1 a2) _ Sg4_4.out.rd Sg2_4.out.rd (by omega)).mono ?_
  rintro e w5 ⟨rfl, hb⟩
  have BB5 := Lib.hid (BB4.out.trans (hb.mono BB4.out.size))
  have Sg2_5 := Lib.hid (Sg2_4.out.below hb)
  have Sx3_5 := Lib.hid (Sx3_4.out.below hb)
  have Sg4_5 := Lib.hid (Sg4_4.out.below hb)
  have ZW5 := Lib.hid hb.size
  clear hb
  go_wp2_with fail
  refine (toBoxS_any A0 n0 c0 y0 _ ((R0.out.below BB5.out).more BB5.out.size) hn0).mono ?_
  rintro e w6 ⟨Ax6, cx6, rfl, kx6, mx6, hw, hb⟩
  have Sx6_6 := Lib.hid hw
  have kx6' := Lib.hid kx6
  have mx6' := Lib.hid mx6
  have Hx6 := Lib.hid hw.hi
  clear hw kx6 mx6
  have BB6 := Lib.hid (BB5.out.trans (hb.mono BB5.out.size))
  have Sg2_6 := Lib.hid (Sg2_5.out.below hb)
  have Sx3_6 := Lib.hid (Sx3_5.out.below hb)
  have Sg4_6 := Lib.hid (Sg4_5.out.below hb)
  have ZW6 := Lib.hid hb.size
  clear hb
  go_wp2_with fail
  refine (eqBoxS_any Ax3 Ax6 n0 cx3 cx6 y0 _ Sx3_6.out.rd Sx6_6.out.rd (by omega)).mono ?_
  rintro e w7 ⟨rfl, hb⟩
  have BB7 := Lib.hid (BB6.out.trans (hb.mono BB6.out.size))
  have Sg2_7 := Lib.hid (Sg2_6.out.below hb)
  have Sx3_7 := Lib.hid (Sx3_6.out.below hb)
  have Sg4_7 := Lib.hid (Sg4_6.out.below hb)
  have Sx6_7 := Lib.hid (Sx6_6.out.below hb)
  have ZW7 := Lib.hid hb.size
  clear hb
  clear Sx6_7
  go_wp2_with fail
  refine (markBoxS_any Ax3 n0 cx3 y0 1 w2.heap.size w3.heap.size _ Sx3_7.out (by omega) (by omega) (by omega) (fun b off e hn => Hx3.out b off e (by omega))).mono ?_
  rintro e w8 ⟨row, rfl, hw, hrow, hg⟩
  have BB8 := Lib.hid (bl_gb BB7.out hg BB7.out.size (fun g e => by have h1 := (hrow g e).1; have z0 := ZW1.out; have z1 := ZW2.out; have z2 := ZW3.out; have z3 := ZW4.out; have z4 := ZW5.out; have z5 := ZW6.out; have z6 := ZW7.out; omega))
  have ZW8 := Lib.hid hg.size
  have Sg2_8 := Lib.hid (Sg2_7.out.grown2 Hg2.out hg (fun g e => by have h1 := (hrow g e).1; have h2 := (hrow g e).2; have z0 := ZW1.out; have z1 := ZW2.out; have z2 := ZW3.out; have z3 := ZW4.out; have z4 := ZW5.out; have z5 := ZW6.out; have z6 := ZW7.out; omega))
  have Sg4_8 := Lib.hid (Sg4_7.out.grown2 Hg4.out hg (fun g e => by have h1 := (hrow g e).1; have h2 := (hrow g e).2; have z0 := ZW1.out; have z1 := ZW2.out; have z2 := ZW3.out; have z3 := ZW4.out; have z4 := ZW5.out; have z5 := ZW6.out; have z6 := ZW7.out; omega))
  have Sx3_8 := Lib.hid hw
  clear hw hg hrow
  go_wp2_with fail
  refine (eqRectS_any Ag4 Ag2 N cg4 cg2 (lyR y0 n0 a1 a2) _ Sg4_8.out.rd Sg2_8.out.rd (by omega)).mono ?_
  rintro e w9 ⟨rfl, hb⟩
  have BB9 := Lib.hid (BB8.out.trans (hb.mono BB8.out.size))
  have Sg2_9 := Lib.hid (Sg2_8.out.below hb)
  have Sx3_9 := Lib.hid (Sx3_8.out.below hb)
  have Sg4_9 := Lib.hid (Sg4_8.out.below hb)
  have ZW9 := Lib.hid hb.size
  clear hb
  clear Sx3_9
  go_wp2_with fail
  refine (markRectS_any Ag4 N cg4 (lyR y0 n0 a1 a2) 1 w3.heap.size w4.heap.size _ Sg4_9.out (by omega) (by omega) (by omega) (fun b off e hn => Hg4.out b off e (by omega))).mono ?_
  rintro e w10 ⟨row, rfl, hw, hrow, hg⟩
  have BB10 := Lib.hid (bl_gb BB9.out hg BB9.out.size (fun g e => by have h1 := (hrow g e).1; have z0 := ZW1.out; have z1 := ZW2.out; have z2 := ZW3.out; have z3 := ZW4.out; have z4 := ZW5.out; have z5 := ZW6.out; have z6 := ZW7.out; have z7 := ZW8.out; have z8 := ZW9.out; omega))
  have ZW10 := Lib.hid hg.size
  have Sg2_10 := Lib.hid (Sg2_9.out.grown2 Hg2.out hg (fun g e => by have h1 := (hrow g e).1; have h2 := (hrow g e).2; have z0 := ZW1.out; have z1 := ZW2.out; have z2 := ZW3.out; have z3 := ZW4.out; have z4 := ZW5.out; have z5 := ZW6.out; have z6 := ZW7.out; have z7 := ZW8.out; have z8 := ZW9.out; omega))
  have Sg4_10 := Lib.hid hw
  clear hw hg hrow
  go_wp2_with fail
  refine (heldRectS_any Ag4 N cg4 1 _ _ Sg4_10.out.rd (by omega) (by omega) (by omega)).mono ?_
  rintro e w_ ⟨rfl, rfl⟩
  go_wp2_with fail
  refine (toBoxS_any A0 n0 c0 y0 _ ((R0.out.below BB10.out).more BB10.out.size) hn0).mono ?_
  rintro e w11 ⟨Ax11, cx11, rfl, kx11, mx11, hw, hb⟩
  have Sx11_11 := Lib.hid hw
  have kx11' := Lib.hid kx11
  have mx11' := Lib.hid mx11
  have Hx11 := Lib.hid hw.hi
  clear hw kx11 mx11
  have BB11 := Lib.hid (BB10.out.trans (hb.mono BB10.out.size))
  have Sg2_11 := Lib.hid (Sg2_10.out.below hb)
  have Sg4_11 := Lib.hid (Sg4_10.out.below hb)
  have ZW11 := Lib.hid hb.size
  clear hb
  go_wp2_with fail
  refine (iLayoutTree_any Ax11 n0 cx11 y0 a1 a2 _ Sx11_11.out.rd (by omega)).mono ?_
  rintro e w12 ⟨Ag12, ng12, cg12, rfl, kk, hw, hb⟩
  have eg12 : N = ng12 := (by have h1 := hN.out; have h2 := hw.1; omega)
  subst eg12
  have Sg12_12 := Lib.hid hw
  have Hg12 := Lib.hid hw.hi
  have kg12' := Lib.hid kk
  clear hw kk
  have BB12 := Lib.hid (BB11.out.trans (hb.mono BB11.out.size))
  have Sg2_12 := Lib.hid (Sg2_11.out.below hb)
  have Sg4_12 := Lib.hid (Sg4_11.out.below hb)
  have Sx11_12 := Lib.hid (Sx11_11.out.below hb)
  have ZW12 := Lib.hid hb.size
  clear hb
  clear Sx11_12
  go_wp2_with fail
  refine (eqRectS_any Ag12 Ag2 N cg12 cg2 (lyR y0 n0 a1 a2) _ Sg12_12.out.rd Sg2_12.out.rd (by omega)).mono ?_
  rintro e w13 ⟨rfl, hb⟩
  have BB13 := Lib.hid (BB12.out.trans (hb.mono BB12.out.size))
  have Sg2_13 := Lib.hid (Sg2_12.out.below hb)
  have Sg4_13 := Lib.hid (Sg4_12.out.below hb)
  have Sg12_13 := Lib.hid (Sg12_12.out.below hb)
  have ZW13 := Lib.hid hb.size
  clear hb
  go_wp2_with fail
  refine (heldRectS_any Ag4 N cg4 1 _ _ Sg4_13.out.rd (by omega) (by omega) (by omega)).mono ?_
  rintro e w_ ⟨rfl, rfl⟩
  go_wp2
  go_ret
  exact ⟨rfl, BB13.out⟩
end Go.Proofs.Ytjaecgobgpfbdaa
