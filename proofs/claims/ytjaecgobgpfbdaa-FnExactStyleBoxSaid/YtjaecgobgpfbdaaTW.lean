/- The exact law of StyleBox: the walk. -/
import Derived.Test.YtjaecgobgpfbdaaTV
import Derived.Test.YtjaecgobgpfbdaaFK
import Derived.Deep.RegionHeld3
namespace Go.Proofs.Ytjaecgobgpfbdaa
open Go.RowKit

theorem belowOf {w w' : World} (h : w = w') : Below w.heap.size w w' := by subst h; exact Below.refl _ _
theorem Wr.grown2 {w w' : World} {lo hi n : Nat} {A : Option Addr} {zs : List Int} {row : Option Nat} (h : Wr w lo A n zs) (hh : ∀ b off, A = some ⟨b, off, none⟩ → 0 < n → b < hi) (hg : w.grownBy w' row) (hr : ∀ g, row = some g → g < lo ∨ hi ≤ g) : Wr w' lo A n zs :=
  ⟨h.1, fun hn => by
    obtain ⟨b, off, e, hl, hb, hc⟩ := h.2 hn
    have hb2 := hh b off e hn
    have hk := hg.block b hb (fun e => by have := hr b e.symm; omega)
    exact ⟨b, off, e, hl, Nat.lt_of_lt_of_le hb hg.size, fun i hi => ⟨(World.cell?_of_block hk).trans (hc i hi).1, (World.frozen?_of_block hk).trans (hc i hi).2⟩⟩⟩
theorem ysB_len (zs : List Int) (n k : Nat) (p x1 x2 x3 x4 x5 x6 x7 x8 : Int) : (ysB zs n k p x1 x2 x3 x4 x5 x6 x7 x8).length = 9 * n := by unfold ysB; exact mk_len _ _
theorem stL_len (zs : List Int) (n : Nat) (a x1 x2 x3 x4 x5 x6 x7 x8 : Int) : ∃ N, Hid ((stL zs n a x1 x2 x3 x4 x5 x6 x7 x8).length = 9 * N) := by
  unfold stL
  split
  · exact ⟨n, Lib.hid (ysB_len _ _ _ _ _ _ _ _ _ _ _ _)⟩
  · exact ⟨0, Lib.hid rfl⟩
theorem stL_le (zs : List Int) (n : Nat) (a x1 x2 x3 x4 x5 x6 x7 x8 : Int) : (stL zs n a x1 x2 x3 x4 x5 x6 x7 x8).length ≤ 9 * n := by
  unfold stL
  split
  · rw [ysB_len]; exact Nat.le_refl _
  · exact Nat.zero_le _
theorem Bx9.grown {w0 W W' : World} {g : Nat} {x0 x1 x2 x3 x4 x5 x6 x7 x8 : Int} (h : Bx9 w0 g x0 x1 x2 x3 x4 x5 x6 x7 x8 W) {row : Option Nat} (hg : W.grownBy W' row) (hr : ∀ r, row = some r → w0.heap.size ≤ r ∧ g < r) : Bx9 w0 g x0 x1 x2 x3 x4 x5 x6 x7 x8 W' := by
  have hb : W'.heap[g]? = W.heap[g]? := hg.block g h.lt (fun e => by have := (hr g e.symm).2; omega)
  have hc := fun o => World.cell?_of_block (w := W) (w' := W') (a := ⟨g, o, none⟩) hb
  exact ⟨h.bl.grown hg h.bl.size (fun r e => (hr r e).1), Nat.lt_of_lt_of_le h.lt hg.size, (hc 0).trans h.c0, (hc 1).trans h.c1, (hc 2).trans h.c2, (hc 3).trans h.c3, (hc 4).trans h.c4, (hc 5).trans h.c5, (hc 6).trans h.c6, (hc 7).trans h.c7, (hc 8).trans h.c8⟩
set_option maxRecDepth 100000 in
set_option maxHeartbeats 8000000 in
theorem walkFnExactStyleBox (A0 : Option Addr) (n0 c0 : Nat) (a1 : Int) (b0 b1 b2 b3 b4 b5 b6 b7 b8 : Int) (w : World) (h0 : IsRows 9 w A0 n0 c0) (_ : (Lit.int .i64 a1).wf = true) (_ : (Lit.int .i64 b0).wf = true) (_ : (Lit.int .i64 b1).wf = true) (_ : (Lit.int .i64 b2).wf = true) (_ : (Lit.int .i64 b3).wf = true) (_ : (Lit.int .i64 b4).wf = true) (_ : (Lit.int .i64 b5).wf = true) (_ : (Lit.int .i64 b6).wf = true) (_ : (Lit.int .i64 b7).wf = true) (_ : (Lit.int .i64 b8).wf = true) :
    Calls Try.prog 13 #[.slice A0 n0 c0, .int .i64 a1, .agg #[.int .i64 b0, .int .i64 b1, .int .i64 b2, .int .i64 b3, .int .i64 b4, .int .i64 b5, .int .i64 b6, .int .i64 b7, .int .i64 b8]] w fun e w' => e = .returned (.bool true) ∧ Below w.heap.size w w' := by
  obtain ⟨y0, hr0⟩ := Rd.of_rows h0
  have R0 := Lib.hid hr0
  have hm0 : (n0 : Int) ≤ 9223372036854775807 := isRows_len h0
  clear h0 hr0
  by_cases hl0 : (1048576 : Int) < n0
  · go_enter Try.func13, Try.ntmps13
    go_wp2_with (go_at_call 14; ((with_reducible refine (szBoxS_big _ _ _ _ hl0 hm0).mono ?_); rintro e w' ⟨rfl, rfl⟩))
    go_ret
    exact ⟨rfl, (Below.refl _ _).alloc (Nat.le_refl _) _⟩
  have hn0 : n0 ≤ 2000000 := by omega
  have hk0 : (n0 : Int) ≤ 1048576 := by omega
  obtain ⟨N, hN⟩ : ∃ N, Hid ((stL y0 n0 a1 b1 b2 b3 b4 b5 b6 b7 b8).length = 9 * N) := stL_len _ _ _ _ _ _ _ _ _ _ _
  have hN1 : N ≤ 1100000 := by have h1 := hN.out; have h2 := stL_le y0 n0 a1 b1 b2 b3 b4 b5 b6 b7 b8; omega
  obtain ⟨r, hr⟩ : ∃ r, Hid (stO y0 n0 a1 b1 b2 b3 b4 b5 b6 b7 b8 = r) := ⟨_, Lib.hid rfl⟩
  go_enter Try.func13, Try.ntmps13
  go_wp2_with fail
  refine (szBoxS_any _ _ _ _ hk0).mono ?_
  rintro e w' ⟨rfl, rfl⟩
  have E0 := Lib.hid (Bx9.made b0 b1 b2 b3 b4 b5 b6 b7 b8 51 (Below.refl w.heap.size w))
  have ZWb := Lib.hid E0.out.lt
  have BB0 := Lib.hid E0.out.bl
  generalize w.alloc (.cells #[.int .i64 b0, .int .i64 b1, .int .i64 b2, .int .i64 b3, .int .i64 b4, .int .i64 b5, .int .i64 b6, .int .i64 b7, .int .i64 b8] 51) = wb at E0 BB0 ZWb ⊢
  go_wp2
  have HS0 := Lib.hid E0.out.drew
  go_region_held3 (fun w' => w'.cell? ⟨w.heap.size, 0, none⟩ = some (.int .i64 b0) ∧ w'.cell? ⟨w.heap.size, 1, none⟩ = some (.int .i64 b1) ∧ w'.cell? ⟨w.heap.size, 2, none⟩ = some (.int .i64 b2) ∧ w'.cell? ⟨w.heap.size, 3, none⟩ = some (.int .i64 b3) ∧ w'.cell? ⟨w.heap.size, 4, none⟩ = some (.int .i64 b4) ∧ w'.cell? ⟨w.heap.size, 5, none⟩ = some (.int .i64 b5) ∧ w'.cell? ⟨w.heap.size, 6, none⟩ = some (.int .i64 b6) ∧ w'.cell? ⟨w.heap.size, 7, none⟩ = some (.int .i64 b7) ∧ w'.cell? ⟨w.heap.size, 8, none⟩ = some (.int .i64 b8))
    (first | exact Bx9.cells E3 | exact Bx9.cells E2 | exact Bx9.cells E1 | exact Bx9.cells HS0)
    (first
    | (go_at_call 16; refine (toBoxS_any A0 n0 c0 y0 _ ((R0.out.below HS0.out.bl).more HS0.out.bl.size) hn0).mono ?_; rintro e w1 ⟨Ax, cx, rfl, kx, mx, hw, hb⟩; have Sx := Lib.hid hw; have ZW1 : Hid (wb.heap.size ≤ w1.heap.size) := Lib.hid hb.size; have BB1 := Lib.hid (HS0.out.bl.trans (hb.mono HS0.out.bl.size)); have E1 := Lib.hid (HS0.out.below hb); clear hw hb kx mx)
    | (go_at_call 46; refine (toBox_any b0 b1 b2 b3 b4 b5 b6 b7 b8 _).mono ?_; rintro e w2 ⟨rfl, hb⟩; have Sy := Lib.hid (Sx.out.below hb); have ZW2 : Hid (w1.heap.size ≤ w2.heap.size) := Lib.hid hb.size; have BB2 := Lib.hid (BB1.out.trans (hb.mono BB1.out.size)); have E2 := Lib.hid (E1.out.below hb); clear hb)
    | (go_at_call 45; refine (sStyleBox_any Ax n0 cx y0 a1 b0 b1 b2 b3 b4 b5 b6 b7 b8 _ Sy.out.rd (by omega)).mono ?_; rintro e w3 ⟨Ag3, ng3, cg3, rfl, kk, hw, hb⟩; rw [hr.out]; have eg3 : N = ng3 := (by have h1 := hN.out; have h2 := hw.1; omega); subst eg3; have Sg3_3 := Lib.hid hw; have Hg3 := Lib.hid hw.hi; have kg3' := Lib.hid kk; have ZW3 : Hid (w2.heap.size ≤ w3.heap.size) := Lib.hid hb.size; have BB3 := Lib.hid (BB2.out.trans (hb.mono BB2.out.size)); have E3 := Lib.hid (E2.out.below hb); clear hw hb kk))
  clear Sx Sy HS0
  go_wp2_with fail
  refine (toBoxS_any A0 n0 c0 y0 _ ((R0.out.below BB3.out).more BB3.out.size) hn0).mono ?_
  rintro e w4 ⟨Ax4, cx4, rfl, kx4, mx4, hw, hb⟩
  have Sx4_4 := Lib.hid hw
  have kx4' := Lib.hid kx4
  have mx4' := Lib.hid mx4
  have Hx4 := Lib.hid hw.hi
  clear hw kx4 mx4
  have E4 := Lib.hid (E3.out.below hb)
  have BB4 := Lib.hid (BB3.out.trans (hb.mono BB3.out.size))
  have Sg3_4 := Lib.hid (Sg3_3.out.below hb)
  have ZW4 := Lib.hid hb.size
  clear hb
  have q0 := E4.out.c0
  have q1 := E4.out.c1
  have q2 := E4.out.c2
  have q3 := E4.out.c3
  have q4 := E4.out.c4
  have q5 := E4.out.c5
  have q6 := E4.out.c6
  have q7 := E4.out.c7
  have q8 := E4.out.c8
  go_wp2_with fail
  refine (toBox_any b0 b1 b2 b3 b4 b5 b6 b7 b8 _).mono ?_
  rintro e w5 ⟨rfl, hb⟩
  clear q0 q1 q2 q3 q4 q5 q6 q7 q8
  have E5 := Lib.hid (E4.out.below hb)
  have BB5 := Lib.hid (BB4.out.trans (hb.mono BB4.out.size))
  have Sg3_5 := Lib.hid (Sg3_4.out.below hb)
  have Sx4_5 := Lib.hid (Sx4_4.out.below hb)
  have ZW5 := Lib.hid hb.size
  clear hb
  go_wp2_with fail
  refine (iStyleBox_any Ax4 n0 cx4 y0 a1 b0 b1 b2 b3 b4 b5 b6 b7 b8 _ Sx4_5.out.rd (by omega)).mono ?_
  rintro e w6 ⟨Ag6, ng6, cg6, rfl, kk, hw, hb⟩
  rw [hr.out]
  have eg6 : N = ng6 := (by have h1 := hN.out; have h2 := hw.1; omega)
  subst eg6
  have Sg6_6 := Lib.hid hw
  have Hg6 := Lib.hid hw.hi
  have kg6' := Lib.hid kk
  clear hw kk
  have E6 := Lib.hid (E5.out.below hb)
  have BB6 := Lib.hid (BB5.out.trans (hb.mono BB5.out.size))
  have Sg3_6 := Lib.hid (Sg3_5.out.below hb)
  have Sx4_6 := Lib.hid (Sx4_5.out.below hb)
  have ZW6 := Lib.hid hb.size
  clear hb
  go_wp2_with fail
  refine (eqBoxS_any Ag6 Ag3 N cg6 cg3 (stL y0 n0 a1 b1 b2 b3 b4 b5 b6 b7 b8) _ Sg6_6.out.rd Sg3_6.out.rd (by omega)).mono ?_
  rintro e w7 ⟨rfl, hb⟩
  have E7 := Lib.hid (E6.out.below hb)
  have BB7 := Lib.hid (BB6.out.trans (hb.mono BB6.out.size))
  have Sg3_7 := Lib.hid (Sg3_6.out.below hb)
  have Sx4_7 := Lib.hid (Sx4_6.out.below hb)
  have Sg6_7 := Lib.hid (Sg6_6.out.below hb)
  have ZW7 := Lib.hid hb.size
  clear hb
  go_wp2_with fail
  refine (toBoxS_any A0 n0 c0 y0 _ ((R0.out.below BB7.out).more BB7.out.size) hn0).mono ?_
  rintro e w8 ⟨Ax8, cx8, rfl, kx8, mx8, hw, hb⟩
  have Sx8_8 := Lib.hid hw
  have kx8' := Lib.hid kx8
  have mx8' := Lib.hid mx8
  have Hx8 := Lib.hid hw.hi
  clear hw kx8 mx8
  have E8 := Lib.hid (E7.out.below hb)
  have BB8 := Lib.hid (BB7.out.trans (hb.mono BB7.out.size))
  have Sg3_8 := Lib.hid (Sg3_7.out.below hb)
  have Sx4_8 := Lib.hid (Sx4_7.out.below hb)
  have Sg6_8 := Lib.hid (Sg6_7.out.below hb)
  have ZW8 := Lib.hid hb.size
  clear hb
  go_wp2_with fail
  refine (eqBoxS_any Ax4 Ax8 n0 cx4 cx8 y0 _ Sx4_8.out.rd Sx8_8.out.rd (by omega)).mono ?_
  rintro e w9 ⟨rfl, hb⟩
  have E9 := Lib.hid (E8.out.below hb)
  have BB9 := Lib.hid (BB8.out.trans (hb.mono BB8.out.size))
  have Sg3_9 := Lib.hid (Sg3_8.out.below hb)
  have Sx4_9 := Lib.hid (Sx4_8.out.below hb)
  have Sg6_9 := Lib.hid (Sg6_8.out.below hb)
  have Sx8_9 := Lib.hid (Sx8_8.out.below hb)
  have ZW9 := Lib.hid hb.size
  clear hb
  clear Sx8_9
  go_wp2_with fail
  refine (markBoxS_any Ax4 n0 cx4 y0 1 w3.heap.size w4.heap.size _ Sx4_9.out (by omega) (by omega) (by omega) (fun b off e hn => Hx4.out b off e (by omega))).mono ?_
  rintro e w10 ⟨row, rfl, hw, hrow, hg⟩
  have BB10 := Lib.hid (bl_gb BB9.out hg BB9.out.size (fun g e => by have h1 := (hrow g e).1; have z0 := ZWb.out; have z1 := ZW1.out; have z2 := ZW2.out; have z3 := ZW3.out; have z4 := ZW4.out; have z5 := ZW5.out; have z6 := ZW6.out; have z7 := ZW7.out; have z8 := ZW8.out; have z9 := ZW9.out; omega))
  have E10 := Lib.hid (E9.out.grown hg (fun g e => by have h1 := (hrow g e).1; have z0 := ZWb.out; have z1 := ZW1.out; have z2 := ZW2.out; have z3 := ZW3.out; have z4 := ZW4.out; have z5 := ZW5.out; have z6 := ZW6.out; have z7 := ZW7.out; have z8 := ZW8.out; have z9 := ZW9.out; omega))
  have ZW10 := Lib.hid hg.size
  have Sg3_10 := Lib.hid (Sg3_9.out.grown2 Hg3.out hg (fun g e => by have h1 := (hrow g e).1; have h2 := (hrow g e).2; have z0 := ZWb.out; have z1 := ZW1.out; have z2 := ZW2.out; have z3 := ZW3.out; have z4 := ZW4.out; have z5 := ZW5.out; have z6 := ZW6.out; have z7 := ZW7.out; have z8 := ZW8.out; have z9 := ZW9.out; omega))
  have Sg6_10 := Lib.hid (Sg6_9.out.grown2 Hg6.out hg (fun g e => by have h1 := (hrow g e).1; have h2 := (hrow g e).2; have z0 := ZWb.out; have z1 := ZW1.out; have z2 := ZW2.out; have z3 := ZW3.out; have z4 := ZW4.out; have z5 := ZW5.out; have z6 := ZW6.out; have z7 := ZW7.out; have z8 := ZW8.out; have z9 := ZW9.out; omega))
  have Sx4_10 := Lib.hid hw
  clear hw hg hrow
  go_wp2_with fail
  refine (eqBoxS_any Ag6 Ag3 N cg6 cg3 (stL y0 n0 a1 b1 b2 b3 b4 b5 b6 b7 b8) _ Sg6_10.out.rd Sg3_10.out.rd (by omega)).mono ?_
  rintro e w11 ⟨rfl, hb⟩
  have E11 := Lib.hid (E10.out.below hb)
  have BB11 := Lib.hid (BB10.out.trans (hb.mono BB10.out.size))
  have Sg3_11 := Lib.hid (Sg3_10.out.below hb)
  have Sx4_11 := Lib.hid (Sx4_10.out.below hb)
  have Sg6_11 := Lib.hid (Sg6_10.out.below hb)
  have ZW11 := Lib.hid hb.size
  clear hb
  clear Sx4_11
  go_wp2_with fail
  refine (markBoxS_any Ag6 N cg6 (stL y0 n0 a1 b1 b2 b3 b4 b5 b6 b7 b8) 1 w5.heap.size w6.heap.size _ Sg6_11.out (by omega) (by omega) (by omega) (fun b off e hn => Hg6.out b off e (by omega))).mono ?_
  rintro e w12 ⟨row, rfl, hw, hrow, hg⟩
  have BB12 := Lib.hid (bl_gb BB11.out hg BB11.out.size (fun g e => by have h1 := (hrow g e).1; have z0 := ZWb.out; have z1 := ZW1.out; have z2 := ZW2.out; have z3 := ZW3.out; have z4 := ZW4.out; have z5 := ZW5.out; have z6 := ZW6.out; have z7 := ZW7.out; have z8 := ZW8.out; have z9 := ZW9.out; have z10 := ZW10.out; have z11 := ZW11.out; omega))
  have E12 := Lib.hid (E11.out.grown hg (fun g e => by have h1 := (hrow g e).1; have z0 := ZWb.out; have z1 := ZW1.out; have z2 := ZW2.out; have z3 := ZW3.out; have z4 := ZW4.out; have z5 := ZW5.out; have z6 := ZW6.out; have z7 := ZW7.out; have z8 := ZW8.out; have z9 := ZW9.out; have z10 := ZW10.out; have z11 := ZW11.out; omega))
  have ZW12 := Lib.hid hg.size
  have Sg3_12 := Lib.hid (Sg3_11.out.grown2 Hg3.out hg (fun g e => by have h1 := (hrow g e).1; have h2 := (hrow g e).2; have z0 := ZWb.out; have z1 := ZW1.out; have z2 := ZW2.out; have z3 := ZW3.out; have z4 := ZW4.out; have z5 := ZW5.out; have z6 := ZW6.out; have z7 := ZW7.out; have z8 := ZW8.out; have z9 := ZW9.out; have z10 := ZW10.out; have z11 := ZW11.out; omega))
  have Sg6_12 := Lib.hid hw
  clear hw hg hrow
  go_wp2_with fail
  refine (heldBoxS_any Ag6 N cg6 1 _ _ Sg6_12.out.rd (by omega) (by omega) (by omega)).mono ?_
  rintro e w_ ⟨rfl, rfl⟩
  go_wp2
  have HS0 := Lib.hid E12.out.drew
  go_region_held3 (fun w' => w'.cell? ⟨w.heap.size, 0, none⟩ = some (.int .i64 b0) ∧ w'.cell? ⟨w.heap.size, 1, none⟩ = some (.int .i64 b1) ∧ w'.cell? ⟨w.heap.size, 2, none⟩ = some (.int .i64 b2) ∧ w'.cell? ⟨w.heap.size, 3, none⟩ = some (.int .i64 b3) ∧ w'.cell? ⟨w.heap.size, 4, none⟩ = some (.int .i64 b4) ∧ w'.cell? ⟨w.heap.size, 5, none⟩ = some (.int .i64 b5) ∧ w'.cell? ⟨w.heap.size, 6, none⟩ = some (.int .i64 b6) ∧ w'.cell? ⟨w.heap.size, 7, none⟩ = some (.int .i64 b7) ∧ w'.cell? ⟨w.heap.size, 8, none⟩ = some (.int .i64 b8))
    (first | exact Bx9.cells E15 | exact Bx9.cells E14 | exact Bx9.cells E13 | exact Bx9.cells HS0)
    (first
    | (go_at_call 16; refine (toBoxS_any A0 n0 c0 y0 _ ((R0.out.below HS0.out.bl).more HS0.out.bl.size) hn0).mono ?_; rintro e w13 ⟨Ax, cx, rfl, kx, mx, hw, hb⟩; have Sx := Lib.hid hw; have ZW13 : Hid (w12.heap.size ≤ w13.heap.size) := Lib.hid hb.size; have BB13 := Lib.hid (HS0.out.bl.trans (hb.mono HS0.out.bl.size)); have Sg3_13 := Lib.hid (Sg3_12.out.drew.below hb); have Sg6_13 := Lib.hid (Sg6_12.out.drew.below hb); have E13 := Lib.hid (HS0.out.below hb); clear hw hb kx mx)
    | (go_at_call 46; refine (toBox_any b0 b1 b2 b3 b4 b5 b6 b7 b8 _).mono ?_; rintro e w14 ⟨rfl, hb⟩; have Sy := Lib.hid (Sx.out.below hb); have ZW14 : Hid (w13.heap.size ≤ w14.heap.size) := Lib.hid hb.size; have BB14 := Lib.hid (BB13.out.trans (hb.mono BB13.out.size)); have Sg3_14 := Lib.hid (Sg3_13.out.below hb); have Sg6_14 := Lib.hid (Sg6_13.out.below hb); have E14 := Lib.hid (E13.out.below hb); clear hb)
    | (go_at_call 47; refine (iStyleBox_any Ax n0 cx y0 a1 b0 b1 b2 b3 b4 b5 b6 b7 b8 _ Sy.out.rd (by omega)).mono ?_; rintro e w15 ⟨Ag15, ng15, cg15, rfl, kk, hw, hb⟩; rw [hr.out]; have eg15 : N = ng15 := (by have h1 := hN.out; have h2 := hw.1; omega); subst eg15; have Sg15_15 := Lib.hid hw; have Hg15 := Lib.hid hw.hi; have kg15' := Lib.hid kk; have ZW15 : Hid (w14.heap.size ≤ w15.heap.size) := Lib.hid hb.size; have BB15 := Lib.hid (BB14.out.trans (hb.mono BB14.out.size)); have Sg3_15 := Lib.hid (Sg3_14.out.below hb); have Sg6_15 := Lib.hid (Sg6_14.out.below hb); have E15 := Lib.hid (E14.out.below hb); clear hw hb kk))
  clear Sx Sy HS0
  go_wp2_with fail
  refine (eqBoxS_any Ag15 Ag3 N cg15 cg3 (stL y0 n0 a1 b1 b2 b3 b4 b5 b6 b7 b8) _ Sg15_15.out.rd Sg3_15.out.rd (by omega)).mono ?_
  rintro e w16 ⟨rfl, hb⟩
  have E16 := Lib.hid (E15.out.below hb)
  have BB16 := Lib.hid (BB15.out.trans (hb.mono BB15.out.size))
  have Sg3_16 := Lib.hid (Sg3_15.out.below hb)
  have Sg6_16 := Lib.hid (Sg6_15.out.below hb)
  have Sg15_16 := Lib.hid (Sg15_15.out.below hb)
  have ZW16 := Lib.hid hb.size
  clear hb
  go_wp2_with fail
  refine (heldBoxS_any Ag6 N cg6 1 _ _ Sg6_16.out.rd (by omega) (by omega) (by omega)).mono ?_
  rintro e w_ ⟨rfl, rfl⟩
  go_wp2
  go_ret
  exact ⟨rfl, BB16.out⟩
end Go.Proofs.Ytjaecgobgpfbdaa
