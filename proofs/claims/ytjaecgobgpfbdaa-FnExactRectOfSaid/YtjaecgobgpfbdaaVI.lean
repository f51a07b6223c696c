/- RectOf, by the program and by the reference. The exact law of RectOf: the walk. -/
import Derived.Test.YtjaecgobgpfbdaaVH
import Derived.Test.YtjaecgobgpfbdaaFO
namespace Go.Proofs.Ytjaecgobgpfbdaa
open Go.RowKit

/- The rectangle of box a, and whether there is one. -/
def rcO (zs : List Int) (n : Nat) (W H a : Int) : Bool := okR zs n W H && inB a 0 ((n : Int) - 1)
def rcQ (zs : List Int) (n : Nat) (W H a : Int) : Rc := if rcO zs n W H a then lay zs n W H a.toNat else ⟨0, 0, 0, 0⟩
theorem rcQ_no {zs : List Int} {n : Nat} {W H a : Int} (h : rcO zs n W H a = false) : rcQ zs n W H a = ⟨0, 0, 0, 0⟩ := by unfold rcQ; rw [h]; rfl
theorem rcQ_yes {zs : List Int} {n : Nat} {W H : Int} {k : Nat} (h : rcO zs n W H (k : Int) = true) : rcQ zs n W H (k : Int) = lay zs n W H k := by unfold rcQ; rw [h, Int.toNat_natCast]; rfl
def RcP (q : Rc) (o : Bool) (w : World) (e : Ending) (w' : World) : Prop := e = .returned (.tuple #[.agg #[.int .i64 q.x, .int .i64 q.y, .int .i64 q.w, .int .i64 q.h], .bool o]) ∧ Below w.heap.size w w'
theorem rcO_len {zs : List Int} {n m : Nat} {W H a : Int} (h : (lyR zs n W H).length = 4 * m) : rcO zs n W H a = inB a 0 ((m : Int) - 1) := by
  cases ho : okR zs n W H
  · rw [lyR_no ho] at h
    obtain rfl : m = 0 := by simp at h; omega
    unfold rcO
    rw [ho]
    symm
    rw [Bool.false_and, inB_not]
    omega
  · rw [lyR_yes ho, layL_len] at h
    obtain rfl : n = m := by omega
    unfold rcO
    rw [ho]
    rfl
theorem lyR_short (zs : List Int) (n : Nat) (W H : Int) : (lyR zs n W H).length ≤ 4 * n := by
  unfold lyR
  split
  · rw [layL_len]; exact Nat.le_refl _
  · exact Nat.zero_le _
theorem inB_at {a : Int} {m : Nat} (h : inB a 0 ((m : Int) - 1) = true) : ∃ k : Nat, a = (k : Int) ∧ k < m := by
  rw [inB_iff] at h
  exact ⟨a.toNat, by omega, by omega⟩
set_option maxHeartbeats 4000000 in
theorem iRectOf_any (A : Option Addr) (n c : Nat) (zs : List Int) (W H a : Int) (w : World) (h : Rd w w.heap.size A (9 * n) zs) (hn : n ≤ 1500000) :
    Calls Try.prog 17 #[.slice A n c, .int .i64 W, .int .i64 H, .int .i64 a] w (RcP (rcQ zs n W H a) (rcO zs n W H a) w) := by
  have R := Lib.hid h
  clear h
  have D0 := Lib.hid (Rm.made w ⟨0, 0, 0, 0⟩ 25)
  have B0 := Lib.hid ((Below.refl w.heap.size w).alloc (Nat.le_refl _) (.cells #[.int .i64 0, .int .i64 0, .int .i64 0, .int .i64 0] 25))
  have R0 := Lib.hid ((R.out.below B0.out).more B0.out.size)
  have Z0 := Lib.hid (show w.heap.size < (w.alloc (.cells #[.int .i64 0, .int .i64 0, .int .i64 0, .int .i64 0] 25)).heap.size by simp)
  obtain ⟨hi, hhi⟩ : ∃ hi, Hid ((n : Int) - 1 = hi) := ⟨_, Lib.hid rfl⟩
  have hwh : IntKind.i64.wrap ((n : Int) - 1) = hi := by rw [← hhi.out]; exact IntWalk.i64_in _ (by omega)
  dsimp only at D0
  cases ho : okR zs n W H
  · have HO : Hid (rcO zs n W H a = false) := Lib.hid (by unfold rcO; rw [ho]; rfl)
    go_enter Try.func17, Try.ntmps17
    go_wp2_with fail
    generalize w.alloc (.cells #[.int .i64 0, .int .i64 0, .int .i64 0, .int .i64 0] 25) = wa at D0 B0 R0 Z0 ⊢
    refine (screenOk_any A n c zs W H wa R0.out hn).mono ?_
    rintro e w1 ⟨rfl, hb⟩
    rw [show ((vtB zs n && inB W 0 10000) && inB H 0 10000) = false from ho]
    obtain ⟨c0, c1, c2, c3, f0, f1, f2, f3⟩ := D0.out.below hb
    have B1 := Lib.hid (B0.out.trans (hb.mono B0.out.size))
    clear hb
    go_wp2
    rw [HO.out, rcQ_no HO.out]
    exact bodyPost_ret (v := .tuple #[.agg #[.int .i64 0, .int .i64 0, .int .i64 0, .int .i64 0], .bool false]) (by simp [results, Try.results17, go_sem, c0, c1, c2, c3]) rfl ⟨rfl, (((B1.out.setCell (Nat.le_refl _) _).setCell (Nat.le_refl _) _).setCell (Nat.le_refl _) _).setCell (Nat.le_refl _) _⟩
  · cases hr : inB a 0 hi
    · have HO : Hid (rcO zs n W H a = false) := Lib.hid (by unfold rcO; rw [ho, hhi.out, hr]; rfl)
      go_enter Try.func17, Try.ntmps17
      go_wp2_with fail
      generalize w.alloc (.cells #[.int .i64 0, .int .i64 0, .int .i64 0, .int .i64 0] 25) = wa at D0 B0 R0 Z0 ⊢
      refine (screenOk_any A n c zs W H wa R0.out hn).mono ?_
      rintro e w1 ⟨rfl, hb⟩
      rw [show ((vtB zs n && inB W 0 10000) && inB H 0 10000) = true from ho]
      obtain ⟨c0, c1, c2, c3, f0, f1, f2, f3⟩ := D0.out.below hb
      have B1 := Lib.hid (B0.out.trans (hb.mono B0.out.size))
      clear hb
      go_wp2_with fail
      ((with_reducible refine (within_any _ _ _ _).mono ?_); rintro e w' ⟨rfl, rfl⟩; rw [hr])
      go_wp2
      rw [HO.out, rcQ_no HO.out]
      exact bodyPost_ret (v := .tuple #[.agg #[.int .i64 0, .int .i64 0, .int .i64 0, .int .i64 0], .bool false]) (by simp [results, Try.results17, go_sem, c0, c1, c2, c3]) rfl ⟨rfl, (((B1.out.setCell (Nat.le_refl _) _).setCell (Nat.le_refl _) _).setCell (Nat.le_refl _) _).setCell (Nat.le_refl _) _⟩
    · obtain ⟨k, rfl, hk⟩ := inB_at (by rw [hhi.out]; exact hr)
      have HO : Hid (rcO zs n W H k = true) := Lib.hid (by unfold rcO; rw [ho, hhi.out, hr]; rfl)
      obtain ⟨hv, hW, hH⟩ := okR_of ho
      obtain ⟨bt, ot, rfl⟩ := R.out.some9 hv.one
      have HV := Lib.hid hv
      have HW := Lib.hid hW
      have HH := Lib.hid hH
      have n16 := hv.few
      have LA := Lib.hid (layL_at (zs := zs) W H hk)
      clear hv hW hH
      obtain ⟨q, hq⟩ : ∃ q, Hid (lay zs n W H k = q) := ⟨_, Lib.hid rfl⟩
      rw [hq.out] at LA
      have hk0 : (0 : Int) ≤ (k : Int) := by omega
      have hk1 : (k : Int) < (n : Int) := by omega
      go_enter Try.func17, Try.ntmps17
      go_wp2_with fail
      generalize w.alloc (.cells #[.int .i64 0, .int .i64 0, .int .i64 0, .int .i64 0] 25) = wa at D0 B0 R0 Z0 ⊢
      refine (screenOk_any _ n c zs W H wa R0.out hn).mono ?_
      rintro e w1 ⟨rfl, hb⟩
      rw [show ((vtB zs n && inB W 0 10000) && inB H 0 10000) = true from ho]
      have D1 := Lib.hid (D0.out.below hb)
      have B1 := Lib.hid (B0.out.trans (hb.mono B0.out.size))
      have R1 := Lib.hid ((R0.out.below hb).more hb.size)
      have Z1 := Lib.hid (Nat.lt_of_lt_of_le Z0.out hb.size)
      clear hb ho D0 R0 Z0 B0
      go_wp2_with fail
      ((with_reducible refine (within_any _ _ _ _).mono ?_); rintro e w' ⟨rfl, rfl⟩; rw [hr])
      go_wp2_with fail
      refine (layoutOf_any zs n bt ot c W H w1 R1.out HV.out HW.out HH.out).mono ?_
      rintro e w2 ⟨gl, bo, rfl, hS, hb⟩
      obtain ⟨c0, c1, c2, c3, f0, f1, f2, f3⟩ := D1.out.below hb
      have B2 := Lib.hid (B1.out.trans (hb.mono B1.out.size))
      have e1 := hS.l
      obtain ⟨lb, _, ⟨d0, _⟩, ⟨d1, _⟩, ⟨d2, _⟩, ⟨d3, _⟩⟩ := hS.wr.at_4 hk
      have hne : ¬ bo = w.heap.size := by have := Z1.out; omega
      have hne2 : ¬ w.heap.size = bo := by omega
      obtain ⟨q0, q1, q2, q3⟩ := LA.out
      rw [q0] at d0
      rw [q1] at d1
      rw [q2] at d2
      rw [q3] at d3
      simp only [Nat.zero_add] at d0 d1 d2 d3
      clear hb hS lb q0 q1 q2 q3
      go_wp2
      rw [HO.out, rcQ_yes HO.out, hq.out]
      exact bodyPost_ret (v := .tuple #[.agg #[.int .i64 q.x, .int .i64 q.y, .int .i64 q.w, .int .i64 q.h], .bool true]) (by simp [results, Try.results17, go_sem, c0, c1, c2, c3]) rfl ⟨rfl, (((B2.out.setCell (Nat.le_refl _) _).setCell (Nat.le_refl _) _).setCell (Nat.le_refl _) _).setCell (Nat.le_refl _) _⟩
set_option maxHeartbeats 4000000 in
theorem sRectOf_any (A : Option Addr) (n c : Nat) (zs : List Int) (W H a : Int) (w : World) (h : Rd w w.heap.size A (9 * n) zs) (hn : n ≤ 1500000) :
    Calls Try.prog 15 #[.slice A n c, .int .i64 W, .int .i64 H, .int .i64 a] w (RcP (rcQ zs n W H a) (rcO zs n W H a) w) := by
  have R := Lib.hid h
  clear h
  have D0 := Lib.hid (Rm.made w ⟨0, 0, 0, 0⟩ 25)
  have B0 := Lib.hid ((Below.refl w.heap.size w).alloc (Nat.le_refl _) (.cells #[.int .i64 0, .int .i64 0, .int .i64 0, .int .i64 0] 25))
  have R0 := Lib.hid ((R.out.below B0.out).more B0.out.size)
  have Z0 := Lib.hid (show w.heap.size < (w.alloc (.cells #[.int .i64 0, .int .i64 0, .int .i64 0, .int .i64 0] 25)).heap.size by simp)
  dsimp only at D0
  go_enter Try.func15, Try.ntmps15
  go_wp2_with fail
  generalize w.alloc (.cells #[.int .i64 0, .int .i64 0, .int .i64 0, .int .i64 0] 25) = wa at D0 B0 R0 Z0 ⊢
  refine (sLayoutTree_any A n c zs W H wa R0.out hn).mono ?_
  rintro e w1 ⟨A1, m, m1, rfl, hm1, hw, hb⟩
  have W1 := Lib.hid hw
  have M1 := Lib.hid hm1
  have HL := Lib.hid hw.len
  have m16 : m ≤ 1500000 := by have h1 := hw.len; have h2 := lyR_short zs n W H; omega
  obtain ⟨c0, c1, c2, c3, f0, f1, f2, f3⟩ := D0.out.below hb
  have B1 := Lib.hid (B0.out.trans (hb.mono B0.out.size))
  clear hw hm1 hb
  obtain ⟨hi, hhi⟩ : ∃ hi, Hid ((m : Int) - 1 = hi) := ⟨_, Lib.hid rfl⟩
  have hwh : IntKind.i64.wrap ((m : Int) - 1) = hi := by rw [← hhi.out]; exact IntWalk.i64_in _ (by omega)
  cases hr : inB a 0 hi
  · have HO : Hid (rcO zs n W H a = false) := Lib.hid (by rw [rcO_len HL.out, hhi.out]; exact hr)
    go_wp2_with fail
    ((with_reducible refine (inRange_any _ _ _ _).mono ?_); rintro e w' ⟨rfl, rfl⟩; rw [hr])
    go_wp2
    rw [HO.out, rcQ_no HO.out]
    exact bodyPost_ret (v := .tuple #[.agg #[.int .i64 0, .int .i64 0, .int .i64 0, .int .i64 0], .bool false]) (by simp [results, Try.results15, go_sem, c0, c1, c2, c3]) rfl ⟨rfl, (((B1.out.setCell (Nat.le_refl _) _).setCell (Nat.le_refl _) _).setCell (Nat.le_refl _) _).setCell (Nat.le_refl _) _⟩
  · have HO : Hid (rcO zs n W H a = true) := Lib.hid (by rw [rcO_len HL.out, hhi.out]; exact hr)
    obtain ⟨k, rfl, hk⟩ := inB_at (by rw [hhi.out]; exact hr)
    have ho : okR zs n W H = true := by
      have h1 := HO.out
      unfold rcO at h1
      rw [Bool.and_eq_true] at h1
      exact h1.1
    have e1 := HL.out
    rw [lyR_yes ho, layL_len] at e1
    obtain rfl : n = m := by omega
    have e2 := W1.out
    rw [lyR_yes ho] at e2
    obtain ⟨b1, o1, rfl, lb, _⟩ := e2.2 (by omega)
    obtain ⟨_, _, ⟨d0, _⟩, ⟨d1, _⟩, ⟨d2, _⟩, ⟨d3, _⟩⟩ := e2.at_4 hk
    obtain ⟨q0, q1, q2, q3⟩ := layL_at (zs := zs) W H hk
    rw [q0] at d0
    rw [q1] at d1
    rw [q2] at d2
    rw [q3] at d3
    obtain ⟨q, hq⟩ : ∃ q, Hid (lay zs n W H k = q) := ⟨_, Lib.hid rfl⟩
    rw [hq.out] at d0 d1 d2 d3
    have hk0 : (0 : Int) ≤ (k : Int) := by omega
    have hk1 : (k : Int) < (n : Int) := by omega
    have hne : ¬ b1 = w.heap.size := by have := Z0.out; omega
    have hne2 : ¬ w.heap.size = b1 := by omega
    clear e1 e2 q0 q1 q2 q3 ho lb
    go_wp2_with fail
    ((with_reducible refine (inRange_any _ _ _ _).mono ?_); rintro e w' ⟨rfl, rfl⟩; rw [hr])
    go_wp2
    rw [HO.out, rcQ_yes HO.out, hq.out]
    exact bodyPost_ret (v := .tuple #[.agg #[.int .i64 q.x, .int .i64 q.y, .int .i64 q.w, .int .i64 q.h], .bool true]) (by simp [results, Try.results15, go_sem, c0, c1, c2, c3]) rfl ⟨rfl, (((B1.out.setCell (Nat.le_refl _) _).setCell (Nat.le_refl _) _).setCell (Nat.le_refl _) _).setCell (Nat.le_refl _) _⟩
end Go.Proofs.Ytjaecgobgpfbdaa
namespace Go.Proofs.Ytjaecgobgpfbdaa
open Go.RowKit

set_option maxHeartbeats 4000000 in
theorem walkFnExactRectOf (A0 : Option Addr) (n0 c0 : Nat) (a1 : Int) (a2 : Int) (a3 : Int) (w : World) (h0 : IsRows 9 w A0 n0 c0) (_ : (Lit.int .i64 a1).wf = true) (_ : (Lit.int .i64 a2).wf = true) (_ : (Lit.int .i64 a3).wf = true) :
    Calls Try.prog 3 #[.slice A0 n0 c0, .int .i64 a1, .int .i64 a2, .int .i64 a3] w fun e w' => e = .returned (.bool true) ∧ Below w.heap.size w w' := by
  obtain ⟨y0, hr0⟩ := Rd.of_rows h0
  have R0 := Lib.hid hr0
  have hm0 : (n0 : Int) ≤ 9223372036854775807 := isRows_len h0
  clear h0 hr0
  by_cases hl0 : (1048576 : Int) < n0
  · go_enter Try.func3, Try.ntmps3
    go_wp2_with (go_at_call 14; ((with_reducible refine (szBoxS_big _ _ _ _ hl0 hm0).mono ?_); rintro e w' ⟨rfl, rfl⟩))
    go_ret
    exact ⟨rfl, Below.refl _ _⟩
  have hn0 : n0 ≤ 2000000 := by omega
  have hk0 : (n0 : Int) ≤ 1048576 := by omega
  have BB0 := Lib.hid (Below.refl w.heap.size w)
  obtain ⟨q, hq⟩ : ∃ q, Hid (rcQ y0 n0 a1 a2 a3 = q) := ⟨_, Lib.hid rfl⟩
  obtain ⟨o, ho⟩ : ∃ o, Hid (rcO y0 n0 a1 a2 a3 = o) := ⟨_, Lib.hid rfl⟩
  go_enter Try.func3, Try.ntmps3
  go_wp2_with fail
  refine (szBoxS_any _ _ _ _ hk0).mono ?_
  rintro e w' ⟨rfl, rfl⟩
  go_wp2_with fail
  refine (toBoxS_any A0 n0 c0 y0 _ ((R0.out.below BB0.out).more BB0.out.size) hn0).mono ?_
  rintro e w1 ⟨Ax1, cx1, rfl, _, _, hw, hb⟩
  have Sx1 := Lib.hid hw
  have BB1 := Lib.hid (BB0.out.trans (hb.mono BB0.out.size))
  clear hw hb
  go_wp2_with fail
  refine (sRectOf_any Ax1 n0 cx1 y0 a1 a2 a3 _ Sx1.out.rd (by omega)).mono ?_
  rintro e w2 ⟨rfl, hb⟩
  rw [hq.out, ho.out]
  have BB2 := Lib.hid ((BB1.out.trans (hb.mono BB1.out.size)).alloc (Nat.le_trans BB1.out.size hb.size) (.cells #[.int .i64 q.x, .int .i64 q.y, .int .i64 q.w, .int .i64 q.h] 25))
  have G2 := Lib.hid (Rm.made w2 q 25)
  clear hb Sx1
  obtain ⟨g, hg⟩ : ∃ g, Hid (w2.heap.size = g) := ⟨_, Lib.hid rfl⟩
  go_wp2_with fail
  rw [hg.out] at G2 ⊢
  generalize w2.alloc (.cells #[.int .i64 q.x, .int .i64 q.y, .int .i64 q.w, .int .i64 q.h] 25) = wa at BB2 G2 ⊢
  refine (toBoxS_any A0 n0 c0 y0 _ ((R0.out.below BB2.out).more BB2.out.size) hn0).mono ?_
  rintro e w3 ⟨Ax3, cx3, rfl, _, _, hw, hb⟩
  have Sx3 := Lib.hid hw
  have BB3 := Lib.hid (BB2.out.trans (hb.mono BB2.out.size))
  have G3 := Lib.hid (G2.out.below hb)
  clear hw hb
  go_wp2_with fail
  refine (iRectOf_any Ax3 n0 cx3 y0 a1 a2 a3 _ Sx3.out.rd (by omega)).mono ?_
  rintro e w4 ⟨rfl, hb⟩
  rw [hq.out, ho.out]
  have hb4 := hb.alloc hb.size (.cells #[.int .i64 q.x, .int .i64 q.y, .int .i64 q.w, .int .i64 q.h] 25)
  have BB4 := Lib.hid (BB3.out.trans (hb4.mono BB3.out.size))
  have P4 := Lib.hid (Rm.made w4 q 25)
  have G4 := Lib.hid (G3.out.below hb4)
  have Sx4 := Lib.hid (Sx3.out.below hb4)
  clear hb hb4
  obtain ⟨f, hf⟩ : ∃ f, Hid (w4.heap.size = f) := ⟨_, Lib.hid rfl⟩
  obtain ⟨c0, c1, c2, c3, _⟩ := G4.out
  obtain ⟨d0, d1, d2, d3, _⟩ := P4.out
  go_wp2_with fail
  refine (eqRect_any q.x q.y q.w q.h _).mono ?_
  rintro e w5 ⟨rfl, hb⟩
  have BB5 := Lib.hid (BB4.out.trans (hb.mono BB4.out.size))
  have Sx5 := Lib.hid (Sx4.out.below hb)
  clear hb c0 c1 c2 c3 d0 d1 d2 d3 G4 P4 BB4 Sx4
  cases o
  all_goals
    go_wp2_with fail
    refine (toBoxS_any A0 n0 c0 y0 _ ((R0.out.below BB5.out).more BB5.out.size) hn0).mono ?_
    rintro e w6 ⟨Ax6, cx6, rfl, _, _, hw, hb⟩
    have Sx6 := Lib.hid hw
    have BB6 := Lib.hid (BB5.out.trans (hb.mono BB5.out.size))
    have Sx36 := Lib.hid (Sx5.out.below hb)
    clear hw hb
    go_wp2_with fail
    refine (eqBoxS_any Ax3 Ax6 n0 cx3 cx6 y0 _ Sx36.out.rd Sx6.out.rd (by omega)).mono ?_
    rintro e w7 ⟨rfl, hb⟩
    have BB7 := Lib.hid (BB6.out.trans (hb.mono BB6.out.size))
    clear hb
    go_wp2
    go_ret
    exact ⟨rfl, BB7.out⟩
end Go.Proofs.Ytjaecgobgpfbdaa
