/- Comparisons of slices of rectangles. LayoutTree, by the program and by the reference. -/
import Derived.Test.YtjaecgobgpfbdaaGB
import Derived.Test.YtjaecgobgpfbdaaGA
import Derived.Test.YtjaecgobgpfbdaaVF
import Derived.Test.YtjaecgobgpfbdaaVG
namespace Go.Proofs.Ytjaecgobgpfbdaa
open Go.RowKit

set_option maxHeartbeats 1000000 in
theorem eqRect_any (x0 x1 x2 x3 : Int) (w : World) :
    Calls Try.prog 18 #[.agg #[.int .i64 x0, .int .i64 x1, .int .i64 x2, .int .i64 x3], .agg #[.int .i64 x0, .int .i64 x1, .int .i64 x2, .int .i64 x3]] w fun e w' => e = .returned (.bool true) ∧ Below w.heap.size w w' := by
  go_enter Try.func18, Try.ntmps18
  go_wp2
  go_ret
  exact ⟨rfl, ((Below.refl _ _).alloc (Nat.le_refl _) _).alloc (by simp) _⟩
set_option maxHeartbeats 2000000 in
theorem eqRectS_any (A A' : Option Addr) (n c c' : Nat) (zs : List Int) (w : World) (h : Rd w w.heap.size A (4 * n) zs) (h' : Rd w w.heap.size A' (4 * n) zs) (hn : n ≤ 2000000) :
    Calls Try.prog 28 #[.slice A n c, .slice A' n c'] w fun e w' => e = .returned (.bool true) ∧ Below w.heap.size w w' := by
  have H := Lib.hid h
  have H' := Lib.hid h'
  clear h h'
  go_enter Try.func28, Try.ntmps28
  go_wp2
  go_loopw [5] (fun i wr => ∃ k : Nat, k ≤ n ∧ i = .int .i64 k ∧ Hid (KB w wr)) (fun i _ => n - (intOf i).toNat)
  case atStart => exact ⟨0, Nat.zero_le _, rfl, Below.refl _ _⟩
  case round =>
    obtain ⟨k, hk, rfl, hS⟩ := hrel
    by_cases hlt : k < n
    · obtain ⟨b, off, rfl, hb, hc⟩ := H.out.cell (by omega)
      obtain ⟨b', off', rfl, hb', hc'⟩ := H'.out.cell (by omega)
      have hcell : ∀ (m : Kept (KB w)) j, j < 4 * n → m.val.cell? ⟨b, off + j, none⟩ = some (.int .i64 (zs.getD j 0)) := fun m j hj => by rw [Below.cell (show Below w.heap.size w m.val from m.ok) (p := ⟨b, off + j, none⟩) hb]; exact hc j hj
      have hcell' : ∀ (m : Kept (KB w)) j, j < 4 * n → m.val.cell? ⟨b', off' + j, none⟩ = some (.int .i64 (zs.getD j 0)) := fun m j hj => by rw [Below.cell (show Below w.heap.size w m.val from m.ok) (p := ⟨b', off' + j, none⟩) hb']; exact hc' j hj
      have hat := fun m => at4 (hcell m) hlt
      have hat' := fun m => at4 (hcell' m) hlt
      clear hcell hcell' hc hc'
      obtain ⟨x0, h0⟩ : ∃ x, Hid (zs.getD (4 * k) 0 = x) := ⟨_, rfl⟩
      obtain ⟨x1, h1⟩ : ∃ x, Hid (zs.getD (4 * k + 1) 0 = x) := ⟨_, rfl⟩
      obtain ⟨x2, h2⟩ : ∃ x, Hid (zs.getD (4 * k + 2) 0 = x) := ⟨_, rfl⟩
      obtain ⟨x3, h3⟩ : ∃ x, Hid (zs.getD (4 * k + 3) 0 = x) := ⟨_, rfl⟩
      have hk0 : (0 : Int) ≤ (k : Int) := by omega
      have hk1 : (k : Int) < (n : Int) := by omega
      have c0 : ∀ m : Kept (KB w), m.val.cell? ⟨b, off + k * 4, none⟩ = some (.int .i64 x0) := fun m => by rw [← h0.out]; exact (hat m).1
      have d0 : ∀ m : Kept (KB w), m.val.cell? ⟨b', off' + k * 4, none⟩ = some (.int .i64 x0) := fun m => by rw [← h0.out]; exact (hat' m).1
      have c1 : ∀ m : Kept (KB w), m.val.cell? ⟨b, off + k * 4 + 1, none⟩ = some (.int .i64 x1) := fun m => by rw [← h1.out]; exact (hat m).2.1
      have d1 : ∀ m : Kept (KB w), m.val.cell? ⟨b', off' + k * 4 + 1, none⟩ = some (.int .i64 x1) := fun m => by rw [← h1.out]; exact (hat' m).2.1
      have c2 : ∀ m : Kept (KB w), m.val.cell? ⟨b, off + k * 4 + 2, none⟩ = some (.int .i64 x2) := fun m => by rw [← h2.out]; exact (hat m).2.2.1
      have d2 : ∀ m : Kept (KB w), m.val.cell? ⟨b', off' + k * 4 + 2, none⟩ = some (.int .i64 x2) := fun m => by rw [← h2.out]; exact (hat' m).2.2.1
      have c3 : ∀ m : Kept (KB w), m.val.cell? ⟨b, off + k * 4 + 3, none⟩ = some (.int .i64 x3) := fun m => by rw [← h3.out]; exact (hat m).2.2.2
      have d3 : ∀ m : Kept (KB w), m.val.cell? ⟨b', off' + k * 4 + 3, none⟩ = some (.int .i64 x3) := fun m => by rw [← h3.out]; exact (hat' m).2.2.2
      clear hat hat'
      have HK := Lib.hid (fun (m : Kept (KB w)) (W : World) (hb : Below m.val.heap.size m.val W) => show KB w W from (show Below w.heap.size w m.val from m.ok).trans (hb.mono (show Below w.heap.size w m.val from m.ok).size))
      have HS0 : Hid (KB w wr.drew) := Below.drew hS.out
      go_wp2
      refine region_keep (S := KB w) (by kernel_rfl) (by kernel_rfl) HS0.out fun hne => ?_
      repeat (go_big_quiet_step ((go_at_call 18; with_reducible exact keep_call (eqRect_any x0 x1 x2 x3 _) (HK.out _))))
      refine wpQuiet_nil ?_
      intro w9 hw'
      obtain ⟨m9, hw''⟩ := hw'
      have hS9 := m9.ok
      rw [← hw''] at hS9
      clear hw'' c0 d0 c1 d1 c2 d2 c3 d3 HK
      have hS9 := Lib.hid hS9
      go_wp2
      go_roundw
      case rel => exact ⟨k + 1, by omega, by go_num, hS9.out⟩
      case measure => simp [intOf]; omega
    · go_wp2
      go_ret
      exact ⟨rfl, hS.out⟩
end Go.Proofs.Ytjaecgobgpfbdaa
namespace Go.Proofs.Ytjaecgobgpfbdaa
open Go.RowKit

def okR (zs : List Int) (n : Nat) (W H : Int) : Bool := (vtB zs n && inB W 0 10000) && inB H 0 10000
def lyR (zs : List Int) (n : Nat) (W H : Int) : List Int := if okR zs n W H then layL zs n W H else []
theorem okR_of {zs : List Int} {n : Nat} {W H : Int} (h : okR zs n W H = true) : VT zs n ∧ (0 ≤ W ∧ W ≤ 10000) ∧ 0 ≤ H ∧ H ≤ 10000 := by
  unfold okR at h
  rw [Bool.and_eq_true, Bool.and_eq_true, inB_iff, inB_iff] at h
  exact ⟨vtB_iff.1 h.1.1, h.1.2, h.2⟩
theorem lyR_yes {zs : List Int} {n : Nat} {W H : Int} (h : okR zs n W H = true) : lyR zs n W H = layL zs n W H := by unfold lyR; rw [h]; rfl
theorem lyR_no {zs : List Int} {n : Nat} {W H : Int} (h : okR zs n W H = false) : lyR zs n W H = [] := by unfold lyR; rw [h]; rfl
theorem GotK.nil {K : Nat} {w w' : World} (hb : Below w.heap.size w w') : GotK K w [] (.returned (.slice none 0 0)) w' := ⟨none, 0, 0, rfl, Nat.le_refl _, Wr.nil _ _ _, hb⟩
set_option maxRecDepth 100000 in
set_option maxHeartbeats 4000000 in
theorem slayout_any (zs : List Int) (n bt ot ct : Nat) (W H : Int) (w : World) (h : Rd w w.heap.size (some ⟨bt, ot, none⟩) (9 * n) zs) (hv : VT zs n) (hW : 0 ≤ W ∧ W ≤ 10000) (hH : 0 ≤ H ∧ H ≤ 10000) :
    Calls Try.prog 58 #[.slice (some ⟨bt, ot, none⟩) n ct, .int .i64 W, .int .i64 H] w (GotK 4 w (layL zs n W H)) := by
  have R := Lib.hid h
  have HV := Lib.hid hv
  have HW := Lib.hid hW
  have HH := Lib.hid hH
  have n16 := hv.few
  have n1 := hv.one
  have hmk := made_rects n (by omega)
  clear h hv hW hH
  go_enter Try.func58, Try.ntmps58
  go_wp2_with fail
  have WO := Lib.hid (Wr.made w w.heap.size (4 * n) 25 (Nat.le_refl _))
  have TR := Lib.hid (R.out.alloc (Nat.le_refl _) (.cells (madeCells #[Value.int .i64 0] (4 * n)) 25))
  have B0 := Lib.hid ((Below.refl w.heap.size w).alloc (Nat.le_refl _) (.cells (madeCells #[Value.int .i64 0] (4 * n)) 25))
  generalize w.alloc (.cells (madeCells #[Value.int .i64 0] (4 * n)) 25) = wa at WO TR B0 ⊢
  have P0 := place_fuel zs n bt ot ct w.heap.size 0 n w.heap.size W H HV HW HH n 0 (by omega) (by omega) _ wa TR WO
  rw [lay_zero] at P0
  dsimp only at P0
  refine P0.mono ?_
  clear P0
  rintro e w2 ⟨rfl, hg, ys2, hw2, _, hkk⟩
  have W2 : Hid (Wr w2 w.heap.size (some ⟨w.heap.size, 0, none⟩) (4 * n) (layL zs n W H)) := by
    rw [← layL_of hw2.len (fun j hj => hkk j hj (pth_zero_mem HV.out.par j hj))]
    exact Lib.hid hw2
  have B2 := Lib.hid (B0.out.grown hg B0.out.size (fun g e => by injection e with e; omega))
  clear hg hw2 hkk
  go_wp2
  go_ret
  exact ⟨_, n, n, rfl, Nat.le_refl _, W2.out, B2.out⟩
theorem Rd.some9 {w : World} {B n : Nat} {A : Option Addr} {zs : List Int} (h : Rd w B A (9 * n) zs) (hn : 1 ≤ n) : ∃ bt ot, A = some ⟨bt, ot, none⟩ := by
  obtain ⟨b, o, e, _⟩ := h.2 (by omega)
  exact ⟨b, o, e⟩
set_option maxHeartbeats 4000000 in
theorem iLayoutTree_any (A : Option Addr) (n c : Nat) (zs : List Int) (W H : Int) (w : World) (h : Rd w w.heap.size A (9 * n) zs) (hn : n ≤ 1500000) :
    Calls Try.prog 27 #[.slice A n c, .int .i64 W, .int .i64 H] w (GotK 4 w (lyR zs n W H)) := by
  have R := Lib.hid h
  clear h
  cases ho : okR zs n W H
  · have HR := Lib.hid (lyR_no ho)
    go_enter Try.func27, Try.ntmps27
    go_wp2_with (go_at_call 50; refine (screenOk_any A n c zs W H w R.out hn).mono ?_; rintro e w1 ⟨rfl, hb⟩; rw [show ((vtB zs n && inB W 0 10000) && inB H 0 10000) = false from ho]; have B1 := Lib.hid hb; clear hb)
    go_ret
    rw [HR.out]
    exact GotK.nil B1.out
  · have HR := Lib.hid (lyR_yes ho)
    obtain ⟨hv, hW, hH⟩ := okR_of ho
    obtain ⟨bt, ot, rfl⟩ := R.out.some9 hv.one
    have HV := Lib.hid hv
    have HW := Lib.hid hW
    have HH := Lib.hid hH
    clear hv hW hH
    go_enter Try.func27, Try.ntmps27
    go_wp2_with fail
    refine (screenOk_any _ n c zs W H w R.out hn).mono ?_
    rintro e w1 ⟨rfl, hb⟩
    rw [show ((vtB zs n && inB W 0 10000) && inB H 0 10000) = true from ho]
    have B1 := Lib.hid hb
    clear hb ho
    go_wp2_with fail
    refine (layoutOf_any zs n bt ot c W H w1 ((R.out.below B1.out).more B1.out.size) HV.out HW.out HH.out).mono ?_
    rintro e w2 ⟨gl, bo, rfl, hS, hb⟩
    have S2 := Lib.hid hS
    have B2 := Lib.hid (B1.out.trans (hb.mono B1.out.size))
    have l := hS.l
    clear hS hb
    go_wp2
    go_ret
    rw [HR.out]
    exact ⟨_, n, n, rfl, Nat.le_refl _, S2.out.wr.low B1.out.size, B2.out⟩
set_option maxHeartbeats 4000000 in
theorem sLayoutTree_any (A : Option Addr) (n c : Nat) (zs : List Int) (W H : Int) (w : World) (h : Rd w w.heap.size A (9 * n) zs) (hn : n ≤ 1500000) :
    Calls Try.prog 26 #[.slice A n c, .int .i64 W, .int .i64 H] w (GotK 4 w (lyR zs n W H)) := by
  have R := Lib.hid h
  clear h
  have ho : okR zs n W H = ((vtB zs n && inB W 0 10000) && inB H 0 10000) := rfl
  cases hv : vtB zs n
  · rw [hv] at ho
    have HR := Lib.hid (lyR_no ho)
    clear ho
    go_enter Try.func26, Try.ntmps26
    go_wp2_with (go_at_call 57; refine (svalidTree_any A n c zs w R.out hn).mono ?_; rintro e w1 ⟨rfl, hb⟩; rw [hv]; have B1 := Lib.hid hb; clear hb)
    go_ret
    rw [HR.out]
    exact GotK.nil B1.out
  · rw [hv, Bool.true_and] at ho
    cases hw : inB W 0 10000
    · rw [hw, Bool.false_and] at ho
      have HR := Lib.hid (lyR_no ho)
      clear ho
      go_enter Try.func26, Try.ntmps26
      go_wp2_with (first
        | (go_at_call 57; refine (svalidTree_any A n c zs w R.out hn).mono ?_; rintro e w1 ⟨rfl, hb⟩; rw [hv]; have B1 := Lib.hid hb; clear hb)
        | (go_at_call 49; ((with_reducible refine (inRange_any _ _ _ _).mono ?_); rintro e w' ⟨rfl, rfl⟩; rw [hw])))
      go_ret
      rw [HR.out]
      exact GotK.nil B1.out
    · rw [hw, Bool.true_and] at ho
      cases hh : inB H 0 10000
      · rw [hh] at ho
        have HR := Lib.hid (lyR_no ho)
        clear ho
        go_enter Try.func26, Try.ntmps26
        go_wp2_with fail
        refine (svalidTree_any A n c zs w R.out hn).mono ?_
        rintro e w1 ⟨rfl, hb⟩
        rw [hv]
        have B1 := Lib.hid hb
        clear hb
        go_wp2_with fail
        ((with_reducible refine (inRange_any _ _ _ _).mono ?_); rintro e w' ⟨rfl, rfl⟩; rw [hw])
        go_wp2_with fail
        ((with_reducible refine (inRange_any _ _ _ _).mono ?_); rintro e w' ⟨rfl, rfl⟩; rw [hh])
        go_wp2
        go_ret
        rw [HR.out]
        exact GotK.nil B1.out
      · rw [hh] at ho
        have HR := Lib.hid (lyR_yes ho)
        obtain ⟨hv', hW, hH⟩ := okR_of ho
        obtain ⟨bt, ot, rfl⟩ := R.out.some9 hv'.one
        have HV := Lib.hid hv'
        have HW := Lib.hid hW
        have HH := Lib.hid hH
        clear hv' hW hH ho
        go_enter Try.func26, Try.ntmps26
        go_wp2_with fail
        refine (svalidTree_any _ n c zs w R.out hn).mono ?_
        rintro e w1 ⟨rfl, hb⟩
        rw [hv]
        have B1 := Lib.hid hb
        clear hb
        go_wp2_with fail
        ((with_reducible refine (inRange_any _ _ _ _).mono ?_); rintro e w' ⟨rfl, rfl⟩; rw [hw])
        go_wp2_with fail
        ((with_reducible refine (inRange_any _ _ _ _).mono ?_); rintro e w' ⟨rfl, rfl⟩; rw [hh])
        go_wp2_with fail
        refine (slayout_any zs n bt ot c W H w1 ((R.out.below B1.out).more B1.out.size) HV.out HW.out HH.out).mono ?_
        rintro e w2 ⟨A2, m2, c2, rfl, hm2, hW2, hb⟩
        have W2 := Lib.hid hW2
        have Q2 := Lib.hid hm2
        have B2 := Lib.hid (B1.out.trans (hb.mono B1.out.size))
        clear hW2 hm2 hb
        go_wp2
        go_ret
        rw [HR.out]
        exact ⟨A2, m2, c2, rfl, Q2.out, W2.out.low B1.out.size, B2.out⟩
end Go.Proofs.Ytjaecgobgpfbdaa
