/- Layouts, by the program. The reference's flexible sizes of boxes. -/
import Derived.Test.YtjaecgobgpfbdaaVD
import Derived.Deep.DeepCutAuto
import Derived.Test.YtjaecgobgpfbdaaFY
import Derived.Test.YtjaecgobgpfbdaaOB
import Derived.Test.YtjaecgobgpfbdaaTU
namespace Go.Proofs.Ytjaecgobgpfbdaa
open Go.RowKit

theorem info_RectV : (Try.prog.info? 25).map (fun i => (i.zero, i.size, i.bytes)) = some (some (.agg #[.int .i64 0, .int .i64 0, .int .i64 0, .int .i64 0]), 4, 32) := by kernel_rfl
theorem cells_RectV (n : Nat) : madeCells (Value.agg #[.int .i64 0, .int .i64 0, .int .i64 0, .int .i64 0]).cells (n * 4) = madeCells #[Value.int .i64 0] (4 * n) := by
  apply Array.ext
  · simp [size_madeCells, Nat.mul_comm]
  · intro i h1 h2
    have key : ∀ j, j < 4 → (#[.int .i64 0, .int .i64 0, .int .i64 0, .int .i64 0] : Array Value)[j]! = .int .i64 0 := by
      intro j hj
      rcases j with _ | _ | _ | _ | j
      all_goals first | rfl | omega
    have h3 := key (i % 4) (Nat.mod_lt _ (by omega))
    simp only [madeCells, Value.cells, Array.getElem_map, Array.getElem_range]
    rw [show i % #[Value.int IntKind.i64 0].size = 0 from Nat.mod_one i]
    exact h3
theorem made_rects (n : Nat) (hn : n ≤ 2000000) (W : World) : (Instr.makeSlice 39 (.int .i64 (n : Int)) (.int .i64 (n : Int))).run Try.prog W = .ok (.slice (some ⟨W.heap.size, 0, none⟩) n n) (W.alloc (.cells (madeCells #[Value.int .i64 0] (4 * n)) 25)) := by
  obtain ⟨i0, hi, hz0, hz1, hz2⟩ := info_parts info_RectV
  have h := run_make_rowN (P := Try.prog) 39 25 i0 _ Try.underlying39 hi hz0 .i64 .i64 n n (Nat.le_refl _) (by rw [hz2]; omega) (by omega) W
  rw [hz1, cells_RectV] at h
  exact h
theorem screenOk_any (A : Option Addr) (n c : Nat) (zs : List Int) (W H : Int) (w : World) (h : Rd w w.heap.size A (9 * n) zs) (hn : n ≤ 1500000) :
    Calls Try.prog 50 #[.slice A n c, .int .i64 W, .int .i64 H] w fun e w' => e = .returned (.bool ((vtB zs n && inB W 0 10000) && inB H 0 10000)) ∧ Below w.heap.size w w' := by
  have R := Lib.hid h
  clear h
  cases hv : vtB zs n
  · go_enter Try.func50, Try.ntmps50
    go_wp2_with (go_at_call 32; refine (iValidTree_any A n c zs w R.out hn).mono ?_; rintro e w1 ⟨rfl, hb⟩; rw [hv]; have B1 := Lib.hid hb; clear hb)
    go_ret
    exact ⟨rfl, B1.out⟩
  · cases hw : inB W 0 10000
    · go_enter Try.func50, Try.ntmps50
      go_wp2_with (first
        | (go_at_call 32; refine (iValidTree_any A n c zs w R.out hn).mono ?_; rintro e w1 ⟨rfl, hb⟩; rw [hv]; have B1 := Lib.hid hb; clear hb)
        | (go_at_call 51; ((with_reducible refine (within_any _ _ _ _).mono ?_); rintro e w' ⟨rfl, rfl⟩; rw [hw])))
      go_ret
      exact ⟨rfl, B1.out⟩
    · go_enter Try.func50, Try.ntmps50
      go_wp2_with fail
      refine (iValidTree_any A n c zs w R.out hn).mono ?_
      rintro e w1 ⟨rfl, hb⟩
      rw [hv]
      have B1 := Lib.hid hb
      clear hb
      go_wp2_with fail
      ((with_reducible refine (within_any _ _ _ _).mono ?_); rintro e w' ⟨rfl, rfl⟩; rw [hw])
      go_wp2_with fail
      ((with_reducible refine (within_any _ _ _ _).mono ?_); rintro e w' ⟨rfl, rfl⟩)
      go_wp2
      go_ret
      exact ⟨ret_bool (by simp), B1.out⟩
section
variable (zs : List Int) (n gl bt ot ct bo oo co lo i : Nat) (W H : Int) (ys : List Int) (A2 : Option Addr) (c2 m : Nat) (w : World) (hv : VT zs n) (hW : 0 ≤ W ∧ W ≤ 10000) (hH : 0 ≤ H ∧ H ≤ 10000) (hi : i < n) (h : LyS zs n gl bt ot ct bo oo co lo ys w) (hok : OkA zs n W H ys i) (hm : (kdsL zs n (i : Int)).length = m) (hA : Wr w (bo + 1) A2 m (ki (kdsL zs n (i : Int))))
include hv hW hH hi h hok hm hA
theorem block_m (h2 : ¬ kdB zs i = 2) (h3 : ¬ kdB zs i = 3) :
    Calls Try.prog 72 #[.pointer (some ⟨gl, 0, none⟩), .int .i64 i, .slice A2 m c2] w (Laid zs n W H bo oo lo (kdsL zs n (i : Int)) ys w) := by
  subst hm
  exact block_any zs n gl bt ot ct bo oo co lo i W H ys A2 c2 w hv hW hH hi h hok hA h2 h3
theorem row_m (h2 : kdB zs i = 2) (h1 : 1 ≤ m) :
    Calls Try.prog 73 #[.pointer (some ⟨gl, 0, none⟩), .int .i64 i, .slice A2 m c2, .bool false] w (Laid zs n W H bo oo lo (kdsL zs n (i : Int)) ys w) := by
  subst hm
  exact line_row zs n gl bt ot ct bo oo co lo i W H ys A2 c2 w hv hW hH hi h hok hA h2 h1
theorem col_m (h3 : kdB zs i = 3) (h1 : 1 ≤ m) :
    Calls Try.prog 73 #[.pointer (some ⟨gl, 0, none⟩), .int .i64 i, .slice A2 m c2, .bool true] w (Laid zs n W H bo oo lo (kdsL zs n (i : Int)) ys w) := by
  subst hm
  exact line_col zs n gl bt ot ct bo oo co lo i W H ys A2 c2 w hv hW hH hi h hok hA h3 h1
end
/- A layout has been made. -/
def LayP (zs : List Int) (n bt ot ct : Nat) (W H : Int) (w : World) (e : Ending) (w' : World) : Prop :=
  ∃ gl bo, e = .returned (.pointer (some ⟨gl, 0, none⟩)) ∧ LyS zs n gl bt ot ct bo 0 n w.heap.size (layL zs n W H) w' ∧ Below w.heap.size w w'
theorem OkA.kids {zs ys ys' : List Int} {n : Nat} {W H : Int} {k : Nat} (_hv : VT zs n) (h : ∀ j, j < n → (j = 0 ∨ parB zs j < (k : Int)) → OkA zs n W H ys j) (hmono : ∀ j, j < n → OkA zs n W H ys j → OkA zs n W H ys' j) (hk : ∀ t, t < (kdsL zs n (k : Int)).length → OkA zs n W H ys' ((kdsL zs n (k : Int)).getD t 0)) :
    ∀ j, j < n → (j = 0 ∨ parB zs j < ((k + 1 : Nat) : Int)) → OkA zs n W H ys' j := fun j hj hc => by
  by_cases e : j = 0 ∨ parB zs j < (k : Int)
  · exact hmono j hj (h j hj e)
  · have hp : parB zs j = (k : Int) := by omega
    obtain ⟨t, ht, hc⟩ := kid_of hj hp
    rw [← hc]
    exact hk t ht
set_option maxRecDepth 100000 in
set_option maxHeartbeats 8000000 in
theorem layoutOf_any (zs : List Int) (n bt ot ct : Nat) (W H : Int) (w : World) (h : Rd w w.heap.size (some ⟨bt, ot, none⟩) (9 * n) zs) (hv : VT zs n) (hW : 0 ≤ W ∧ W ≤ 10000) (hH : 0 ≤ H ∧ H ≤ 10000) :
    Calls Try.prog 52 #[.slice (some ⟨bt, ot, none⟩) n ct, .int .i64 W, .int .i64 H] w (LayP zs n bt ot ct W H w) := by
  have R := Lib.hid h
  have HV := Lib.hid hv
  have n16 := hv.few
  have n1 := hv.one
  have hmk := made_rects n (by omega)
  have hbt : bt < w.heap.size := by
    obtain ⟨b, oo', e, hb, _⟩ := h.2 (by omega)
    injection e with e
    injection e with e1
    omega
  have HW := Lib.hid hW
  have HH := Lib.hid hH
  clear h hv hW hH
  have WO0 := Lib.hid (Wr.made w w.heap.size (4 * n) 25 (Nat.le_refl _))
  have hn0 : (0 : Int) < (n : Int) := by omega
  go_enter Try.func52, Try.ntmps52
  go_upto_region 2 with fail
  have S0 := Lib.hid (show LyS zs n (w.heap.size + 1) bt ot ct w.heap.size 0 n w.heap.size (mk (4 * n) fun _ => 0) ((w.alloc (.cells (madeCells #[Value.int .i64 0] (4 * n)) 25)).alloc (.cells #[.slice (some ⟨bt, ot, none⟩) n ct, .slice (some ⟨w.heap.size, 0, none⟩) n n] 59)) from
    ⟨by simp [go_sem], by simp [go_sem], (((R.out.alloc (Nat.le_refl _) _).more (by simp)).alloc (Nat.le_refl _) _).more (by simp), WO0.out.alloc _, by omega, by omega⟩)
  have B0 := Lib.hid (((Below.refl w.heap.size w).alloc (Nat.le_refl _) (.cells (madeCells #[Value.int .i64 0] (4 * n)) 25)).alloc (by simp) (.cells #[.slice (some ⟨bt, ot, none⟩) n ct, .slice (some ⟨w.heap.size, 0, none⟩) n n] 59))
  generalize (w.alloc (.cells (madeCells #[Value.int .i64 0] (4 * n)) 25)).alloc (.cells #[.slice (some ⟨bt, ot, none⟩) n ct, .slice (some ⟨w.heap.size, 0, none⟩) n n] 59) = wa at S0 B0 ⊢
  clear WO0 hmk
  have WP := S0.out.wr.putR (show 0 < n by omega) ⟨0, 0, W, H⟩
  obtain ⟨_, _, ⟨d0, f0⟩, ⟨d1, f1⟩, ⟨d2, f2⟩, ⟨d3, f3⟩⟩ := S0.out.wr.at_4 (show 0 < n by omega)
  rw [mk_getD _ _ _ (by omega)] at d0 d1 d2 d3
  simp only [Nat.zero_mul, Nat.zero_add] at d0 d1 d2 d3 f0 f1 f2 f3 WP
  have e1 := S0.out.l
  have WP := Lib.hid WP
  go_wp2
  clear d0 d1 d2 d3 f0 f1 f2 f3 e1
  have S1 := Lib.hid (S0.out.grown (by omega) (gb_set4 (World.grownBy.refl wa _) _ _ _ _) WP.out)
  have B1 := Lib.hid ((((B0.out.setCell (p := ⟨w.heap.size, 0, none⟩) (Nat.le_refl _) (.int .i64 0)).setCell (p := ⟨w.heap.size, 1, none⟩) (Nat.le_refl _) (.int .i64 0)).setCell (p := ⟨w.heap.size, 2, none⟩) (Nat.le_refl _) (.int .i64 W)).setCell (p := ⟨w.heap.size, 3, none⟩) (Nat.le_refl _) (.int .i64 H))
  generalize (((wa.setCell ⟨w.heap.size, 0, none⟩ (.int .i64 0)).setCell ⟨w.heap.size, 1, none⟩ (.int .i64 0)).setCell ⟨w.heap.size, 2, none⟩ (.int .i64 W)).setCell ⟨w.heap.size, 3, none⟩ (.int .i64 H) = wb at S1 B1 ⊢
  clear S0 B0 WP
  go_loopw [27] (fun s wr => ∃ k : Nat, k ≤ n ∧ s = .int .i64 k ∧ Hid (Below w.heap.size w wr ∧ ∃ ys1, LyS zs n (w.heap.size + 1) bt ot ct w.heap.size 0 n w.heap.size ys1 wr ∧ ∀ j, j < n → (j = 0 ∨ parB zs j < (k : Int)) → OkA zs n W H ys1 j)) (fun s _ => n - (intOf s).toNat)
  case atStart =>
    refine ⟨0, Nat.zero_le _, rfl, Lib.hid ⟨B1.out, _, S1.out, fun j hj hc => ?_⟩⟩
    obtain rfl : j = 0 := by
      rcases hc with h1 | h1
      · exact h1
      · rcases Nat.eq_zero_or_pos j with h2 | h2
        · exact h2
        · have := (HV.out.par j hj).2 h2; omega
    exact OkA.here (W := W) (H := H) hj
  case round =>
    obtain ⟨k, hk, rfl, hS⟩ := hrel
    clear S1 B1
    by_cases hlt : k < n
    · obtain ⟨ys1, hys⟩ : ∃ ys1, Hid (LyS zs n (w.heap.size + 1) bt ot ct w.heap.size 0 n w.heap.size ys1 wr ∧ ∀ j, j < n → (j = 0 ∨ parB zs j < (k : Int)) → OkA zs n W H ys1 j) := hS.out.2
      have B2 := Lib.hid hS.out.1
      have hok := Lib.hid (hys.out.2 k hlt (.inr (HV.out.par.lt hlt)))
      obtain ⟨cz, c1, c2, c3, c4, c5, c6, c7, c8⟩ := at9 (hys.out.1.tree (by omega)).2 hlt
      obtain ⟨x0, h0⟩ : ∃ x, Hid (zs.getD (9 * k) 0 = x) := ⟨_, Lib.hid rfl⟩
      rw [h0.out] at cz
      obtain ⟨x1, h1⟩ : ∃ x, Hid (kdB zs k = x) := ⟨_, Lib.hid rfl⟩
      rw [show zs.getD (9 * k + 1) 0 = x1 from h1.out] at c1
      obtain ⟨x2, h2⟩ : ∃ x, Hid (zs.getD (9 * k + 2) 0 = x) := ⟨_, Lib.hid rfl⟩
      rw [h2.out] at c2
      obtain ⟨x3, h3⟩ : ∃ x, Hid (zs.getD (9 * k + 3) 0 = x) := ⟨_, Lib.hid rfl⟩
      rw [h3.out] at c3
      obtain ⟨x4, h4⟩ : ∃ x, Hid (zs.getD (9 * k + 4) 0 = x) := ⟨_, Lib.hid rfl⟩
      rw [h4.out] at c4
      obtain ⟨x5, h5⟩ : ∃ x, Hid (zs.getD (9 * k + 5) 0 = x) := ⟨_, Lib.hid rfl⟩
      rw [h5.out] at c5
      obtain ⟨x6, h6⟩ : ∃ x, Hid (zs.getD (9 * k + 6) 0 = x) := ⟨_, Lib.hid rfl⟩
      rw [h6.out] at c6
      obtain ⟨x7, h7⟩ : ∃ x, Hid (zs.getD (9 * k + 7) 0 = x) := ⟨_, Lib.hid rfl⟩
      rw [h7.out] at c7
      obtain ⟨x8, h8⟩ : ∃ x, Hid (zs.getD (9 * k + 8) 0 = x) := ⟨_, Lib.hid rfl⟩
      rw [h8.out] at c8
      have o := HV.out.ok hlt
      have b1 : 0 ≤ x1 ∧ x1 ≤ 3 := by rw [← h1.out]; exact o.kd
      obtain ⟨b10, b11⟩ := b1
      clear o
      have hkn : (k : Int) < (n : Int) := by omega
      have hk0 : (0 : Int) ≤ (k : Int) := by omega
      go_wp2_with fail
      have E1 := Lib.hid (Bx9.made x0 x1 x2 x3 x4 x5 x6 x7 x8 54 (Below.refl wr.heap.size wr))
      refine (ikids_any _ n ct k zs _ ((hys.out.1.below (by omega) E1.out.bl).rd) (by omega)).mono ?_
      rintro e w2 ⟨A2, m, d2, rfl, hm2, hW2, hb⟩
      have hmL := Lib.hid (show (kdsL zs n (k : Int)).length = m from (ki_len _).symm.trans hW2.len)
      have E2 := Lib.hid (E1.out.below hb)
      have S2 := Lib.hid (hys.out.1.below (by omega) E2.out.bl)
      have B3 := Lib.hid (B2.out.trans (E2.out.bl.mono B2.out.size))
      have HA := Lib.hid (hW2.low (show w.heap.size + 1 ≤ (wr.alloc (.cells #[.int .i64 x0, .int .i64 x1, .int .i64 x2, .int .i64 x3, .int .i64 x4, .int .i64 x5, .int .i64 x6, .int .i64 x7, .int .i64 x8] 54)).heap.size by have := B2.out.size; simp; omega))
      have q1 := E2.out.c1
      have hw2 : w.heap.size < w2.heap.size := by have h1 := B2.out.size; have h2 := E2.out.lt; omega
      clear cz c1 c2 c3 c4 c5 c6 c7 c8 hW2 hb hm2 E1 hS B2
      by_cases hm0 : m = 0
      · have hmz : ((m : Int) == 0) = true := by simp; omega
        have HM0 := Lib.hid hm0
        clear hm0
        go_wp2
        go_roundw
        case rel => exact ⟨k + 1, by omega, by go_num, Lib.hid ⟨B3.out, ys1, S2.out, OkA.kids HV.out hys.out.2 (fun _ _ h => h) (fun t ht => by have h1 := hmL.out; have h2 := HM0.out; omega)⟩⟩
        case measure => simp [intOf]; omega
      · have hmz : ((m : Int) == 0) = false := by simp; omega
        have hm1 : 1 ≤ m := by omega
        have hx0 : ¬ x1 = 0 := by rw [← h1.out]; exact kd_only HV.out hlt (by rw [hmL.out]; omega)
        clear hm0
        by_cases hx1 : x1 = 1
        · subst hx1
          go_wp2_with fail
          refine (block_m zs n (w.heap.size + 1) bt ot ct w.heap.size 0 n w.heap.size k W H ys1 A2 d2 m w2 HV.out HW.out HH.out hlt S2.out hok.out hmL.out HA.out (by rw [h1.out]; omega) (by rw [h1.out]; omega)).mono ?_
          rintro e w3 ⟨rfl, hg, ys2, hw2', hmono, hkk⟩
          have S3 := Lib.hid (S2.out.grown (by omega) hg hw2')
          have B4 := Lib.hid (bl_gb B3.out hg (by omega) (fun g e => by injection e with e; omega))
          have HM := Lib.hid hmono
          have HKK := Lib.hid hkk
          clear hg hw2' hmono hkk
          go_wp2
          go_roundw
          case rel => exact ⟨k + 1, by omega, by go_num, Lib.hid ⟨B4.out, ys2, S3.out, OkA.kids HV.out hys.out.2 HM.out HKK.out⟩⟩
          case measure => simp [intOf]; omega
        · have hx1d : (x1 == 1) = false := by simpa using hx1
          by_cases hx2 : x1 = 2
          · subst hx2
            go_wp2_with fail
            refine (row_m zs n (w.heap.size + 1) bt ot ct w.heap.size 0 n w.heap.size k W H ys1 A2 d2 m w2 HV.out HW.out HH.out hlt S2.out hok.out hmL.out HA.out h1.out hm1).mono ?_
            rintro e w3 ⟨rfl, hg, ys2, hw2', hmono, hkk⟩
            have S3 := Lib.hid (S2.out.grown (by omega) hg hw2')
            have B4 := Lib.hid (bl_gb B3.out hg (by omega) (fun g e => by injection e with e; omega))
            have HM := Lib.hid hmono
            have HKK := Lib.hid hkk
            clear hg hw2' hmono hkk
            go_wp2
            go_roundw
            case rel => exact ⟨k + 1, by omega, by go_num, Lib.hid ⟨B4.out, ys2, S3.out, OkA.kids HV.out hys.out.2 HM.out HKK.out⟩⟩
            case measure => simp [intOf]; omega
          · obtain rfl : x1 = 3 := by omega
            go_wp2_with fail
            refine (col_m zs n (w.heap.size + 1) bt ot ct w.heap.size 0 n w.heap.size k W H ys1 A2 d2 m w2 HV.out HW.out HH.out hlt S2.out hok.out hmL.out HA.out h1.out hm1).mono ?_
            rintro e w3 ⟨rfl, hg, ys2, hw2', hmono, hkk⟩
            have S3 := Lib.hid (S2.out.grown (by omega) hg hw2')
            have B4 := Lib.hid (bl_gb B3.out hg (by omega) (fun g e => by injection e with e; omega))
            have HM := Lib.hid hmono
            have HKK := Lib.hid hkk
            clear hg hw2' hmono hkk
            go_wp2
            go_roundw
            case rel => exact ⟨k + 1, by omega, by go_num, Lib.hid ⟨B4.out, ys2, S3.out, OkA.kids HV.out hys.out.2 HM.out HKK.out⟩⟩
            case measure => simp [intOf]; omega
    · obtain rfl : n = k := by omega
      go_wp2
      go_ret
      obtain ⟨ys1, h1, h2⟩ := hS.out.2
      have e := layL_of h1.wr.len (fun j hj => h2 j hj (.inr (by have := HV.out.par.lt hj; omega)))
      rw [e] at h1
      exact ⟨_, _, rfl, h1, hS.out.1⟩
end Go.Proofs.Ytjaecgobgpfbdaa
namespace Go.Proofs.Ytjaecgobgpfbdaa
open Go.RowKit

set_option maxRecDepth 100000 in
set_option maxHeartbeats 8000000 in
theorem flexes_any (zs : List Int) (n bt ot ct i : Nat) (d : Bool) (A2 : Option Addr) (m c2 : Nat) (w : World) (hv : VT zs n) (h : Rd w w.heap.size (some ⟨bt, ot, none⟩) (9 * n) zs) (hm : (kdsL zs n (i : Int)).length = m) (hA : Rd w w.heap.size A2 m (ki (kdsL zs n (i : Int)))) (hm8 : m ≤ 8) :
    Calls Try.prog 89 #[.slice (some ⟨bt, ot, none⟩) n ct, .slice A2 m c2, .bool d] w (GotK 5 w (fzL zs n d (kdsL zs n (i : Int)))) := by
  have HV := Lib.hid hv
  have H := Lib.hid h
  have HA := Lib.hid hA
  have HM := Lib.hid hm
  have n16 := hv.few
  clear hv h hA hm
  go_enter Try.func89, Try.ntmps89
  go_wp2
  have K0 := Lib.hid (Rk.empty w 5 87 w.heap.size (Nat.le_refl _))
  have B0 := Lib.hid ((Below.refl w.heap.size w).alloc (Nat.le_refl _) (.cells #[] 87))
  generalize w.alloc (.cells #[] 87) = wa at K0 B0 ⊢
  go_loopw [7, 8] (fun v s wr => ∃ (k : Nat) (vv : Value), k ≤ m ∧ s = .int .i64 k ∧ vv = v ∧ Hid (Rk 5 87 w.heap.size vv k (fzL zs n d ((kdsL zs n (i : Int)).take k)) wr ∧ Below w.heap.size w wr)) (fun _ s _ => m - (intOf s).toNat)
  case atStart => exact ⟨0, _, Nat.zero_le _, rfl, rfl, Lib.hid ⟨K0.out, B0.out⟩⟩
  case round =>
    obtain ⟨k, vv, hk, rfl, rfl, hS⟩ := hrel
    clear K0 B0
    by_cases hlt : k < m
    · obtain ⟨ga, gb, gc⟩ := kdsL_at HV.out.par (show k < (kdsL zs n (i : Int)).length by rw [HM.out]; exact hlt)
      obtain ⟨j, hj⟩ : ∃ j, Hid ((kdsL zs n (i : Int)).getD k 0 = j) := ⟨_, Lib.hid rfl⟩
      rw [hj.out] at ga gb
      clear gc
      have HTK : Hid (fzL zs n d ((kdsL zs n (i : Int)).take (k + 1)) = fzL zs n d ((kdsL zs n (i : Int)).take k) ++ [nd zs n d j, 0, 10000, gwB zs j, shB zs j]) := Lib.hid (by rw [fzL_take zs n d (by rw [HM.out]; exact hlt), hj.out])
      obtain ⟨b2, o2, rfl, hb2, hcc⟩ := (HA.out.below hS.out.2).cell (by omega)
      have ck := hcc k hlt
      rw [ki_get (by rw [HM.out]; exact hlt), hj.out] at ck
      have CK := Lib.hid ck
      clear hcc
      obtain ⟨Ww, hWw⟩ : ∃ x, Hid (nd zs n true j = x) := ⟨_, Lib.hid rfl⟩
      obtain ⟨G, hG⟩ : ∃ x, Hid (nd zs n false j = x) := ⟨_, Lib.hid rfl⟩
      have hkm : (k : Int) < (m : Int) := by omega
      have hk0 : (0 : Int) ≤ (k : Int) := by omega
      have hj0 : (0 : Int) ≤ (j : Int) := by omega
      have hjn : (j : Int) < (n : Int) := by omega
      go_wp2_with fail
      refine (snat_any _ n ct j zs wr ((H.out.below hS.out.2).more hS.out.2.size) gb HV.out).mono ?_
      rintro e w2 ⟨rfl, hb⟩
      rw [hWw.out, hG.out]
      have B2 := Lib.hid (hS.out.2.trans (hb.mono hS.out.2.size))
      have K2 := Lib.hid (hS.out.1.below hb)
      have ck2 : w2.cell? ⟨b2, o2 + k, none⟩ = some (.int .i64 (j : Int)) := (hb.cell (p := ⟨b2, o2 + k, none⟩) (lt_of_cell CK.out)).trans CK.out
      obtain ⟨_, _, hct⟩ : ∃ x : Nat, True ∧ ∀ i, i < 9 * n → w2.cell? ⟨bt, ot + i, none⟩ = some (.int .i64 (zs.getD i 0)) := by
        obtain ⟨b3, o3, e3, _, hc3⟩ := (H.out.below B2.out).cell (by omega)
        injection e3 with e3
        injection e3 with e3 e4
        subst e3 e4
        exact ⟨0, trivial, hc3⟩
      obtain ⟨cz, c1, c2', c3, c4, c5, c6, c7, c8⟩ := at9 hct gb
      clear hct ck hb hS CK
      obtain ⟨x0, h0⟩ : ∃ x, Hid (zs.getD (9 * j) 0 = x) := ⟨_, Lib.hid rfl⟩
      rw [h0.out] at cz
      obtain ⟨x1, h1⟩ : ∃ x, Hid (zs.getD (9 * j + 1) 0 = x) := ⟨_, Lib.hid rfl⟩
      rw [h1.out] at c1
      obtain ⟨x2, h2⟩ : ∃ x, Hid (zs.getD (9 * j + 2) 0 = x) := ⟨_, Lib.hid rfl⟩
      rw [h2.out] at c2'
      obtain ⟨x3, h3⟩ : ∃ x, Hid (zs.getD (9 * j + 3) 0 = x) := ⟨_, Lib.hid rfl⟩
      rw [h3.out] at c3
      obtain ⟨x4, h4⟩ : ∃ x, Hid (zs.getD (9 * j + 4) 0 = x) := ⟨_, Lib.hid rfl⟩
      rw [h4.out] at c4
      obtain ⟨x5, h5⟩ : ∃ x, Hid (zs.getD (9 * j + 5) 0 = x) := ⟨_, Lib.hid rfl⟩
      rw [h5.out] at c5
      obtain ⟨x6, h6⟩ : ∃ x, Hid (gwB zs j = x) := ⟨_, Lib.hid rfl⟩
      rw [show zs.getD (9 * j + 6) 0 = x6 from h6.out] at c6
      obtain ⟨x7, h7⟩ : ∃ x, Hid (shB zs j = x) := ⟨_, Lib.hid rfl⟩
      rw [show zs.getD (9 * j + 7) 0 = x7 from h7.out] at c7
      obtain ⟨x8, h8⟩ : ∃ x, Hid (zs.getD (9 * j + 8) 0 = x) := ⟨_, Lib.hid rfl⟩
      rw [h8.out] at c8
      rw [h6.out, h7.out] at HTK
      cases d
      · rw [hG.out] at HTK
        go_wp2_with (at_builtin; refine wpList_appFlex _ rfl _ _ rfl w.heap.size _ _ _ rfl ((K2.out.alloc _).alloc _) (by omega) (w2.heap.size + 1) G 0 10000 x6 x7 (by simp [go_sem]) (by simp [go_sem]) (by simp [go_sem]) (by simp [go_sem]) (by simp [go_sem]) (by simp [go_sem]) ?_; intro v' w5 how hg5; have HO := Lib.hid how; have B5 := Lib.hid (((B2.out.alloc B2.out.size _).alloc (by have := B2.out.size; simp; omega) _).grown hg5 (by have := B2.out.size; simp; omega) (fun r e => K2.out.row r e)); clear how hg5)
        go_roundw
        case rel => exact ⟨k + 1, _, by omega, by go_num, rfl, Lib.hid ⟨by rw [HTK.out]; exact HO.out, B5.out⟩⟩
        case measure => simp [intOf]; omega
      · rw [hWw.out] at HTK
        go_wp2_with (at_builtin; refine wpList_appFlex _ rfl _ _ rfl w.heap.size _ _ _ rfl ((K2.out.alloc _).alloc _) (by omega) (w2.heap.size + 1) Ww 0 10000 x6 x7 (by simp [go_sem]) (by simp [go_sem]) (by simp [go_sem]) (by simp [go_sem]) (by simp [go_sem]) (by simp [go_sem]) ?_; intro v' w5 how hg5; have HO := Lib.hid how; have B5 := Lib.hid (((B2.out.alloc B2.out.size _).alloc (by have := B2.out.size; simp; omega) _).grown hg5 (by have := B2.out.size; simp; omega) (fun r e => K2.out.row r e)); clear how hg5)
        go_roundw
        case rel => exact ⟨k + 1, _, by omega, by go_num, rfl, Lib.hid ⟨by rw [HTK.out]; exact HO.out, B5.out⟩⟩
        case measure => simp [intOf]; omega
    · obtain rfl : k = m := by omega
      have hTA : (kdsL zs n (i : Int)).take k = kdsL zs n (i : Int) := List.take_of_length_le (by rw [HM.out]; exact Nat.le_refl _)
      obtain ⟨A5, c5, rfl, h5a, _, _, hW5⟩ := hS.out.1.out
      rw [hTA] at hW5
      have W5 := Lib.hid hW5
      have HH5 := Lib.hid h5a
      have B5 := Lib.hid hS.out.2
      clear hTA hW5 hS h5a
      go_wp2
      go_ret
      exact ⟨A5, k, c5, rfl, HH5.out, W5.out, B5.out⟩
end Go.Proofs.Ytjaecgobgpfbdaa
