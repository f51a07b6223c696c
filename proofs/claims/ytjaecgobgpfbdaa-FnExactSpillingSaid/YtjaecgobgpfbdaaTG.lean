/- Valid trees, by the reference: the whole test. -/
import Derived.Test.YtjaecgobgpfbdaaTF
namespace Go.Proofs.Ytjaecgobgpfbdaa
open Go.RowKit

theorem vt_no {zs : List Int} {n j : Nat} (hj : j < n) (h : bxB zs j = false ∨ parOk zs j = false ∨ upOk zs n j = false) : vtB zs n = false := by
  refine vtB_false fun hv => ?_
  rcases h with h | h | h
  · rw [hv.box j hj] at h; cases h
  · rw [parOk_iff.2 (hv.par j hj)] at h; cases h
  · rw [hv.up j hj] at h; cases h
theorem vt_end {zs : List Int} {n : Nat} (h : ∀ j, j < n → bxB zs j = true ∧ parOk zs j = true ∧ upOk zs n j = true) : vtB zs n = (inB (n : Int) 1 16 && (List.range n).all fun i => inOk zs i) := by
  have h1 : (List.range n).all (fun i => bxB zs i && parOk zs i && upOk zs n i) = true := by
    rw [List.all_eq_true]
    intro k hk
    obtain ⟨a, b, c⟩ := h k (List.mem_range.1 hk)
    rw [a, b, c]; rfl
  unfold vtB
  rw [h1, Bool.true_and]
  congr 1
  rw [Bool.eq_iff_iff, inB_iff]
  simp only [Bool.and_eq_true, decide_eq_true_eq]
  omega
theorem upOk_zero (zs : List Int) (n : Nat) : upOk zs n 0 = true := rfl
theorem upOk_pos {zs : List Int} {n k p : Nat} (h0 : 0 < k) (hp : parB zs k = (p : Int)) : upOk zs n k = ((!(kdB zs p == 0) && decide ((kdsL zs n p).length ≤ 8)) && decide ((pth zs k).length ≤ 6)) := by
  unfold upOk
  have e1 : decide (k = 0) = false := by simp; omega
  rw [e1, Bool.false_or, hp, Int.toNat_natCast]
def TStep (zs : List Int) (n k : Nat) : Prop := ∀ j, j < k → bxB zs j = true ∧ parOk zs j = true ∧ upOk zs n j = true
theorem TStep.pk {zs : List Int} {n k : Nat} (h : TStep zs n k) : PK zs k := PK_iff.2 fun j hj => (h j hj).2.1
theorem TStep.more {zs : List Int} {n k : Nat} (h : TStep zs n k) (h1 : bxB zs k = true) (h2 : parOk zs k = true) (h3 : upOk zs n k = true) : TStep zs n (k + 1) := fun j hj => by
  rcases Nat.lt_or_ge j k with h4 | h4
  · exact h j h4
  · obtain rfl : j = k := by omega
    exact ⟨h1, h2, h3⟩
theorem PK.more {zs : List Int} {k : Nat} (h : PK zs k) (h2 : parOk zs k = true) : PK zs (k + 1) := PK_iff.2 fun j hj => by
  rcases Nat.lt_or_ge j k with h4 | h4
  · exact PK_iff.1 h j h4
  · obtain rfl : j = k := by omega
    exact h2
theorem parOk_z {zs : List Int} {x : Int} (hx : parB zs 0 = x) : parOk zs 0 = inB x (-1) (-1) := by
  rw [Bool.eq_iff_iff, parOk_iff, inB_iff, hx]
  omega
theorem parOk_p {zs : List Int} {k : Nat} {x : Int} (h0 : 0 < k) (hx : parB zs k = x) : parOk zs k = inB x 0 ((k : Int) - 1) := by
  rw [Bool.eq_iff_iff, parOk_iff, inB_iff, hx]
  omega
set_option maxRecDepth 4000 in
set_option maxHeartbeats 8000000 in
theorem svalidTree_any (A : Option Addr) (n c : Nat) (zs : List Int) (w : World) (h : Rd w w.heap.size A (9 * n) zs) (hn : n ≤ 1500000) :
    Calls Try.prog 57 #[.slice A n c] w fun e w' => e = .returned (.bool (vtB zs n)) ∧ Below w.heap.size w w' := by
  have H := Lib.hid h
  clear h
  go_enter Try.func57, Try.ntmps57
  go_wp2
  go_loopw [3] (fun i wr => ∃ k : Nat, k ≤ n ∧ i = .int .i64 k ∧ Hid (TStep zs n k ∧ Below w.heap.size w wr)) (fun i _ => n - (intOf i).toNat)
  case atStart => exact ⟨0, Nat.zero_le _, rfl, Lib.hid ⟨fun j hj => absurd hj (by omega), Below.refl _ _⟩⟩
  case round =>
   obtain ⟨k, hk, rfl, hS⟩ := hrel
   by_cases hlt : k < n
   · obtain ⟨b, off, rfl, hb, hc⟩ := H.out.cell (by omega)
     have HC : Hid (∀ m : World, Below w.heap.size w m → ∀ j, j < 9 * n → m.cell? ⟨b, off + j, none⟩ = some (.int .i64 (zs.getD j 0))) := Lib.hid fun m hm j hj => by rw [hm.cell (p := ⟨b, off + j, none⟩) hb]; exact hc j hj
     clear hc
     have c0 := parCell (HC.out wr hS.out.2) hlt
     obtain ⟨cz, c1, c2, c3, c4, c5, c6, c7, c8⟩ := at9 (HC.out wr hS.out.2) hlt
     clear cz
     obtain ⟨x0, h0⟩ : ∃ x, Hid (parB zs k = x) := ⟨_, Lib.hid rfl⟩
     rw [h0.out] at c0
     obtain ⟨x1, h1⟩ : ∃ x, Hid (zs.getD (9 * k + 1) 0 = x) := ⟨_, Lib.hid rfl⟩
     rw [h1.out] at c1
     obtain ⟨x2, h2⟩ : ∃ x, Hid (zs.getD (9 * k + 2) 0 = x) := ⟨_, Lib.hid rfl⟩
     rw [h2.out] at c2
     obtain ⟨x3, h3⟩ : ∃ x, Hid (zs.getD (9 * k + 3) 0 = x) := ⟨_, Lib.hid rfl⟩
     rw [h3.out] at c3
     obtain ⟨x4, h4⟩ : ∃ x, Hid (zs.getD (9 * k + 4) 0 = x) := ⟨_, Lib.hid rfl⟩
     rw [h4.out] at c4
     obtain ⟨x5, h5⟩ : ∃ x, Hid (zs.getD (9 * k + 5) 0 = x) := ⟨_, Lib.hid rfl⟩
     rw [h5.out] at c5
     obtain ⟨x6, h6⟩ : ∃ x, Hid (zs.getD (9 * k + 6) 0 = x) := ⟨_, Lib.hid rfl⟩
     rw [h6.out] at c6
     obtain ⟨x7, h7⟩ : ∃ x, Hid (zs.getD (9 * k + 7) 0 = x) := ⟨_, Lib.hid rfl⟩
     rw [h7.out] at c7
     obtain ⟨x8, h8⟩ : ∃ x, Hid (zs.getD (9 * k + 8) 0 = x) := ⟨_, Lib.hid rfl⟩
     rw [h8.out] at c8
     have HX : Hid (bxB zs k = stB x1 x2 x3 x4 x5 x6 x7 x8) := Lib.hid (by unfold bxB kdB wdB htB pdB gpB gwB shB jsB; rw [h1.out, h2.out, h3.out, h4.out, h5.out, h6.out, h7.out, h8.out])
     have hkn : (k : Int) < (n : Int) := by omega
     have hk0 : (0 : Int) ≤ (k : Int) := by omega
     cases hbx : stB x1 x2 x3 x4 x5 x6 x7 x8
     · go_wp2_with (go_at_call 75; refine (svalidBox_any x0 x1 x2 x3 x4 x5 x6 x7 x8 _).mono ?_; rintro e w1 ⟨rfl, hb1⟩; rw [hbx]; have B1 := Lib.hid (hS.out.2.trans (hb1.mono hS.out.2.size)); clear hb1)
       go_ret
       exact ⟨ret_bool (vt_no hlt (.inl (HX.out.trans hbx))).symm, B1.out⟩
     · obtain ⟨lo, hlo⟩ : ∃ lo, Hid (min (k : Int) 1 - 1 = lo) := ⟨_, Lib.hid rfl⟩
       obtain ⟨hi, hhi⟩ : ∃ hi, Hid ((k : Int) - 1 = hi) := ⟨_, Lib.hid rfl⟩
       have hwl : IntKind.i64.wrap (min (k : Int) 1 - 1) = lo := by rw [← hlo.out]; exact IntWalk.i64_in _ (by omega)
       have hwh : IntKind.i64.wrap ((k : Int) - 1) = hi := by rw [← hhi.out]; exact IntWalk.i64_in _ (by omega)
       have HZ : Hid (parOk zs k = inB x0 lo hi) := Lib.hid (by
         rw [← hlo.out, ← hhi.out]
         rcases Nat.eq_zero_or_pos k with e | e
         · subst e; exact parOk_z h0.out
         · rw [parOk_p e h0.out]; congr 1; omega)
       cases hpo : inB x0 lo hi
       · go_wp2_with (first
           | (go_at_call 75; refine (svalidBox_any x0 x1 x2 x3 x4 x5 x6 x7 x8 _).mono ?_; rintro e w1 ⟨rfl, hb1⟩; rw [hbx]; have B1 := Lib.hid (hS.out.2.trans (hb1.mono hS.out.2.size)); have d0 := parCell (HC.out w1 B1.out) hlt; rw [h0.out] at d0; clear hb1)
           | (go_at_call 49; ((with_reducible refine (inRange_any _ _ _ _).mono ?_); rintro e w' ⟨rfl, rfl⟩; rw [hpo])))
         go_ret
         exact ⟨ret_bool (vt_no hlt (.inr (.inl (HZ.out.trans hpo)))).symm, B1.out⟩
       · have HPK := Lib.hid (hS.out.1.pk.more (HZ.out.trans hpo))
         by_cases hkp : (0 : Int) < (k : Int)
         · obtain ⟨p, hpe, hpk, hpn⟩ := HPK.out.up (show k < k + 1 by omega) ((HPK.out k (by omega)).2 (by omega)).1
           have hpn' : p < n := by omega
           obtain rfl : x0 = (p : Int) := h0.out.symm.trans hpe
           have HU := Lib.hid (upOk_pos (n := n) (show 0 < k by omega) hpe)
           clear hpe
           have hp0 : (0 : Int) ≤ (p : Int) := by omega
           have hp1 : (p : Int) < (n : Int) := by omega
           obtain ⟨y, hy⟩ : ∃ y, Hid (zs.getD (9 * p + 1) 0 = y) := ⟨_, Lib.hid rfl⟩
           obtain ⟨L, hL⟩ : ∃ L, Hid ((kdsL zs n p).length = L) := ⟨_, Lib.hid rfl⟩
           obtain ⟨D, hD⟩ : ∃ D, Hid ((pth zs k).length = D) := ⟨_, Lib.hid rfl⟩
           have HV : Hid (upOk zs n k = ((!(y == 0) && decide (L ≤ 8)) && decide (D ≤ 6))) := Lib.hid (by rw [HU.out, hL.out, hD.out]; unfold kdB; rw [hy.out])
           clear HU
           by_cases hy0 : y = 0
           · subst hy0
             go_wp2_with (first
               | (go_at_call 75; refine (svalidBox_any (p : Int) x1 x2 x3 x4 x5 x6 x7 x8 _).mono ?_; rintro e w1 ⟨rfl, hb1⟩; rw [hbx]; have B1 := Lib.hid (hS.out.2.trans (hb1.mono hS.out.2.size)); have d0 := parCell (HC.out w1 B1.out) hlt; rw [h0.out] at d0; have d1 := (at9 (HC.out w1 B1.out) hpn').2.1; rw [hy.out] at d1; clear hb1)
               | (go_at_call 49; ((with_reducible refine (inRange_any _ _ _ _).mono ?_); rintro e w' ⟨rfl, rfl⟩; rw [hpo])))
             go_ret
             exact ⟨ret_bool (vt_no hlt (.inr (.inr (by rw [HV.out]; simp)))).symm, B1.out⟩
           · have hy1 : (y == 0) = false := by simpa using hy0
             by_cases hL8 : (8 : Int) < (L : Int)
             · go_wp2_with (first
                 | (go_at_call 75; refine (svalidBox_any (p : Int) x1 x2 x3 x4 x5 x6 x7 x8 _).mono ?_; rintro e w1 ⟨rfl, hb1⟩; rw [hbx]; have B1 := Lib.hid (hS.out.2.trans (hb1.mono hS.out.2.size)); have d0 := parCell (HC.out w1 B1.out) hlt; rw [h0.out] at d0; have d1 := (at9 (HC.out w1 B1.out) hpn').2.1; rw [hy.out] at d1; clear hb1)
                 | (go_at_call 49; ((with_reducible refine (inRange_any _ _ _ _).mono ?_); rintro e w' ⟨rfl, rfl⟩; rw [hpo]))
                 | (go_at_call 69; refine (skids_any _ n c p zs w1 ((H.out.below B1.out).more B1.out.size) (by omega) hpn' (HPK.out.mono (by omega))).mono ?_; rintro e w2 ⟨A2, q2, e2, rfl, _, hW2, hb2⟩; obtain rfl : q2 = L := hW2.len.symm.trans ((ki_len _).trans hL.out); have B2 := Lib.hid (B1.out.trans (hb2.mono B1.out.size)); clear hW2 hb2))
               go_ret
               exact ⟨ret_bool (vt_no hlt (.inr (.inr (by rw [HV.out]; simp; omega)))).symm, B2.out⟩
             · by_cases hD6 : (5 : Int) < (D : Int) - 1
               · go_wp2_with (first
                   | (go_at_call 75; refine (svalidBox_any (p : Int) x1 x2 x3 x4 x5 x6 x7 x8 _).mono ?_; rintro e w1 ⟨rfl, hb1⟩; rw [hbx]; have B1 := Lib.hid (hS.out.2.trans (hb1.mono hS.out.2.size)); have d0 := parCell (HC.out w1 B1.out) hlt; rw [h0.out] at d0; have d1 := (at9 (HC.out w1 B1.out) hpn').2.1; rw [hy.out] at d1; clear hb1)
                   | (go_at_call 49; ((with_reducible refine (inRange_any _ _ _ _).mono ?_); rintro e w' ⟨rfl, rfl⟩; rw [hpo]))
                   | (go_at_call 69; refine (skids_any _ n c p zs w1 ((H.out.below B1.out).more B1.out.size) (by omega) hpn' (HPK.out.mono (by omega))).mono ?_; rintro e w2 ⟨A2, q2, e2, rfl, _, hW2, hb2⟩; obtain rfl : q2 = L := hW2.len.symm.trans ((ki_len _).trans hL.out); have B2 := Lib.hid (B1.out.trans (hb2.mono B1.out.size)); clear hW2 hb2)
                   | (go_at_call 63; refine (depth_any _ n c k zs w.heap.size w2 (H.out.below B2.out) (by omega) hlt HPK.out).mono ?_; rintro e w' ⟨rfl, rfl⟩; rw [hD.out]))
                 go_ret
                 exact ⟨ret_bool (vt_no hlt (.inr (.inr (by rw [HV.out]; simp; omega)))).symm, B2.out⟩
               · go_wp2_with (first
                   | (go_at_call 75; refine (svalidBox_any (p : Int) x1 x2 x3 x4 x5 x6 x7 x8 _).mono ?_; rintro e w1 ⟨rfl, hb1⟩; rw [hbx]; have B1 := Lib.hid (hS.out.2.trans (hb1.mono hS.out.2.size)); have d0 := parCell (HC.out w1 B1.out) hlt; rw [h0.out] at d0; have d1 := (at9 (HC.out w1 B1.out) hpn').2.1; rw [hy.out] at d1; clear hb1)
                   | (go_at_call 49; ((with_reducible refine (inRange_any _ _ _ _).mono ?_); rintro e w' ⟨rfl, rfl⟩; rw [hpo]))
                   | (go_at_call 69; refine (skids_any _ n c p zs w1 ((H.out.below B1.out).more B1.out.size) (by omega) hpn' (HPK.out.mono (by omega))).mono ?_; rintro e w2 ⟨A2, q2, e2, rfl, _, hW2, hb2⟩; obtain rfl : q2 = L := hW2.len.symm.trans ((ki_len _).trans hL.out); have B2 := Lib.hid (B1.out.trans (hb2.mono B1.out.size)); clear hW2 hb2)
                   | (go_at_call 63; refine (depth_any _ n c k zs w.heap.size w2 (H.out.below B2.out) (by omega) hlt HPK.out).mono ?_; rintro e w' ⟨rfl, rfl⟩; rw [hD.out]))
                 go_roundw
                 case rel => exact ⟨k + 1, by omega, by go_num, Lib.hid ⟨hS.out.1.more (HX.out.trans hbx) (HZ.out.trans hpo) (by rw [HV.out]; simp [hy0]; omega), B2.out⟩⟩
                 case measure => simp [intOf]; omega
         · have HK0 : Hid (k = 0) := Lib.hid (by omega)
           go_wp2_with (first
             | (go_at_call 75; refine (svalidBox_any x0 x1 x2 x3 x4 x5 x6 x7 x8 _).mono ?_; rintro e w1 ⟨rfl, hb1⟩; rw [hbx]; have B1 := Lib.hid (hS.out.2.trans (hb1.mono hS.out.2.size)); have d0 := parCell (HC.out w1 B1.out) hlt; rw [h0.out] at d0; clear hb1)
             | (go_at_call 49; ((with_reducible refine (inRange_any _ _ _ _).mono ?_); rintro e w' ⟨rfl, rfl⟩; rw [hpo])))
           go_roundw
           case rel => exact ⟨k + 1, by omega, by go_num, Lib.hid ⟨hS.out.1.more (HX.out.trans hbx) (HZ.out.trans hpo) (by rw [HK0.out]; exact upOk_zero _ _), B1.out⟩⟩
           case measure => simp [intOf]; omega
   · obtain rfl : n = k := by omega
     have HE := Lib.hid (vt_end hS.out.1)
     cases hr : inB (n : Int) 1 16
     · go_wp2_with (go_at_call 49; ((with_reducible refine (inRange_any _ _ _ _).mono ?_); rintro e w' ⟨rfl, rfl⟩; rw [hr]))
       go_ret
       exact ⟨ret_bool (by rw [HE.out, hr]; rfl), hS.out.2⟩
     · go_wp2_with (first
         | (go_at_call 49; ((with_reducible refine (inRange_any _ _ _ _).mono ?_); rintro e w' ⟨rfl, rfl⟩; rw [hr]))
         | (go_at_call 76; refine (inOrder_any A n c zs w.heap.size wr (H.out.below hS.out.2) (by omega) hS.out.1.pk).mono ?_; rintro e w' ⟨rfl, rfl⟩))
       go_ret
       exact ⟨ret_bool (by rw [HE.out, hr, Bool.true_and]), hS.out.2⟩
end Go.Proofs.Ytjaecgobgpfbdaa
