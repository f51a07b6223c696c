/- What is told of a box of a tree: its depth, what is around it, the boxes in it; by the program and by the reference. -/
import Derived.Test.YtjaecgobgpfbdaaTH
import Derived.Test.YtjaecgobgpfbdaaTN
namespace Go.Proofs.Ytjaecgobgpfbdaa
open Go.RowKit

/- A valid tree has a box of this number. -/
def inT (zs : List Int) (n : Nat) (a : Int) : Bool := vtB zs n && inB a 0 ((n : Int) - 1)
def dpR (zs : List Int) (n : Nat) (a : Int) : Int := if inT zs n a then ((pth zs a.toNat).length : Int) - 1 else -1
def kdR (zs : List Int) (n : Nat) (a : Int) : List Int := if inT zs n a then ki (kdsL zs n a) else []
def arR (zs : List Int) (n : Nat) (a b : Int) : Bool := (inT zs n a && inT zs n b) && (pth zs b.toNat).contains a.toNat
theorem inT_no {zs : List Int} {n : Nat} {a : Int} (h : vtB zs n = false) : inT zs n a = false := by unfold inT; rw [h]; rfl
theorem inT_out {zs : List Int} {n : Nat} {a : Int} (h : inB a 0 ((n : Int) - 1) = false) : inT zs n a = false := by unfold inT; rw [h, Bool.and_false]
theorem inT_yes {zs : List Int} {n : Nat} {a : Int} (h : vtB zs n = true) (h2 : inB a 0 ((n : Int) - 1) = true) : inT zs n a = true := by unfold inT; rw [h, h2]; rfl
theorem inT_vt {zs : List Int} {n : Nat} {a : Int} (h : inT zs n a = true) : VT zs n := by
  unfold inT at h
  rw [Bool.and_eq_true] at h
  exact vtB_iff.1 h.1
theorem inT_at {zs : List Int} {n : Nat} {a : Int} (h : inT zs n a = true) : ∃ k : Nat, a = (k : Int) ∧ k < n := by
  unfold inT at h
  rw [Bool.and_eq_true, inB_iff] at h
  exact ⟨a.toNat, by omega, by omega⟩
theorem sValidTree_any (A : Option Addr) (n c : Nat) (zs : List Int) (w : World) (h : Rd w w.heap.size A (9 * n) zs) (hn : n ≤ 1500000) :
    Calls Try.prog 31 #[.slice A n c] w fun e w' => e = .returned (.bool (vtB zs n)) ∧ Below w.heap.size w w' := by
  have H := Lib.hid h
  clear h
  go_enter Try.func31, Try.ntmps31
  go_wp2_with fail
  refine (svalidTree_any A n c zs w H.out hn).mono ?_
  rintro e w1 ⟨rfl, hb⟩
  have B1 := Lib.hid hb
  clear hb
  go_wp2
  go_ret
  exact ⟨rfl, B1.out⟩
theorem boxIn_any (A : Option Addr) (n c : Nat) (zs : List Int) (a : Int) (w : World) (h : Rd w w.heap.size A (9 * n) zs) (hn : n ≤ 1500000) :
    Calls Try.prog 64 #[.slice A n c, .int .i64 a] w fun e w' => e = .returned (.bool (inT zs n a)) ∧ Below w.heap.size w w' := by
  have H := Lib.hid h
  clear h
  cases hv : vtB zs n
  · go_enter Try.func64, Try.ntmps64
    go_wp2_with (go_at_call 32; refine (iValidTree_any A n c zs w H.out hn).mono ?_; rintro e w1 ⟨rfl, hb⟩; rw [hv]; have B1 := Lib.hid hb; clear hb)
    go_ret
    exact ⟨ret_bool (inT_no hv).symm, B1.out⟩
  · obtain ⟨hi, hhi⟩ : ∃ hi, Hid ((n : Int) - 1 = hi) := ⟨_, Lib.hid rfl⟩
    have hwh : IntKind.i64.wrap ((n : Int) - 1) = hi := by rw [← hhi.out]; exact IntWalk.i64_in _ (by omega)
    have HR : Hid (inT zs n a = inB a 0 hi) := Lib.hid (by unfold inT; rw [hv, hhi.out]; rfl)
    go_enter Try.func64, Try.ntmps64
    go_wp2_with (first
      | (go_at_call 32; refine (iValidTree_any A n c zs w H.out hn).mono ?_; rintro e w1 ⟨rfl, hb⟩; rw [hv]; have B1 := Lib.hid hb; clear hb)
      | (go_at_call 51; ((with_reducible refine (within_any _ _ _ _).mono ?_); rintro e w' ⟨rfl, rfl⟩)))
    go_ret
    exact ⟨ret_bool HR.out.symm, B1.out⟩
theorem iDepthOf_any (A : Option Addr) (n c : Nat) (zs : List Int) (a : Int) (w : World) (h : Rd w w.heap.size A (9 * n) zs) (hn : n ≤ 1500000) :
    Calls Try.prog 34 #[.slice A n c, .int .i64 a] w fun e w' => e = .returned (.int .i64 (dpR zs n a)) ∧ Below w.heap.size w w' := by
  have H := Lib.hid h
  clear h
  cases hv : inT zs n a
  · go_enter Try.func34, Try.ntmps34
    go_wp2_with (go_at_call 64; refine (boxIn_any A n c zs a w H.out hn).mono ?_; rintro e w1 ⟨rfl, hb⟩; rw [hv]; have B1 := Lib.hid hb; clear hb)
    go_ret
    exact ⟨ret_int (by unfold dpR; rw [hv]; rfl), B1.out⟩
  · obtain ⟨k, rfl, hk⟩ := inT_at hv
    have HV := Lib.hid (inT_vt hv)
    obtain ⟨D, hD⟩ : ∃ D, Hid ((pth zs k).length = D) := ⟨_, Lib.hid rfl⟩
    have hD1 : D ≤ 1500000 := by rw [← hD.out]; have := pth_len HV.out.par k hk; omega
    go_enter Try.func34, Try.ntmps34
    go_wp2_with (first
      | (go_at_call 64; refine (boxIn_any A n c zs k w H.out hn).mono ?_; rintro e w1 ⟨rfl, hb⟩; rw [hv]; have B1 := Lib.hid hb; clear hb)
      | (go_at_call 61; refine (path_any A n c k zs w1 ((H.out.below B1.out).more B1.out.size) hn hk (HV.out.par.mono (by omega))).mono ?_; rintro e w2 ⟨A2, q2, c2, rfl, _, hW2, hb2⟩; obtain rfl : q2 = D := hW2.len.symm.trans ((ki_len _).trans hD.out); have B2 := Lib.hid (B1.out.trans (hb2.mono B1.out.size)); clear hW2 hb2))
    go_ret
    exact ⟨ret_int (by unfold dpR; rw [hv, if_pos rfl, Int.toNat_natCast, hD.out]), B2.out⟩
theorem sDepthOf_any (A : Option Addr) (n c : Nat) (zs : List Int) (a : Int) (w : World) (h : Rd w w.heap.size A (9 * n) zs) (hn : n ≤ 1500000) :
    Calls Try.prog 33 #[.slice A n c, .int .i64 a] w fun e w' => e = .returned (.int .i64 (dpR zs n a)) ∧ Below w.heap.size w w' := by
  have H := Lib.hid h
  clear h
  cases hv : vtB zs n
  · go_enter Try.func33, Try.ntmps33
    go_wp2_with (go_at_call 57; refine (svalidTree_any A n c zs w H.out hn).mono ?_; rintro e w1 ⟨rfl, hb⟩; rw [hv]; have B1 := Lib.hid hb; clear hb)
    go_ret
    exact ⟨ret_int (by unfold dpR; rw [inT_no hv]; rfl), B1.out⟩
  · obtain ⟨hi, hhi⟩ : ∃ hi, Hid ((n : Int) - 1 = hi) := ⟨_, Lib.hid rfl⟩
    have hwh : IntKind.i64.wrap ((n : Int) - 1) = hi := by rw [← hhi.out]; exact IntWalk.i64_in _ (by omega)
    cases hr : inB a 0 hi
    · go_enter Try.func33, Try.ntmps33
      go_wp2_with (first
        | (go_at_call 57; refine (svalidTree_any A n c zs w H.out hn).mono ?_; rintro e w1 ⟨rfl, hb⟩; rw [hv]; have B1 := Lib.hid hb; clear hb)
        | (go_at_call 49; ((with_reducible refine (inRange_any _ _ _ _).mono ?_); rintro e w' ⟨rfl, rfl⟩; rw [hr])))
      go_ret
      exact ⟨ret_int (by unfold dpR; rw [inT_out (by rw [hhi.out]; exact hr)]; rfl), B1.out⟩
    · have ht := inT_yes hv (by rw [hhi.out]; exact hr)
      obtain ⟨k, rfl, hk⟩ := inT_at ht
      have HV := Lib.hid (inT_vt ht)
      have HR : Hid (dpR zs n k = ((pth zs k).length : Int) - 1) := Lib.hid (by unfold dpR; rw [ht]; rfl)
      clear ht
      go_enter Try.func33, Try.ntmps33
      go_wp2_with (first
        | (go_at_call 57; refine (svalidTree_any A n c zs w H.out hn).mono ?_; rintro e w1 ⟨rfl, hb⟩; rw [hv]; have B1 := Lib.hid hb; clear hb)
        | (go_at_call 49; ((with_reducible refine (inRange_any _ _ _ _).mono ?_); rintro e w' ⟨rfl, rfl⟩; rw [hr]))
        | (go_at_call 63; refine (depth_any A n c k zs w.heap.size w1 (H.out.below B1.out) hn hk (HV.out.par.mono (by omega))).mono ?_; rintro e w' ⟨rfl, rfl⟩; rw [← HR.out]))
      go_ret
      exact ⟨rfl, B1.out⟩
theorem iKidsOf_any (A : Option Addr) (n c : Nat) (zs : List Int) (a : Int) (w : World) (h : Rd w w.heap.size A (9 * n) zs) (hn : n ≤ 1500000) :
    Calls Try.prog 42 #[.slice A n c, .int .i64 a] w (GotI w (kdR zs n a)) := by
  have H := Lib.hid h
  clear h
  cases hv : inT zs n a
  · have HR : Hid (kdR zs n a = []) := Lib.hid (by unfold kdR; rw [hv]; rfl)
    go_enter Try.func42, Try.ntmps42
    go_wp2_with (go_at_call 64; refine (boxIn_any A n c zs a w H.out hn).mono ?_; rintro e w1 ⟨rfl, hb⟩; rw [hv]; have B1 := Lib.hid hb; clear hb)
    go_ret
    rw [HR.out]
    exact GotI.nil w B1.out
  · obtain ⟨k, rfl, hk⟩ := inT_at hv
    have HR : Hid (kdR zs n k = ki (kdsL zs n k)) := Lib.hid (by unfold kdR; rw [hv]; rfl)
    go_enter Try.func42, Try.ntmps42
    go_wp2_with (first
      | (go_at_call 64; refine (boxIn_any A n c zs k w H.out hn).mono ?_; rintro e w1 ⟨rfl, hb⟩; rw [hv]; have B1 := Lib.hid hb; clear hb)
      | (go_at_call 62; refine (ikids_any A n c k zs w1 ((H.out.below B1.out).more B1.out.size) (by omega)).mono ?_; rintro e w2 ⟨A2, q2, c2, rfl, hq2, hW2, hb2⟩; have W2 := Lib.hid hW2; have Q2 := Lib.hid hq2; have B2 := Lib.hid hb2; clear hW2 hb2 hq2))
    go_ret
    rw [HR.out]
    exact ⟨A2, q2, c2, rfl, Q2.out, W2.out.low B1.out.size, B1.out.trans (B2.out.mono B1.out.size)⟩
theorem sKidsOf_any (A : Option Addr) (n c : Nat) (zs : List Int) (a : Int) (w : World) (h : Rd w w.heap.size A (9 * n) zs) (hn : n ≤ 1500000) :
    Calls Try.prog 41 #[.slice A n c, .int .i64 a] w (GotI w (kdR zs n a)) := by
  have H := Lib.hid h
  clear h
  cases hv : vtB zs n
  · have HR : Hid (kdR zs n a = []) := Lib.hid (by unfold kdR; rw [inT_no hv]; rfl)
    go_enter Try.func41, Try.ntmps41
    go_wp2_with (go_at_call 57; refine (svalidTree_any A n c zs w H.out hn).mono ?_; rintro e w1 ⟨rfl, hb⟩; rw [hv]; have B1 := Lib.hid hb; clear hb)
    go_ret
    rw [HR.out]
    exact GotI.nil w B1.out
  · obtain ⟨hi, hhi⟩ : ∃ hi, Hid ((n : Int) - 1 = hi) := ⟨_, Lib.hid rfl⟩
    have hwh : IntKind.i64.wrap ((n : Int) - 1) = hi := by rw [← hhi.out]; exact IntWalk.i64_in _ (by omega)
    cases hr : inB a 0 hi
    · have HR : Hid (kdR zs n a = []) := Lib.hid (by unfold kdR; rw [inT_out (by rw [hhi.out]; exact hr)]; rfl)
      go_enter Try.func41, Try.ntmps41
      go_wp2_with (first
        | (go_at_call 57; refine (svalidTree_any A n c zs w H.out hn).mono ?_; rintro e w1 ⟨rfl, hb⟩; rw [hv]; have B1 := Lib.hid hb; clear hb)
        | (go_at_call 49; ((with_reducible refine (inRange_any _ _ _ _).mono ?_); rintro e w' ⟨rfl, rfl⟩; rw [hr])))
      go_ret
      rw [HR.out]
      exact GotI.nil w B1.out
    · have ht := inT_yes hv (by rw [hhi.out]; exact hr)
      obtain ⟨k, rfl, hk⟩ := inT_at ht
      have HV := Lib.hid (inT_vt ht)
      have HR : Hid (kdR zs n k = ki (kdsL zs n k)) := Lib.hid (by unfold kdR; rw [ht]; rfl)
      clear ht
      go_enter Try.func41, Try.ntmps41
      go_wp2_with (first
        | (go_at_call 57; refine (svalidTree_any A n c zs w H.out hn).mono ?_; rintro e w1 ⟨rfl, hb⟩; rw [hv]; have B1 := Lib.hid hb; clear hb)
        | (go_at_call 49; ((with_reducible refine (inRange_any _ _ _ _).mono ?_); rintro e w' ⟨rfl, rfl⟩; rw [hr]))
        | (go_at_call 69; refine (skids_any A n c k zs w1 ((H.out.below B1.out).more B1.out.size) (by omega) hk (HV.out.par.mono (by omega))).mono ?_; rintro e w2 ⟨A2, q2, c2, rfl, hq2, hW2, hb2⟩; have W2 := Lib.hid hW2; have Q2 := Lib.hid hq2; have B2 := Lib.hid hb2; clear hW2 hb2 hq2))
      go_ret
      rw [HR.out]
      exact ⟨A2, q2, c2, rfl, Q2.out, W2.out.low B1.out.size, B1.out.trans (B2.out.mono B1.out.size)⟩
theorem iaround_any (A : Option Addr) (n c a j : Nat) (zs : List Int) (w : World) (h : Rd w w.heap.size A (9 * n) zs) (hn : n ≤ 1500000) (hj : j < n) (hp : PK zs (j + 1)) :
    Calls Try.prog 66 #[.slice A n c, .int .i64 a, .int .i64 j] w fun e w' => e = .returned (.bool ((pth zs j).contains a)) ∧ Below w.heap.size w w' := by
  have H := Lib.hid h
  have HP := Lib.hid hp
  have hpl : (pth zs j).length ≤ 2000000 := by have := pth_len hp j (by omega); omega
  have HL := Lib.hid hpl
  obtain ⟨R, hR⟩ : ∃ R, Hid ((pth zs j).contains a = R) := ⟨_, Lib.hid rfl⟩
  rw [hR.out]
  clear h hp hpl
  go_enter Try.func66, Try.ntmps66
  go_wp2_with fail
  refine (path_any A n c j zs w H.out hn hj HP.out).mono ?_
  rintro e w2 ⟨A2, q2, c2, rfl, _, hW2, hb2⟩
  have W2 := Lib.hid hW2
  have hq2 := Lib.hid (hW2.len.symm.trans (ki_len _))
  have B2 := Lib.hid hb2
  clear hW2 hb2
  go_wp2_with fail
  refine (contains_any A2 q2 c2 (ki (pth zs j)) (a : Int) _ _ W2.out.rd (by have h1 := hq2.out; have h2 := HL.out; omega)).mono ?_
  rintro e w' ⟨rfl, rfl⟩
  rw [show hasI (ki (pth zs j)) q2 (a : Int) = (pth zs j).contains a by rw [hq2.out, hasI_ki], hR.out]
  go_wp2
  go_ret
  exact ⟨rfl, B2.out⟩
theorem arR_not1 {zs : List Int} {n : Nat} {a b : Int} (h : inT zs n a = false) : arR zs n a b = false := by unfold arR; rw [h]; rfl
theorem arR_not2 {zs : List Int} {n : Nat} {a b : Int} (h : inT zs n b = false) : arR zs n a b = false := by unfold arR; rw [h, Bool.and_false]; rfl
theorem iIsAround_any (A : Option Addr) (n c : Nat) (zs : List Int) (a b : Int) (w : World) (h : Rd w w.heap.size A (9 * n) zs) (hn : n ≤ 1500000) :
    Calls Try.prog 36 #[.slice A n c, .int .i64 a, .int .i64 b] w fun e w' => e = .returned (.bool (arR zs n a b)) ∧ Below w.heap.size w w' := by
  have H := Lib.hid h
  clear h
  cases hv : inT zs n a
  · go_enter Try.func36, Try.ntmps36
    go_wp2_with (go_at_call 64; refine (boxIn_any A n c zs a w H.out hn).mono ?_; rintro e w1 ⟨rfl, hb⟩; rw [hv]; have B1 := Lib.hid hb; clear hb)
    go_ret
    exact ⟨ret_bool (arR_not1 hv).symm, B1.out⟩
  · obtain ⟨k, rfl, hk⟩ := inT_at hv
    cases hu : inT zs n b
    · go_enter Try.func36, Try.ntmps36
      go_wp2_with fail
      refine (boxIn_any A n c zs k w H.out hn).mono ?_
      rintro e w1 ⟨rfl, hb⟩
      rw [hv]
      have B1 := Lib.hid hb
      clear hb
      go_wp2_with fail
      refine (boxIn_any A n c zs b w1 ((H.out.below B1.out).more B1.out.size) hn).mono ?_
      rintro e w2 ⟨rfl, hb⟩
      rw [hu]
      have B2 := Lib.hid hb
      clear hb
      go_wp2
      go_ret
      exact ⟨ret_bool (arR_not2 hu).symm, B1.out.trans (B2.out.mono B1.out.size)⟩
    · obtain ⟨j, rfl, hj⟩ := inT_at hu
      have HV := Lib.hid (inT_vt hv)
      have HR : Hid (arR zs n k j = (pth zs j).contains k) := Lib.hid (by unfold arR; rw [hv, hu]; rfl)
      go_enter Try.func36, Try.ntmps36
      go_wp2_with fail
      refine (boxIn_any A n c zs k w H.out hn).mono ?_
      rintro e w1 ⟨rfl, hb⟩
      rw [hv]
      have B1 := Lib.hid hb
      clear hb
      go_wp2_with fail
      refine (boxIn_any A n c zs j w1 ((H.out.below B1.out).more B1.out.size) hn).mono ?_
      rintro e w2 ⟨rfl, hb⟩
      rw [hu]
      have B2 := Lib.hid (B1.out.trans (hb.mono B1.out.size))
      clear hb
      go_wp2_with fail
      refine (iaround_any A n c k j zs w2 ((H.out.below B2.out).more B2.out.size) hn hj (HV.out.par.mono (by omega))).mono ?_
      rintro e w3 ⟨rfl, hb⟩
      rw [← HR.out]
      have B3 := Lib.hid hb
      clear hb
      go_wp2
      go_ret
      exact ⟨rfl, B2.out.trans (B3.out.mono B2.out.size)⟩
theorem sIsAround_any (A : Option Addr) (n c : Nat) (zs : List Int) (a b : Int) (w : World) (h : Rd w w.heap.size A (9 * n) zs) (hn : n ≤ 1500000) :
    Calls Try.prog 35 #[.slice A n c, .int .i64 a, .int .i64 b] w fun e w' => e = .returned (.bool (arR zs n a b)) ∧ Below w.heap.size w w' := by
  have H := Lib.hid h
  clear h
  cases hv : vtB zs n
  · go_enter Try.func35, Try.ntmps35
    go_wp2_with (go_at_call 57; refine (svalidTree_any A n c zs w H.out hn).mono ?_; rintro e w1 ⟨rfl, hb⟩; rw [hv]; have B1 := Lib.hid hb; clear hb)
    go_ret
    exact ⟨ret_bool (arR_not1 (inT_no hv)).symm, B1.out⟩
  · obtain ⟨hi, hhi⟩ : ∃ hi, Hid ((n : Int) - 1 = hi) := ⟨_, Lib.hid rfl⟩
    have hwh : IntKind.i64.wrap ((n : Int) - 1) = hi := by rw [← hhi.out]; exact IntWalk.i64_in _ (by omega)
    cases hr : inB a 0 hi
    · go_enter Try.func35, Try.ntmps35
      go_wp2_with (first
        | (go_at_call 57; refine (svalidTree_any A n c zs w H.out hn).mono ?_; rintro e w1 ⟨rfl, hb⟩; rw [hv]; have B1 := Lib.hid hb; clear hb)
        | (go_at_call 49; ((with_reducible refine (inRange_any _ _ _ _).mono ?_); rintro e w' ⟨rfl, rfl⟩; rw [hr])))
      go_ret
      exact ⟨ret_bool (arR_not1 (inT_out (by rw [hhi.out]; exact hr))).symm, B1.out⟩
    · have ht := inT_yes hv (by rw [hhi.out]; exact hr)
      obtain ⟨k, rfl, hk⟩ := inT_at ht
      cases hr2 : inB b 0 hi
      · go_enter Try.func35, Try.ntmps35
        go_wp2_with fail
        refine (svalidTree_any A n c zs w H.out hn).mono ?_
        rintro e w1 ⟨rfl, hb⟩
        rw [hv]
        have B1 := Lib.hid hb
        clear hb
        go_wp2_with fail
        ((with_reducible refine (inRange_any _ _ _ _).mono ?_); rintro e w' ⟨rfl, rfl⟩; rw [hr])
        go_wp2_with fail
        ((with_reducible refine (inRange_any _ _ _ _).mono ?_); rintro e w' ⟨rfl, rfl⟩; rw [hr2])
        go_wp2
        go_ret
        exact ⟨ret_bool (arR_not2 (inT_out (by rw [hhi.out]; exact hr2))).symm, B1.out⟩
      · have hu := inT_yes hv (by rw [hhi.out]; exact hr2)
        obtain ⟨j, rfl, hj⟩ := inT_at hu
        have HV := Lib.hid (inT_vt hu)
        have HR : Hid (arR zs n k j = (pth zs j).contains k) := Lib.hid (by unfold arR; rw [ht, hu]; rfl)
        clear ht hu
        go_enter Try.func35, Try.ntmps35
        go_wp2_with fail
        refine (svalidTree_any A n c zs w H.out hn).mono ?_
        rintro e w1 ⟨rfl, hb⟩
        rw [hv]
        have B1 := Lib.hid hb
        clear hb
        go_wp2_with fail
        ((with_reducible refine (inRange_any _ _ _ _).mono ?_); rintro e w' ⟨rfl, rfl⟩; rw [hr])
        go_wp2_with fail
        ((with_reducible refine (inRange_any _ _ _ _).mono ?_); rintro e w' ⟨rfl, rfl⟩; rw [hr2])
        go_wp2_with fail
        refine (saround_any A n c k j zs w.heap.size w1 (H.out.below B1.out) hn hj (HV.out.par.mono (by omega))).mono ?_
        rintro e w' ⟨rfl, rfl⟩
        rw [← HR.out]
        go_wp2
        go_ret
        exact ⟨rfl, B1.out⟩
end Go.Proofs.Ytjaecgobgpfbdaa
