/- NaturalSize, FitsIn, WidestKid; by the program and by the reference. -/
import Derived.Test.YtjaecgobgpfbdaaTQ
namespace Go.Proofs.Ytjaecgobgpfbdaa
open Go.RowKit

def nxR (zs : List Int) (n : Nat) (d : Bool) (a : Int) : Int := if inT zs n a then nd zs n d a.toNat else 0
def fitR (zs : List Int) (n : Nat) (u v : Int) : Bool := vtB zs n && (decide (nd zs n true 0 ≤ u) && decide (nd zs n false 0 ≤ v))
def NszR (zs : List Int) (n : Nat) (a : Int) (w : World) (e : Ending) (w' : World) : Prop := e = .returned (.tuple #[.int .i64 (nxR zs n true a), .int .i64 (nxR zs n false a), .bool (inT zs n a)]) ∧ Below w.heap.size w w'
theorem NszR.no {zs : List Int} {n : Nat} {a : Int} {w w' : World} (h : inT zs n a = false) (hb : Below w.heap.size w w') : NszR zs n a w (.returned (.tuple #[.int .i64 0, .int .i64 0, .bool false])) w' := by
  unfold NszR nxR
  rw [h]
  exact ⟨rfl, hb⟩
theorem NszR.yes {zs : List Int} {n k : Nat} {w w' : World} (h : inT zs n (k : Int) = true) (hb : Below w.heap.size w w') : NszR zs n k w (.returned (.tuple #[.int .i64 (nd zs n true k), .int .i64 (nd zs n false k), .bool true])) w' := by
  unfold NszR nxR
  rw [h]
  exact ⟨rfl, hb⟩
set_option maxHeartbeats 2000000 in
theorem iNaturalSize_any (A : Option Addr) (n c : Nat) (zs : List Int) (a : Int) (w : World) (h : Rd w w.heap.size A (9 * n) zs) (hn : n ≤ 1500000) :
    Calls Try.prog 40 #[.slice A n c, .int .i64 a] w (NszR zs n a w) := by
  have H := Lib.hid h
  clear h
  cases hv : inT zs n a
  · go_enter Try.func40, Try.ntmps40
    go_wp2_with (go_at_call 64; refine (boxIn_any A n c zs a w H.out hn).mono ?_; rintro e w1 ⟨rfl, hb⟩; rw [hv]; have B1 := Lib.hid hb; clear hb)
    go_ret3
    exact NszR.no hv B1.out
  · obtain ⟨k, rfl, hk⟩ := inT_at hv
    have HV := Lib.hid (inT_vt hv)
    obtain ⟨W, hW⟩ : ∃ x, Hid (nd zs n true k = x) := ⟨_, Lib.hid rfl⟩
    obtain ⟨G, hG⟩ : ∃ x, Hid (nd zs n false k = x) := ⟨_, Lib.hid rfl⟩
    have HT := Lib.hid hv
    go_enter Try.func40, Try.ntmps40
    go_wp2_with fail
    refine (boxIn_any A n c zs k w H.out hn).mono ?_
    rintro e w1 ⟨rfl, hb⟩
    rw [hv]
    have B1 := Lib.hid hb
    clear hb hv
    go_wp2_with fail
    refine (inat_any A n c k zs w1 ((H.out.below B1.out).more B1.out.size) hk HV.out).mono ?_
    rintro e w2 ⟨rfl, hb⟩
    rw [hW.out, hG.out]
    have B2 := Lib.hid (B1.out.trans (hb.mono B1.out.size))
    clear hb
    go_wp2
    go_quiet (fail)
    go_wp2
    go_ret3
    rw [← hW.out, ← hG.out]
    exact NszR.yes HT.out (below_drewN (B2.out.alloc B2.out.size _) _)
set_option maxHeartbeats 2000000 in
theorem sNaturalSize_any (A : Option Addr) (n c : Nat) (zs : List Int) (a : Int) (w : World) (h : Rd w w.heap.size A (9 * n) zs) (hn : n ≤ 1500000) :
    Calls Try.prog 39 #[.slice A n c, .int .i64 a] w (NszR zs n a w) := by
  have H := Lib.hid h
  clear h
  cases hv : vtB zs n
  · go_enter Try.func39, Try.ntmps39
    go_wp2_with (go_at_call 57; refine (svalidTree_any A n c zs w H.out hn).mono ?_; rintro e w1 ⟨rfl, hb⟩; rw [hv]; have B1 := Lib.hid hb; clear hb)
    go_ret3
    exact NszR.no (inT_no hv) B1.out
  · obtain ⟨hi, hhi⟩ : ∃ hi, Hid ((n : Int) - 1 = hi) := ⟨_, Lib.hid rfl⟩
    have hwh : IntKind.i64.wrap ((n : Int) - 1) = hi := by rw [← hhi.out]; exact IntWalk.i64_in _ (by omega)
    cases hr : inB a 0 hi
    · go_enter Try.func39, Try.ntmps39
      go_wp2_with (first
        | (go_at_call 57; refine (svalidTree_any A n c zs w H.out hn).mono ?_; rintro e w1 ⟨rfl, hb⟩; rw [hv]; have B1 := Lib.hid hb; clear hb)
        | (go_at_call 49; ((with_reducible refine (inRange_any _ _ _ _).mono ?_); rintro e w' ⟨rfl, rfl⟩; rw [hr])))
      go_ret3
      exact NszR.no (inT_out (by rw [hhi.out]; exact hr)) B1.out
    · have ht := inT_yes hv (by rw [hhi.out]; exact hr)
      obtain ⟨k, rfl, hk⟩ := inT_at ht
      have HV := Lib.hid (inT_vt ht)
      have HT := Lib.hid ht
      obtain ⟨W, hW⟩ : ∃ x, Hid (nd zs n true k = x) := ⟨_, Lib.hid rfl⟩
      obtain ⟨G, hG⟩ : ∃ x, Hid (nd zs n false k = x) := ⟨_, Lib.hid rfl⟩
      clear ht
      go_enter Try.func39, Try.ntmps39
      go_wp2_with fail
      refine (svalidTree_any A n c zs w H.out hn).mono ?_
      rintro e w1 ⟨rfl, hb⟩
      rw [hv]
      have B1 := Lib.hid hb
      clear hb
      go_wp2_with fail
      ((with_reducible refine (inRange_any _ _ _ _).mono ?_); rintro e w' ⟨rfl, rfl⟩; rw [hr])
      go_wp2_with fail
      refine (snat_any A n c k zs w1 ((H.out.below B1.out).more B1.out.size) hk HV.out).mono ?_
      rintro e w2 ⟨rfl, hb⟩
      rw [hW.out, hG.out]
      have B2 := Lib.hid (B1.out.trans (hb.mono B1.out.size))
      clear hb
      go_wp2
      go_ret3
      rw [← hW.out, ← hG.out]
      exact NszR.yes HT.out B2.out
theorem fitR_no {zs : List Int} {n : Nat} {u v : Int} (h : vtB zs n = false) : fitR zs n u v = false := by unfold fitR; rw [h]; rfl
theorem fitR_yes {zs : List Int} {n : Nat} {u v W G : Int} (h : vtB zs n = true) (hW : nd zs n true 0 = W) (hG : nd zs n false 0 = G) : fitR zs n u v = (decide (W ≤ u) && decide (G ≤ v)) := by unfold fitR; rw [h, hW, hG]; rfl
set_option maxHeartbeats 2000000 in
theorem iFitsIn_any (A : Option Addr) (n c : Nat) (zs : List Int) (u v : Int) (w : World) (h : Rd w w.heap.size A (9 * n) zs) (hn : n ≤ 1500000) :
    Calls Try.prog 38 #[.slice A n c, .int .i64 u, .int .i64 v] w fun e w' => e = .returned (.bool (fitR zs n u v)) ∧ Below w.heap.size w w' := by
  have H := Lib.hid h
  clear h
  cases hv : vtB zs n
  · go_enter Try.func38, Try.ntmps38
    go_wp2_with (go_at_call 32; refine (iValidTree_any A n c zs w H.out hn).mono ?_; rintro e w1 ⟨rfl, hb⟩; rw [hv]; have B1 := Lib.hid hb; clear hb)
    go_ret
    exact ⟨ret_bool (fitR_no hv).symm, B1.out⟩
  · have HV := Lib.hid (vtB_iff.1 hv)
    have hn0 := HV.out.one
    obtain ⟨W, hW⟩ : ∃ x, Hid (nd zs n true 0 = x) := ⟨_, Lib.hid rfl⟩
    obtain ⟨G, hG⟩ : ∃ x, Hid (nd zs n false 0 = x) := ⟨_, Lib.hid rfl⟩
    have HR := Lib.hid (fitR_yes (u := u) (v := v) hv hW.out hG.out)
    by_cases hu : W ≤ u
    · have hud : decide (W ≤ u) = true := by simpa using hu
      go_enter Try.func38, Try.ntmps38
      go_wp2_with fail
      refine (iValidTree_any A n c zs w H.out hn).mono ?_
      rintro e w1 ⟨rfl, hb⟩
      rw [hv]
      have B1 := Lib.hid hb
      clear hb
      go_wp2_with fail
      refine (inat_any A n c 0 zs w1 ((H.out.below B1.out).more B1.out.size) hn0 HV.out).mono ?_
      rintro e w2 ⟨rfl, hb⟩
      rw [hW.out, hG.out]
      have B2 := Lib.hid (B1.out.trans (hb.mono B1.out.size))
      clear hb
      go_wp2
      go_ret
      exact ⟨ret_bool (by rw [HR.out, hud]; simp), B2.out.alloc B2.out.size _⟩
    · have hud : decide (W ≤ u) = false := by simpa using hu
      go_enter Try.func38, Try.ntmps38
      go_wp2_with fail
      refine (iValidTree_any A n c zs w H.out hn).mono ?_
      rintro e w1 ⟨rfl, hb⟩
      rw [hv]
      have B1 := Lib.hid hb
      clear hb
      go_wp2_with fail
      refine (inat_any A n c 0 zs w1 ((H.out.below B1.out).more B1.out.size) hn0 HV.out).mono ?_
      rintro e w2 ⟨rfl, hb⟩
      rw [hW.out, hG.out]
      have B2 := Lib.hid (B1.out.trans (hb.mono B1.out.size))
      clear hb
      go_wp2
      go_ret
      exact ⟨ret_bool (by rw [HR.out, hud]; simp), B2.out.alloc B2.out.size _⟩
set_option maxHeartbeats 2000000 in
theorem sFitsIn_any (A : Option Addr) (n c : Nat) (zs : List Int) (u v : Int) (w : World) (h : Rd w w.heap.size A (9 * n) zs) (hn : n ≤ 1500000) :
    Calls Try.prog 37 #[.slice A n c, .int .i64 u, .int .i64 v] w fun e w' => e = .returned (.bool (fitR zs n u v)) ∧ Below w.heap.size w w' := by
  have H := Lib.hid h
  clear h
  cases hv : vtB zs n
  · go_enter Try.func37, Try.ntmps37
    go_wp2_with (go_at_call 57; refine (svalidTree_any A n c zs w H.out hn).mono ?_; rintro e w1 ⟨rfl, hb⟩; rw [hv]; have B1 := Lib.hid hb; clear hb)
    go_ret
    exact ⟨ret_bool (fitR_no hv).symm, B1.out⟩
  · have HV := Lib.hid (vtB_iff.1 hv)
    have hn0 := HV.out.one
    obtain ⟨W, hW⟩ : ∃ x, Hid (nd zs n true 0 = x) := ⟨_, Lib.hid rfl⟩
    obtain ⟨G, hG⟩ : ∃ x, Hid (nd zs n false 0 = x) := ⟨_, Lib.hid rfl⟩
    have HR := Lib.hid (fitR_yes (u := u) (v := v) hv hW.out hG.out)
    by_cases hu : W ≤ u
    · have hud : decide (W ≤ u) = true := by simpa using hu
      go_enter Try.func37, Try.ntmps37
      go_wp2_with fail
      refine (svalidTree_any A n c zs w H.out hn).mono ?_
      rintro e w1 ⟨rfl, hb⟩
      rw [hv]
      have B1 := Lib.hid hb
      clear hb
      go_wp2_with fail
      refine (snat_any A n c 0 zs w1 ((H.out.below B1.out).more B1.out.size) hn0 HV.out).mono ?_
      rintro e w2 ⟨rfl, hb⟩
      rw [hW.out, hG.out]
      have B2 := Lib.hid (B1.out.trans (hb.mono B1.out.size))
      clear hb
      go_wp2
      go_ret
      exact ⟨ret_bool (by rw [HR.out, hud]; simp), B2.out⟩
    · have hud : decide (W ≤ u) = false := by simpa using hu
      go_enter Try.func37, Try.ntmps37
      go_wp2_with fail
      refine (svalidTree_any A n c zs w H.out hn).mono ?_
      rintro e w1 ⟨rfl, hb⟩
      rw [hv]
      have B1 := Lib.hid hb
      clear hb
      go_wp2_with fail
      refine (snat_any A n c 0 zs w1 ((H.out.below B1.out).more B1.out.size) hn0 HV.out).mono ?_
      rintro e w2 ⟨rfl, hb⟩
      rw [hW.out, hG.out]
      have B2 := Lib.hid (B1.out.trans (hb.mono B1.out.size))
      clear hb
      go_wp2
      go_ret
      exact ⟨ret_bool (by rw [HR.out, hud]; simp), B2.out⟩
/- The widest of a list's boxes: its number, and how wide it is. -/
def wk (f : Nat → Int) (l : List Nat) : Nat → Int × Int
  | 0 => (-1, -1)
  | k + 1 => if (wk f l k).2 < f (l.getD k 0) then ((l.getD k 0 : Nat), f (l.getD k 0)) else wk f l k
def kdN (zs : List Int) (n : Nat) (a : Int) : List Nat := if inT zs n a then kdsL zs n a else []
theorem kdR_eq (zs : List Int) (n : Nat) (a : Int) : kdR zs n a = ki (kdN zs n a) := by
  unfold kdR kdN
  split <;> rfl
theorem kdN_len (zs : List Int) (n : Nat) (a : Int) : (kdN zs n a).length ≤ n := by
  unfold kdN
  split
  · exact kdsL_len zs n a
  · exact Nat.zero_le _
theorem kdN_at {zs : List Int} {n k : Nat} {a : Int} (h : k < (kdN zs n a).length) : VT zs n ∧ (kdN zs n a).getD k 0 < n := by
  unfold kdN at h ⊢
  cases hv : inT zs n a
  · rw [hv] at h; simp at h
  · rw [hv, if_pos rfl] at h
    obtain ⟨j, rfl, hj⟩ := inT_at hv
    rw [if_pos rfl]
    exact ⟨inT_vt hv, (kdsL_at (inT_vt hv).par h).2.1⟩
def wkR (zs : List Int) (n : Nat) (a : Int) : Int := (wk (nd zs n true) (kdN zs n a) (kdN zs n a).length).1
theorem wk_first {f : Nat → Int} {l : List Nat} (h : 0 ≤ f (l.getD 0 0)) : wk f l 1 = (((l.getD 0 0 : Nat) : Int), f (l.getD 0 0)) := by
  show (if (-1 : Int) < f (l.getD 0 0) then (((l.getD 0 0 : Nat) : Int), f (l.getD 0 0)) else _) = _
  exact if_pos (by omega)
theorem wk_at {zs : List Int} {n : Nat} {a : Int} : ∀ k, 0 < k → k ≤ (kdN zs n a).length → ∃ b : Nat, wk (nd zs n true) (kdN zs n a) k = ((b : Int), nd zs n true b) ∧ b < n := by
  intro k
  induction k with
  | zero => intro h; omega
  | succ k ih =>
    intro _ hk
    have h1 := kdN_at (show k < (kdN zs n a).length by omega)
    by_cases e : k = 0
    · subst e
      exact ⟨_, wk_first (nd_nn h1.1 true _ h1.2), h1.2⟩
    · obtain ⟨b, hb, hbn⟩ := ih (by omega) (by omega)
      simp only [wk]
      by_cases h2 : (wk (nd zs n true) (kdN zs n a) k).2 < nd zs n true ((kdN zs n a).getD k 0)
      · rw [if_pos h2]; exact ⟨_, rfl, h1.2⟩
      · rw [if_neg h2]; exact ⟨b, hb, hbn⟩
set_option maxHeartbeats 4000000 in
theorem sWidestKid_any (A : Option Addr) (n c : Nat) (zs : List Int) (a : Int) (w : World) (h : Rd w w.heap.size A (9 * n) zs) (hn : n ≤ 1500000) :
    Calls Try.prog 43 #[.slice A n c, .int .i64 a] w fun e w' => e = .returned (.int .i64 (wkR zs n a)) ∧ Below w.heap.size w w' := by
  have H := Lib.hid h
  clear h
  obtain ⟨L, hL⟩ : ∃ L, Hid ((kdN zs n a).length = L) := ⟨_, Lib.hid rfl⟩
  have hL8 : L ≤ 1500000 := by rw [← hL.out]; have := kdN_len zs n a; omega
  go_enter Try.func43, Try.ntmps43
  go_wp2_with fail
  refine (sKidsOf_any A n c zs a w H.out hn).mono ?_
  rintro e w1 ⟨A2, q2, d2, rfl, hq2, hW2, hb1⟩
  rw [kdR_eq] at hW2
  obtain rfl : q2 = L := hW2.len.symm.trans ((ki_len _).trans hL.out)
  have W1 := Lib.hid (show Rd w1 w1.heap.size A2 q2 (ki (kdN zs n a)) from hW2.rd)
  have B1 := Lib.hid hb1
  clear hW2 hb1 hq2
  go_wp2
  go_loopw [5, 6, 8] (fun bs ms s wr => ∃ k : Nat, k ≤ q2 ∧ bs = .int .i64 (wk (nd zs n true) (kdN zs n a) k).1 ∧ ms = .int .i64 (wk (nd zs n true) (kdN zs n a) k).2 ∧ s = .int .i64 k ∧ Hid (Below w.heap.size w wr ∧ Rd wr wr.heap.size A2 q2 (ki (kdN zs n a)))) (fun _ _ s _ => q2 - (intOf s).toNat)
  case atStart => exact ⟨0, Nat.zero_le _, rfl, rfl, rfl, Lib.hid ⟨B1.out, W1.out⟩⟩
  case round =>
    obtain ⟨k, hk, rfl, rfl, rfl, hS⟩ := hrel
    obtain ⟨p, hp⟩ : ∃ x, Hid ((wk (nd zs n true) (kdN zs n a) k).1 = x) := ⟨_, Lib.hid rfl⟩
    obtain ⟨q, hq⟩ : ∃ x, Hid ((wk (nd zs n true) (kdN zs n a) k).2 = x) := ⟨_, Lib.hid rfl⟩
    rw [hp.out, hq.out]
    by_cases hlt : k < q2
    · have hat := kdN_at (show k < (kdN zs n a).length by rw [hL.out]; exact hlt)
      have HV := Lib.hid hat.1
      have hjn := hat.2
      clear hat
      obtain ⟨j, hj⟩ : ∃ j, Hid ((kdN zs n a).getD k 0 = j) := ⟨_, Lib.hid rfl⟩
      rw [hj.out] at hjn
      obtain ⟨b2, o2, rfl, hb2, hcc⟩ := hS.out.2.cell (by omega)
      have ck := hcc k hlt
      rw [ki_get (by rw [hL.out]; exact hlt), hj.out] at ck
      clear hcc
      obtain ⟨W, hW⟩ : ∃ x, Hid (nd zs n true j = x) := ⟨_, Lib.hid rfl⟩
      have hkq : (k : Int) < (q2 : Int) := by omega
      have hk0 : (0 : Int) ≤ (k : Int) := by omega
      have HS : Hid (wk (nd zs n true) (kdN zs n a) (k + 1) = if q < W then ((j : Int), W) else wk (nd zs n true) (kdN zs n a) k) := Lib.hid (by
        simp only [wk]
        rw [hj.out, hW.out, hq.out])
      go_wp2_with fail
      refine (snat_any A n c j zs wr ((H.out.below hS.out.1).more hS.out.1.size) hjn HV.out).mono ?_
      rintro e w2 ⟨rfl, hb⟩
      rw [hW.out]
      have B2 := Lib.hid (hS.out.1.trans (hb.mono hS.out.1.size))
      have R2 := Lib.hid ((hS.out.2.below hb).more hb.size)
      clear hb ck
      obtain ⟨b3, o3, e3, hb3, hcc⟩ := R2.out.cell (by omega)
      injection e3 with e3
      injection e3 with e3 e4 _
      subst e3 e4
      have ck := hcc k hlt
      rw [ki_get (by rw [hL.out]; exact hlt), hj.out] at ck
      clear hcc
      by_cases hgt : q < W
      · have HS' : Hid (wk (nd zs n true) (kdN zs n a) (k + 1) = ((j : Int), W)) := Lib.hid (by rw [HS.out, if_pos hgt])
        go_wp2
        go_roundw
        case rel => exact ⟨k + 1, by omega, by rw [HS'.out], by rw [HS'.out], by go_num, Lib.hid ⟨B2.out, R2.out⟩⟩
        case measure => simp [intOf]; omega
      · have HS' : Hid (wk (nd zs n true) (kdN zs n a) (k + 1) = wk (nd zs n true) (kdN zs n a) k) := Lib.hid (by rw [HS.out, if_neg hgt])
        go_wp2
        go_roundw
        case rel => exact ⟨k + 1, by omega, by rw [HS'.out, hp.out], by rw [HS'.out, hq.out], by go_num, Lib.hid ⟨B2.out, R2.out⟩⟩
        case measure => simp [intOf]; omega
    · obtain rfl : k = q2 := by omega
      go_wp2
      go_ret
      exact ⟨ret_int (by rw [← hp.out]; unfold wkR; rw [hL.out]), hS.out.1⟩
set_option maxRecDepth 100000 in
set_option maxHeartbeats 4000000 in
theorem iWidestKid_any (A : Option Addr) (n c : Nat) (zs : List Int) (a : Int) (w : World) (h : Rd w w.heap.size A (9 * n) zs) (hn : n ≤ 1500000) :
    Calls Try.prog 44 #[.slice A n c, .int .i64 a] w fun e w' => e = .returned (.int .i64 (wkR zs n a)) ∧ Below w.heap.size w w' := by
  have H := Lib.hid h
  clear h
  obtain ⟨L, hL⟩ : ∃ L, Hid ((kdN zs n a).length = L) := ⟨_, Lib.hid rfl⟩
  have hL8 : L ≤ 1500000 := by rw [← hL.out]; have := kdN_len zs n a; omega
  have hfd : ∀ (w : World) (x y : Int), (Instr.field 72 (.agg #[.int .i64 x, .int .i64 y]) 0).run Try.prog w = .ok (.int .i64 x) w := fun _ _ _ => by kernel_rfl
  go_enter Try.func44, Try.ntmps44
  go_wp2_with fail
  refine (iKidsOf_any A n c zs a w H.out hn).mono ?_
  rintro e w1 ⟨A2, q2, d2, rfl, hq2, hW2, hb1⟩
  rw [kdR_eq] at hW2
  obtain rfl : q2 = L := hW2.len.symm.trans ((ki_len _).trans hL.out)
  have W1 := Lib.hid (show Rd w1 w1.heap.size A2 q2 (ki (kdN zs n a)) from hW2.rd)
  have B1 := Lib.hid hb1
  clear hW2 hb1 hq2
  go_wp2
  go_loopw [5, 12] (fun bs s wr => ∃ k : Nat, k ≤ q2 ∧ bs = .int .i64 (wk (nd zs n true) (kdN zs n a) k).1 ∧ s = .int .i64 k ∧ Hid (Below w.heap.size w wr ∧ Rd wr wr.heap.size A2 q2 (ki (kdN zs n a)))) (fun _ s _ => q2 - (intOf s).toNat)
  case atStart => exact ⟨0, Nat.zero_le _, rfl, rfl, Lib.hid ⟨B1.out, W1.out⟩⟩
  case round =>
    obtain ⟨k, hk, rfl, rfl, hS⟩ := hrel
    by_cases hlt : k < q2
    · have hat := kdN_at (show k < (kdN zs n a).length by rw [hL.out]; exact hlt)
      have HV := Lib.hid hat.1
      have hjn := hat.2
      clear hat
      obtain ⟨j, hj⟩ : ∃ j, Hid ((kdN zs n a).getD k 0 = j) := ⟨_, Lib.hid rfl⟩
      rw [hj.out] at hjn
      obtain ⟨b2, o2, rfl, hb2, hcc⟩ := hS.out.2.cell (by omega)
      have ck := hcc k hlt
      rw [ki_get (by rw [hL.out]; exact hlt), hj.out] at ck
      clear hcc
      obtain ⟨W, hW⟩ : ∃ x, Hid (nd zs n true j = x) := ⟨_, Lib.hid rfl⟩
      have hkq : (k : Int) < (q2 : Int) := by omega
      have hk0 : (0 : Int) ≤ (k : Int) := by omega
      by_cases hz : k = 0
      · have HS : Hid (wk (nd zs n true) (kdN zs n a) (k + 1) = ((j : Int), W)) := Lib.hid (by
          subst hz
          rw [wk_first (by rw [hj.out]; exact nd_nn HV.out true j hjn), hj.out, hW.out])
        have HZ : Hid ((wk (nd zs n true) (kdN zs n a) k).1 = -1) := Lib.hid (by rw [hz]; rfl)
        clear hz
        rw [HZ.out]
        go_wp2
        go_roundw
        case rel => exact ⟨k + 1, by omega, by rw [HS.out], by go_num, Lib.hid ⟨hS.out.1, hS.out.2⟩⟩
        case measure => simp [intOf]; omega
      · obtain ⟨d, hd, hdn⟩ := wk_at (zs := zs) (n := n) (a := a) k (by omega) (by rw [hL.out]; exact hk)
        have HD := Lib.hid hd
        obtain ⟨q, hq⟩ : ∃ x, Hid (nd zs n true d = x) := ⟨_, Lib.hid rfl⟩
        have HS : Hid (wk (nd zs n true) (kdN zs n a) (k + 1) = if q < W then ((j : Int), W) else ((d : Int), q)) := Lib.hid (by
          simp only [wk]
          rw [hj.out, hW.out, hd, hq.out])
        clear hd hz
        rw [show (wk (nd zs n true) (kdN zs n a) k).1 = (d : Int) by rw [HD.out]]
        have hd0 : ¬ (d : Int) < 0 := by omega
        go_wp2_with fail
        refine (inat_any A n c j zs wr ((H.out.below hS.out.1).more hS.out.1.size) hjn HV.out).mono ?_
        rintro e w2 ⟨rfl, hb⟩
        rw [hW.out]
        have B2 := Lib.hid (hS.out.1.trans (hb.mono hS.out.1.size))
        have R2 := Lib.hid ((hS.out.2.below hb).more hb.size)
        clear hb ck
        go_wp2_with fail
        refine (inat_any A n c d zs w2 ((H.out.below B2.out).more B2.out.size) hdn HV.out).mono ?_
        rintro e w3 ⟨rfl, hb⟩
        rw [hq.out]
        have B3 := Lib.hid (B2.out.trans (hb.mono B2.out.size))
        have R3 := Lib.hid ((R2.out.below hb).more hb.size)
        clear hb
        by_cases hgt : q < W
        · have HS' : Hid (wk (nd zs n true) (kdN zs n a) (k + 1) = ((j : Int), W)) := Lib.hid (by rw [HS.out, if_pos hgt])
          go_wp2
          go_roundw
          case rel => exact ⟨k + 1, by omega, by rw [HS'.out], by go_num, Lib.hid ⟨B3.out, R3.out⟩⟩
          case measure => simp [intOf]; omega
        · have HS' : Hid (wk (nd zs n true) (kdN zs n a) (k + 1) = ((d : Int), q)) := Lib.hid (by rw [HS.out, if_neg hgt])
          go_wp2
          go_roundw
          case rel => exact ⟨k + 1, by omega, by rw [HS'.out], by go_num, Lib.hid ⟨B3.out, R3.out⟩⟩
          case measure => simp [intOf]; omega
    · obtain rfl : k = q2 := by omega
      obtain ⟨p, hp⟩ : ∃ x, Hid ((wk (nd zs n true) (kdN zs n a) k).1 = x) := ⟨_, Lib.hid rfl⟩
      rw [hp.out]
      go_wp2
      go_ret
      exact ⟨ret_int (by rw [← hp.out]; unfold wkR; rw [hL.out]), hS.out.1⟩
end Go.Proofs.Ytjaecgobgpfbdaa
