/- Spilling, by the program and by the reference. Spilling, by the reference. The exact law of Spilling: the walk. -/
import Derived.Test.YtjaecgobgpfbdaaVH
import Derived.Deep.DeepCutAuto
import Derived.Deep.RegionHeld3
import Derived.Test.YtjaecgobgpfbdaaFO
namespace Go.Proofs.Ytjaecgobgpfbdaa
open Go.RowKit

/- Whether a side of a rectangle lies beyond that of another one. -/
def bey (r s : Rc) : Bool := ((decide (r.x < s.x) || decide (r.y < s.y)) || decide (s.x + s.w < r.x + r.w)) || decide (s.y + s.h < r.y + r.h)
theorem bey_iff {r s : Rc} : bey r s = true ↔ (r.x < s.x ∨ r.y < s.y) ∨ s.x + s.w < r.x + r.w ∨ s.y + s.h < r.y + r.h := by
  unfold bey
  simp [or_assoc]
def spQ (zs : List Int) (n : Nat) (W H : Int) (i : Nat) : Rc := (lay zs n W H (parB zs i).toNat).inn (pdB zs (parB zs i).toNat)
def spL (zs : List Int) (n : Nat) (W H : Int) : Nat → List Nat
  | 0 => []
  | k + 1 => spL zs n W H k ++ (if decide (0 < k) && bey (lay zs n W H k) (spQ zs n W H k) then [k] else [])
theorem spL_yes {zs : List Int} {n : Nat} {W H : Int} {k : Nat} (hk : 0 < k) (h : bey (lay zs n W H k) (spQ zs n W H k) = true) : spL zs n W H (k + 1) = spL zs n W H k ++ [k] := by
  show _ ++ (if _ then _ else _) = _
  rw [h, decide_eq_true hk]
  rfl
theorem spL_no {zs : List Int} {n : Nat} {W H : Int} {k : Nat} (h : bey (lay zs n W H k) (spQ zs n W H k) = false) : spL zs n W H (k + 1) = spL zs n W H k := by
  show _ ++ (if _ then _ else _) = _
  rw [h, Bool.and_false]
  exact List.append_nil _
theorem spL_one (zs : List Int) (n : Nat) (W H : Int) : spL zs n W H 1 = [] := rfl
theorem spL_len (zs : List Int) (n : Nat) (W H : Int) (k : Nat) : (spL zs n W H k).length ≤ k := by
  induction k with
  | zero => exact Nat.le_refl _
  | succ k ih =>
    show (spL zs n W H k ++ (if decide (0 < k) && bey (lay zs n W H k) (spQ zs n W H k) then [k] else [])).length ≤ _
    rw [List.length_append]
    split
    · simp; omega
    · simp; omega
def spR (zs : List Int) (n : Nat) (W H : Int) : List Int := if okR zs n W H then ki (spL zs n W H n) else []
theorem spR_yes {zs : List Int} {n : Nat} {W H : Int} (h : okR zs n W H = true) : spR zs n W H = ki (spL zs n W H n) := by unfold spR; rw [h]; rfl
theorem spR_no {zs : List Int} {n : Nat} {W H : Int} (h : okR zs n W H = false) : spR zs n W H = [] := by unfold spR; rw [h]; rfl
theorem spR_len (zs : List Int) (n : Nat) (W H : Int) : (spR zs n W H).length ≤ n := by
  unfold spR
  split
  · rw [ki_len]; exact spL_len _ _ _ _ _
  · exact Nat.zero_le _
/- A rectangle of small numbers. -/
def Sm (r : Rc) : Prop := (-60000000 ≤ r.x ∧ r.x ≤ 60000000) ∧ (-60000000 ≤ r.y ∧ r.y ≤ 60000000) ∧ (0 ≤ r.w ∧ r.w ≤ 10000) ∧ 0 ≤ r.h ∧ r.h ≤ 10000
theorem LB.sm {r : Rc} {i : Nat} (h : LB r i) (hi : i ≤ 16) : Sm r := by
  obtain ⟨⟨h1, h2⟩, ⟨h3, h4⟩, h5, h6⟩ := h
  exact ⟨by omega, by omega, h5, h6⟩
theorem LB.smI {r : Rc} {i : Nat} {p : Int} (h : LB r i) (hi : i ≤ 16) (p0 : 0 ≤ p) (p1 : p ≤ 50) : Sm (r.inn p) := by
  obtain ⟨q1, q2, q3, q4⟩ := inn_bd h p0 p1
  obtain ⟨⟨h1, h2⟩, ⟨h3, h4⟩, h5, h6⟩ := h
  exact ⟨by omega, by omega, q3, q4⟩
set_option maxHeartbeats 4000000 in
theorem beyond_any (r s : Rc) (w : World) (hr : Sm r) (hs : Sm s) :
    Calls Try.prog 55 #[.agg #[.int .i64 r.x, .int .i64 r.y, .int .i64 r.w, .int .i64 r.h], .agg #[.int .i64 s.x, .int .i64 s.y, .int .i64 s.w, .int .i64 s.h]] w fun e w' => e = .returned (.bool (bey r s)) ∧ Below w.heap.size w w' := by
  obtain ⟨⟨h1, h2⟩, ⟨h3, h4⟩, ⟨h5, h6⟩, h7, h8⟩ := hr
  obtain ⟨⟨g1, g2⟩, ⟨g3, g4⟩, ⟨g5, g6⟩, g7, g8⟩ := hs
  obtain ⟨x, y, a, b⟩ := r
  obtain ⟨p, q, c, d⟩ := s
  dsimp only at h1 h2 h3 h4 h5 h6 h7 h8 g1 g2 g3 g4 g5 g6 g7 g8 ⊢
  have hb := Lib.hid (bey_iff (r := ⟨x, y, a, b⟩) (s := ⟨p, q, c, d⟩))
  dsimp only at hb
  generalize bey ⟨x, y, a, b⟩ ⟨p, q, c, d⟩ = o at hb ⊢
  go_enter Try.func55, Try.ntmps55
  go_wp2
  all_goals go_ret
  all_goals exact ⟨ret_bool (by rw [Bool.eq_iff_iff, hb.out]; simp; omega), (by repeat (first | (with_reducible exact Below.refl _ _) | (with_reducible refine Below.drew ?_) | (with_reducible refine below_drewN ?_ _) | ((with_reducible refine Below.setCell ?_ ?_ _); rotate_left; (focus (dsimp only; omega))) | ((with_reducible refine Below.alloc ?_ ?_ _); rotate_left; (focus ((try simp only [World.size_alloc]); (first | omega | ((try simp); (try omega); done))))) | ((refine Below.trans ?_ (Below.mono (by assumption) ?_)); rotate_left; (focus ((try simp only [World.size_alloc]); (first | omega | ((try simp); (try omega); done)))))))⟩
set_option maxRecDepth 100000 in
set_option maxHeartbeats 8000000 in
theorem iSpilling_any (A : Option Addr) (n c : Nat) (zs : List Int) (W H : Int) (w : World) (h : Rd w w.heap.size A (9 * n) zs) (hn : n ≤ 1500000) :
    Calls Try.prog 21 #[.slice A n c, .int .i64 W, .int .i64 H] w (GotI w (spR zs n W H)) := by
  have R := Lib.hid h
  clear h
  cases ho : okR zs n W H
  · have HR := Lib.hid (spR_no ho)
    go_enter Try.func21, Try.ntmps21
    go_wp2_with (go_at_call 50; refine (screenOk_any A n c zs W H w R.out hn).mono ?_; rintro e w1 ⟨rfl, hb⟩; rw [show ((vtB zs n && inB W 0 10000) && inB H 0 10000) = false from ho]; have B1 := Lib.hid hb; clear hb)
    go_ret
    rw [HR.out]
    exact GotI.nil w B1.out
  · have HR := Lib.hid (spR_yes ho)
    obtain ⟨hv, hW, hH⟩ := okR_of ho
    obtain ⟨bt, ot, rfl⟩ := R.out.some9 hv.one
    have HV := Lib.hid hv
    have HW := Lib.hid hW
    have HH := Lib.hid hH
    have n16 := hv.few
    have n1 := hv.one
    have hmk := made_room n (by omega)
    clear hv hW hH
    go_enter Try.func21, Try.ntmps21
    go_wp2_with fail
    refine (screenOk_any _ n c zs W H w R.out hn).mono ?_
    rintro e w1 ⟨rfl, hb⟩
    rw [show ((vtB zs n && inB W 0 10000) && inB H 0 10000) = true from ho]
    have B1 := Lib.hid hb
    clear hb ho
    go_wp2_with fail
    refine (layoutOf_any zs n bt ot c W H w1 ((R.out.below B1.out).more B1.out.size) HV.out HW.out HH.out).mono ?_
    rintro e w2 ⟨gl, bo, rfl, hS, hb⟩
    have S2 := Lib.hid hS
    have B2 := Lib.hid (B1.out.trans (hb.mono B1.out.size))
    have RM := Lib.hid (Rz.room w2 n (by omega))
    have e1 := (hS.below n1 RM.out.bl).l
    clear hS hb B1
    go_wp2_with fail
    generalize w2.alloc (.cells (madeCells #[Value.int .i64 0] n) 3) = wa at RM e1 ⊢
    go_loopw [8, 28] (fun v s wr => ∃ k : Nat, k ≤ n ∧ s = .int .i64 k ∧ Hid (Rz w2 v (spL zs n W H k).length (ki (spL zs n W H k)) wr)) (fun _ s _ => n - (intOf s).toNat)
    case atStart => exact ⟨0, Nat.zero_le _, rfl, RM⟩
    case round =>
      obtain ⟨k, hk, rfl, hI⟩ := hrel
      clear RM e1
      have hkl := spL_len zs n W H k
      by_cases hlt : k < n
      · obtain ⟨r, hr⟩ : ∃ r, Hid (lay zs n W H k = r) := ⟨_, Lib.hid rfl⟩
        have S3 := Lib.hid (S2.out.below n1 hI.out.bl)
        obtain ⟨_, _, ⟨d0, _⟩, ⟨d1, _⟩, ⟨d2, _⟩, ⟨d3, _⟩⟩ := S3.out.wr.at_4 hlt
        obtain ⟨q0, q1, q2, q3⟩ := layL_at (zs := zs) W H hlt
        rw [q0, hr.out] at d0
        rw [q1, hr.out] at d1
        rw [q2, hr.out] at d2
        rw [q3, hr.out] at d3
        simp only [Nat.zero_add] at d0 d1 d2 d3
        have hk0 : (0 : Int) ≤ (k : Int) := by omega
        have hk1 : (k : Int) < (n : Int) := by omega
        clear q0 q1 q2 q3
        have G3 := Lib.hid (Rm.made wr r 25)
        have A3 := Lib.hid ((Below.refl wr.heap.size wr).alloc (Nat.le_refl _) (.cells #[.int .i64 r.x, .int .i64 r.y, .int .i64 r.w, .int .i64 r.h] 25))
        obtain ⟨g, hg⟩ : ∃ g, Hid (wr.heap.size = g) := ⟨_, Lib.hid rfl⟩
        go_wp2_with fail
        rw [hg.out] at G3 ⊢
        generalize wr.alloc (.cells #[.int .i64 r.x, .int .i64 r.y, .int .i64 r.w, .int .i64 r.h] 25) = wb at G3 A3 ⊢
        have I3 := Lib.hid (hI.out.below A3.out)
        have S4 := Lib.hid (S3.out.below n1 A3.out)
        clear d0 d1 d2 d3 hI S3 A3
        have HS0 : Hid (KB wb wb.drew) := Below.drew (Below.refl wb.heap.size wb)
        have e0 : ∀ m : Kept (KB wb), m.val.cell? ⟨g, 0, none⟩ = some (.int .i64 r.x) := fun m => (G3.out.below (show Below wb.heap.size wb m.val from m.ok)).c0
        have e1 : ∀ m : Kept (KB wb), m.val.cell? ⟨g, 1, none⟩ = some (.int .i64 r.y) := fun m => (G3.out.below (show Below wb.heap.size wb m.val from m.ok)).c1
        have e2 : ∀ m : Kept (KB wb), m.val.cell? ⟨g, 2, none⟩ = some (.int .i64 r.w) := fun m => (G3.out.below (show Below wb.heap.size wb m.val from m.ok)).c2
        have e3 : ∀ m : Kept (KB wb), m.val.cell? ⟨g, 3, none⟩ = some (.int .i64 r.h) := fun m => (G3.out.below (show Below wb.heap.size wb m.val from m.ok)).c3
        by_cases hkp : (0 : Int) < (k : Int)
        · have hkd : decide ((0 : Int) < (k : Int)) = true := by simpa using hkp
          have hkd' : decide (0 < k) = true := by simp; omega
          obtain ⟨p, hp, hpk, hpn⟩ := HV.out.par.up hlt ((HV.out.par k hlt).2 (by omega)).1
          have hpc := (at9 (S4.out.tree (by omega)).2 hlt).1
          rw [show zs.getD (9 * k) 0 = (p : Int) from hp] at hpc
          have hbt := (S4.out.tree (by omega)).1
          have e4 : ∀ m : Kept (KB wb), m.val.cell? ⟨bt, ot + k * 9, none⟩ = some (.int .i64 (p : Int)) := fun m => (Below.cell (show Below wb.heap.size wb m.val from m.ok) (p := ⟨bt, ot + k * 9, none⟩) hbt).trans hpc
          obtain ⟨q, hq⟩ : ∃ q, Hid (spQ zs n W H k = q) := ⟨_, Lib.hid rfl⟩
          have HQE : Hid ((lay zs n W H p).inn (pdB zs p) = q) := by
            rw [← hq.out]
            unfold spQ
            rw [hp, Int.toNat_natCast]
            exact Lib.hid rfl
          obtain ⟨o, hoo⟩ : ∃ o, Hid (bey r q = o) := ⟨_, Lib.hid rfl⟩
          have LBP := Lib.hid (lay_bd HV.out HW.out HH.out p hpn)
          have oP := Lib.hid (HV.out.ok hpn)
          have SMr : Hid (Sm r) := by rw [← hr.out]; exact Lib.hid ((lay_bd HV.out HW.out HH.out k hlt).sm (by omega))
          have SMq : Hid (Sm q) := by rw [← HQE.out]; exact Lib.hid (LBP.out.smI (by omega) oP.out.pd.1 oP.out.pd.2)
          have IS := Lib.hid (S4.out.inS hpn (layL_at (zs := zs) W H hpn))
          have HK := Lib.hid (fun (m : Kept (KB wb)) (W' : World) (hb : Below m.val.heap.size m.val W') => show KB wb W' from (show Below wb.heap.size wb m.val from m.ok).trans (hb.mono (show Below wb.heap.size wb m.val from m.ok).size))
          have HIN : Hid (∀ m : Kept (KB wb), Calls Try.prog 56 #[.pointer (some ⟨gl, 0, none⟩), .int .i64 (p : Int)] m.val fun e w'' => e = .returned (.agg #[.int .i64 q.x, .int .i64 q.y, .int .i64 q.w, .int .i64 q.h]) ∧ ∃ m : Kept (KB wb), w'' = m.val) := Lib.hid fun m => by
            rw [← HQE.out]
            exact keep_call (inner_any gl bt ot n c bo 0 n p (lay zs n W H p) (pdB zs p) m.val (IS.out.below (show Below wb.heap.size wb m.val from m.ok)) hpn n16 LBP.out oP.out.pd.1 oP.out.pd.2) (HK.out m)
          have HBY : Hid (∀ m : Kept (KB wb), Calls Try.prog 55 #[.agg #[.int .i64 r.x, .int .i64 r.y, .int .i64 r.w, .int .i64 r.h], .agg #[.int .i64 q.x, .int .i64 q.y, .int .i64 q.w, .int .i64 q.h]] m.val fun e w'' => e = .returned (.bool o) ∧ ∃ m : Kept (KB wb), w'' = m.val) := Lib.hid fun m => by
            rw [← hoo.out]
            exact keep_call (beyond_any r q m.val SMr.out SMq.out) (HK.out m)
          clear hpc hbt
          refine region_keep (S := KB wb) (by kernel_rfl) (by kernel_rfl) HS0.out fun hne => ?_
          repeat (go_big_quiet_step (first | (go_at_call 56; with_reducible exact HIN.out _) | (go_at_call 55; with_reducible exact HBY.out _)))
          refine wpQuiet_nil ?_
          intro w9 hw'
          obtain ⟨m9, hw''⟩ := hw'
          have hS9 := m9.ok
          rw [← hw''] at hS9
          clear hw'' e0 e1 e2 e3 e4 HK HIN HBY
          have I9 := Lib.hid (I3.out.below (show Below wb.heap.size wb w9 from hS9))
          clear hS9
          cases o
          · have HE : Hid (spL zs n W H (k + 1) = spL zs n W H k) := Lib.hid (spL_no (by rw [hr.out, hq.out]; exact hoo.out))
            go_wp2
            go_roundw
            case rel => exact ⟨k + 1, by omega, by go_num, by rw [HE.out]; exact I9⟩
            case measure => simp [intOf]; omega
          · have HE : Hid (spL zs n W H (k + 1) = spL zs n W H k ++ [k]) := Lib.hid (spL_yes (by omega) (by rw [hr.out, hq.out]; exact hoo.out))
            go_wp2_with (at_builtin; refine wpList_appz _ rfl _ _ rfl _ _ _ rfl (I9.out.alloc _) (by omega) w9.heap.size k rfl (by simp [go_sem]) ?_; intro v' wn hown; have HO := Lib.hid hown; clear hown)
            go_roundw
            case rel => exact ⟨k + 1, by omega, by go_num, by rw [HE.out, List.length_append, ki_app]; exact HO⟩
            case measure => simp [intOf]; omega
        · have hkd : decide ((0 : Int) < (k : Int)) = false := by simpa using hkp
          have hkd' : decide (0 < k) = false := by simp; omega
          have HE : Hid (spL zs n W H (k + 1) = spL zs n W H k) := by
            obtain rfl : k = 0 := by omega
            exact Lib.hid rfl
          refine region_keep (S := KB wb) (by kernel_rfl) (by kernel_rfl) HS0.out fun hne => ?_
          repeat (go_big_quiet_step (fail))
          refine wpQuiet_nil ?_
          intro w9 hw'
          obtain ⟨m9, hw''⟩ := hw'
          have hS9 := m9.ok
          rw [← hw''] at hS9
          clear hw'' e0 e1 e2 e3
          have I9 := Lib.hid (I3.out.below (show Below wb.heap.size wb w9 from hS9))
          clear hS9
          go_wp2
          go_roundw
          case rel => exact ⟨k + 1, by omega, by go_num, by rw [HE.out]; exact I9⟩
          case measure => simp [intOf]; omega
      · obtain rfl : n = k := by omega
        obtain ⟨A6, c6, rfl, g1, g2, _, hW6⟩ := hI.out.out
        have W6 := Lib.hid (hW6.low (show w.heap.size ≤ w2.heap.size from B2.out.size))
        have B6 := Lib.hid (B2.out.trans (hI.out.bl.mono B2.out.size))
        have h0 : (0 : Int) ≤ ((spL zs n W H n).length : Int) := by omega
        have h1 : ((spL zs n W H n).length : Int) ≤ (c6 : Int) := by omega
        clear hW6
        go_wp2
        go_ret
        rw [HR.out]
        exact ⟨A6, _, _, rfl, Nat.le_refl _, W6.out, B6.out⟩
end Go.Proofs.Ytjaecgobgpfbdaa
namespace Go.Proofs.Ytjaecgobgpfbdaa
open Go.RowKit

set_option maxRecDepth 100000 in
set_option maxHeartbeats 8000000 in
theorem sSpilling_any (A : Option Addr) (n c : Nat) (zs : List Int) (W H : Int) (w : World) (h : Rd w w.heap.size A (9 * n) zs) (hn : n ≤ 1500000) :
    Calls Try.prog 20 #[.slice A n c, .int .i64 W, .int .i64 H] w (GotI w (spR zs n W H)) := by
  have R := Lib.hid h
  clear h
  have B0 := Lib.hid ((Below.refl w.heap.size w).alloc (Nat.le_refl _) (.cells #[] 3))
  have R0 := Lib.hid ((R.out.below B0.out).more B0.out.size)
  cases ho : okR zs n W H
  · have HR := Lib.hid (spR_no ho)
    have HL := Lib.hid (lyR_no ho)
    go_enter Try.func20, Try.ntmps20
    go_wp2_with fail
    generalize w.alloc (.cells #[] 3) = wa at B0 R0 ⊢
    refine (sLayoutTree_any A n c zs W H wa R0.out hn).mono ?_
    rintro e w1 ⟨A1, m, m1, rfl, _, hw, hb⟩
    have hmz : ((m : Int) == 0) = true := by have h1 := hw.len; rw [HL.out] at h1; simp at h1; simp; omega
    have B1 := Lib.hid (B0.out.trans (hb.mono B0.out.size))
    clear hw hb
    go_wp2
    go_ret
    rw [HR.out]
    exact GotI.nil w B1.out
  · have HR := Lib.hid (spR_yes ho)
    have HL := Lib.hid (lyR_yes ho)
    obtain ⟨hv, hW, hH⟩ := okR_of ho
    obtain ⟨bt, ot, rfl⟩ := R.out.some9 hv.one
    have HV := Lib.hid hv
    have HW := Lib.hid hW
    have HH := Lib.hid hH
    have n16 := hv.few
    have n1 := hv.one
    clear hv hW hH ho
    go_enter Try.func20, Try.ntmps20
    go_wp2_with fail
    generalize w.alloc (.cells #[] 3) = wa at B0 R0 ⊢
    refine (sLayoutTree_any _ n c zs W H wa R0.out hn).mono ?_
    rintro e w1 ⟨A1, m, m1, rfl, _, hw, hb⟩
    rw [HL.out] at hw
    obtain rfl : n = m := by have h1 := hw.len; rw [layL_len] at h1; omega
    obtain ⟨bo, oo, rfl, _⟩ := hw.2 (by omega)
    have W1 := Lib.hid hw
    have B1 := Lib.hid (B0.out.trans (hb.mono B0.out.size))
    have R1 := Lib.hid ((R0.out.below hb).more hb.size)
    have hmz : ((n : Int) == 0) = false := by simp; omega
    clear hw hb R0 B0
    go_wp2_with fail
    go_loopw [7, 9] (fun v s wr => ∃ k : Nat, 1 ≤ k ∧ k ≤ n ∧ s = .int .i64 k ∧ Hid (Rz w1 v (spL zs n W H k).length (ki (spL zs n W H k)) wr)) (fun _ s _ => n - (intOf s).toNat)
    case atStart => exact ⟨1, Nat.le_refl _, n1, rfl, Lib.hid (Rz.start w1 ⟨w.heap.size, 0, none⟩)⟩
    case round =>
      obtain ⟨k, hk, hkn, rfl, hI⟩ := hrel
      have hkl := spL_len zs n W H k
      by_cases hlt : k < n
      · have W2 := Lib.hid (W1.out.below hI.out.bl)
        have R2 := Lib.hid ((R1.out.below hI.out.bl).more hI.out.size)
        obtain ⟨p, hp, hpk, hpn⟩ := HV.out.par.up hlt ((HV.out.par k hlt).2 (by omega)).1
        obtain ⟨b', o', e, hbt, htree⟩ := R2.out.2 (by omega)
        injection e with e
        injection e with e1 e2
        subst e1 e2
        have hpc := (at9 htree hlt).1
        rw [show zs.getD (9 * k) 0 = (p : Int) from hp] at hpc
        obtain ⟨_, _, _, _, hpd, _⟩ := at9 htree hpn
        obtain ⟨pd, hpde⟩ : ∃ x, Hid (pdB zs p = x) := ⟨_, Lib.hid rfl⟩
        rw [show zs.getD (9 * p + 4) 0 = pd from hpde.out] at hpd
        clear htree
        obtain ⟨r, hr⟩ : ∃ r, Hid (lay zs n W H k = r) := ⟨_, Lib.hid rfl⟩
        obtain ⟨u, hu⟩ : ∃ u, Hid (lay zs n W H p = u) := ⟨_, Lib.hid rfl⟩
        obtain ⟨q, hq⟩ : ∃ q, Hid (spQ zs n W H k = q) := ⟨_, Lib.hid rfl⟩
        have HQE : Hid (u.inn pd = q) := by
          rw [← hq.out, ← hu.out, ← hpde.out]
          unfold spQ
          rw [hp, Int.toNat_natCast]
          exact Lib.hid rfl
        have oP := Lib.hid (HV.out.ok hpn)
        have hpd0 : 0 ≤ pd := by rw [← hpde.out]; exact oP.out.pd.1
        have hpd1 : pd ≤ 50 := by rw [← hpde.out]; exact oP.out.pd.2
        have LBP : Hid (LB u p) := by rw [← hu.out]; exact Lib.hid (lay_bd HV.out HW.out HH.out p hpn)
        have SMr : Hid (Sm r) := by rw [← hr.out]; exact Lib.hid ((lay_bd HV.out HW.out HH.out k hlt).sm (by omega))
        have SMq : Hid (Sm q) := by rw [← HQE.out]; exact Lib.hid (LBP.out.smI (by omega) hpd0 hpd1)
        obtain ⟨_, _, ⟨d0, _⟩, ⟨d1, _⟩, ⟨d2, _⟩, ⟨d3, _⟩⟩ := W2.out.at_4 hpn
        obtain ⟨q0, q1, q2, q3⟩ := layL_at (zs := zs) W H hpn
        rw [q0, hu.out] at d0
        rw [q1, hu.out] at d1
        rw [q2, hu.out] at d2
        rw [q3, hu.out] at d3
        have hk0 : (0 : Int) ≤ (k : Int) := by omega
        have hk1 : (k : Int) < (n : Int) := by omega
        have hp0 : (0 : Int) ≤ (p : Int) := by omega
        have hp1 : (p : Int) < (n : Int) := by omega
        clear q0 q1 q2 q3
        have hbo : bo < wr.heap.size := lt_of_cell d0
        have HS := Lib.hid (fun (W' : World) (hb : Below wr.heap.size wr W') => show W'.cell? ⟨bo, oo + p * 4, none⟩ = some (.int .i64 u.x) ∧ W'.cell? ⟨bo, oo + p * 4 + 1, none⟩ = some (.int .i64 u.y) ∧ W'.cell? ⟨bo, oo + p * 4 + 2, none⟩ = some (.int .i64 u.w) ∧ W'.cell? ⟨bo, oo + p * 4 + 3, none⟩ = some (.int .i64 u.h) ∧ W'.cell? ⟨bt, ot + p * 9 + 4, none⟩ = some (.int .i64 pd) from
          ⟨(hb.cell (p := ⟨bo, oo + p * 4, none⟩) hbo).trans d0, (hb.cell (p := ⟨bo, oo + p * 4 + 1, none⟩) hbo).trans d1, (hb.cell (p := ⟨bo, oo + p * 4 + 2, none⟩) hbo).trans d2, (hb.cell (p := ⟨bo, oo + p * 4 + 3, none⟩) hbo).trans d3, (hb.cell (p := ⟨bt, ot + p * 9 + 4, none⟩) hbt).trans hpd⟩)
        go_upto_region 9 with fail
        clear d0 d1 d2 d3 hpc hpd
        go_cut [11] (fun s wx => ∃ g : Nat, s = .pointer (some ⟨g, 0, none⟩) ∧ Rm g q wx ∧ Below wr.heap.size wr wx)
        case first =>
          go_region_held3 (fun w' => w'.cell? ⟨bo, oo + p * 4, none⟩ = some (.int .i64 u.x) ∧ w'.cell? ⟨bo, oo + p * 4 + 1, none⟩ = some (.int .i64 u.y) ∧ w'.cell? ⟨bo, oo + p * 4 + 2, none⟩ = some (.int .i64 u.w) ∧ w'.cell? ⟨bo, oo + p * 4 + 3, none⟩ = some (.int .i64 u.h) ∧ w'.cell? ⟨bt, ot + p * 9 + 4, none⟩ = some (.int .i64 pd))
            ((refine HS.out _ ?_; repeat (first | (with_reducible exact B2) | (with_reducible exact Below.refl _ _) | (with_reducible refine Below.drew ?_) | ((with_reducible refine Below.setCell ?_ ?_ _); rotate_left; (focus (dsimp only; omega))) | ((with_reducible refine Below.alloc ?_ ?_ _); rotate_left; (focus (first | exact hz2 | (simp; done) | (simp; omega)))))))
            ((go_at_call 54; refine (sinn_any u p pd _ LBP.out (by omega) hpd0 hpd1).mono ?_; rintro e w2 ⟨rfl, hb⟩; rw [HQE.out]; have B2 : Below wr.heap.size wr w2 := (by refine Below.trans ?_ (Below.mono hb ?_); rotate_left; (focus (first | (simp; done) | (simp; omega))); exact (by repeat (first | (with_reducible exact Below.refl _ _) | (with_reducible refine Below.drew ?_) | (with_reducible refine below_drewN ?_ _) | ((with_reducible refine Below.setCell ?_ ?_ _); rotate_left; (focus (dsimp only; omega))) | ((with_reducible refine Below.alloc ?_ ?_ _); rotate_left; (focus ((try simp only [World.size_alloc]); (first | omega | ((try simp); (try omega); done))))) | ((refine Below.trans ?_ (Below.mono (by assumption) ?_)); rotate_left; (focus ((try simp only [World.size_alloc]); (first | omega | ((try simp); (try omega); done)))))))); have hz2 := B2.size; (try (have UR : Rm wr.heap.size ⟨0, 0, 0, 0⟩ w2 := Rm.below (Rm.made wr.drew ⟨0, 0, 0, 0⟩ 25) hb; obtain ⟨u0, u1, u2, u3, f0, f1, f2, f3⟩ := UR)); clear hb))
          all_goals go_wp2_with fail
          all_goals (go_meet; refine ⟨_, rfl, ?_, ?_⟩)
          · exact Rm.made w2 q 25
          · exact B2.alloc hz2 _
          · exact Rm.set (q := ⟨0, 0, 0, 0⟩) ⟨u0, u1, u2, u3, f0, f1, f2, f3⟩ q.x q.y q.w q.h
          · exact (((B2.setCell (Nat.le_refl _) _).setCell (Nat.le_refl _) _).setCell (Nat.le_refl _) _).setCell (Nat.le_refl _) _
        case rest =>
          obtain ⟨g, rfl, hG, hB⟩ := hcut
          have W5 := Lib.hid (W2.out.below hB)
          have I5 := Lib.hid (hI.out.below hB)
          obtain ⟨_, _, ⟨d0, _⟩, ⟨d1, _⟩, ⟨d2, _⟩, ⟨d3, _⟩⟩ := W5.out.at_4 hlt
          obtain ⟨q0, q1, q2, q3⟩ := layL_at (zs := zs) W H hlt
          rw [q0, hr.out] at d0
          rw [q1, hr.out] at d1
          rw [q2, hr.out] at d2
          rw [q3, hr.out] at d3
          have I6 := Lib.hid (I5.out.alloc (.cells #[.int .i64 r.x, .int .i64 r.y, .int .i64 r.w, .int .i64 r.h] 25))
          have G6 := Lib.hid (hG.alloc (.cells #[.int .i64 r.x, .int .i64 r.y, .int .i64 r.w, .int .i64 r.h] 25))
          have P6 := Lib.hid (Rm.made wc r 25)
          obtain ⟨f, hf⟩ : ∃ f, Hid (wc.heap.size = f) := ⟨_, Lib.hid rfl⟩
          clear q0 q1 q2 q3 hG hB
          go_upto_region 11 with fail
          rw [hf.out] at P6 ⊢
          generalize wc.alloc (.cells #[.int .i64 r.x, .int .i64 r.y, .int .i64 r.w, .int .i64 r.h] 25) = wd at I6 G6 P6 ⊢
          obtain ⟨c0, c1, c2, c3, _⟩ := P6.out
          obtain ⟨b0, b1, b2, b3, _⟩ := G6.out
          obtain ⟨⟨r1, r2⟩, ⟨r3, r4⟩, ⟨r5, r6⟩, r7, r8⟩ := SMr.out
          obtain ⟨⟨s1, s2⟩, ⟨s3, s4⟩, ⟨s5, s6⟩, s7, s8⟩ := SMq.out
          clear d0 d1 d2 d3 I5 G6 P6
          by_cases y0 : r.x < q.x
          · have HE : Hid (spL zs n W H (k + 1) = spL zs n W H k ++ [k]) := Lib.hid (spL_yes (by omega) (by rw [hr.out, hq.out]; exact bey_iff.2 (by omega)))
            go_wp2_with (at_builtin; refine wpList_appz _ rfl _ _ rfl _ _ _ rfl (I6.out.alloc _) (by omega) wd.heap.size k rfl (by simp [go_sem]) ?_; intro v' wn hown; have HO := Lib.hid hown; clear hown)
            go_roundw
            case rel => exact ⟨k + 1, by omega, by omega, by go_num, by rw [HE.out, List.length_append, ki_app]; exact HO⟩
            case measure => simp [intOf]; omega
          by_cases y1 : r.y < q.y
          · have HE : Hid (spL zs n W H (k + 1) = spL zs n W H k ++ [k]) := Lib.hid (spL_yes (by omega) (by rw [hr.out, hq.out]; exact bey_iff.2 (by omega)))
            go_wp2_with (at_builtin; refine wpList_appz _ rfl _ _ rfl _ _ _ rfl (I6.out.alloc _) (by omega) wd.heap.size k rfl (by simp [go_sem]) ?_; intro v' wn hown; have HO := Lib.hid hown; clear hown)
            go_roundw
            case rel => exact ⟨k + 1, by omega, by omega, by go_num, by rw [HE.out, List.length_append, ki_app]; exact HO⟩
            case measure => simp [intOf]; omega
          by_cases y2 : q.x + q.w < r.x + r.w
          · have HE : Hid (spL zs n W H (k + 1) = spL zs n W H k ++ [k]) := Lib.hid (spL_yes (by omega) (by rw [hr.out, hq.out]; exact bey_iff.2 (by omega)))
            go_wp2_with (at_builtin; refine wpList_appz _ rfl _ _ rfl _ _ _ rfl (I6.out.alloc _) (by omega) wd.heap.size k rfl (by simp [go_sem]) ?_; intro v' wn hown; have HO := Lib.hid hown; clear hown)
            go_roundw
            case rel => exact ⟨k + 1, by omega, by omega, by go_num, by rw [HE.out, List.length_append, ki_app]; exact HO⟩
            case measure => simp [intOf]; omega
          by_cases y3 : q.y + q.h < r.y + r.h
          · have HE : Hid (spL zs n W H (k + 1) = spL zs n W H k ++ [k]) := Lib.hid (spL_yes (by omega) (by rw [hr.out, hq.out]; exact bey_iff.2 (by omega)))
            go_wp2_with (at_builtin; refine wpList_appz _ rfl _ _ rfl _ _ _ rfl (I6.out.alloc _) (by omega) wd.heap.size k rfl (by simp [go_sem]) ?_; intro v' wn hown; have HO := Lib.hid hown; clear hown)
            go_roundw
            case rel => exact ⟨k + 1, by omega, by omega, by go_num, by rw [HE.out, List.length_append, ki_app]; exact HO⟩
            case measure => simp [intOf]; omega
          have HE : Hid (spL zs n W H (k + 1) = spL zs n W H k) := Lib.hid (spL_no (by rw [hr.out, hq.out, Bool.eq_false_iff]; intro hh; have := bey_iff.1 hh; omega))
          go_wp2
          go_roundw
          case rel => exact ⟨k + 1, by omega, by omega, by go_num, by rw [HE.out]; exact I6⟩
          case measure => simp [intOf]; omega
      · obtain rfl : n = k := by omega
        obtain ⟨A6, c6, rfl, g1, _, _, hW6⟩ := hI.out.out
        have W6 := Lib.hid (hW6.low (show w.heap.size ≤ w1.heap.size from B1.out.size))
        have B6 := Lib.hid (B1.out.trans (hI.out.bl.mono B1.out.size))
        clear hW6
        go_wp2
        go_ret
        rw [HR.out]
        exact ⟨A6, _, c6, rfl, g1, W6.out, B6.out⟩
end Go.Proofs.Ytjaecgobgpfbdaa
namespace Go.Proofs.Ytjaecgobgpfbdaa
open Go.RowKit

theorem belowOf {w w' : World} (h : w = w') : Below w.heap.size w w' := by subst h; exact Below.refl _ _
theorem Wr.grown2 {w w' : World} {lo hi n : Nat} {A : Option Addr} {zs : List Int} {row : Option Nat} (h : Wr w lo A n zs) (hh : ∀ b off, A = some ⟨b, off, none⟩ → 0 < n → b < hi) (hg : w.grownBy w' row) (hr : ∀ g, row = some g → g < lo ∨ hi ≤ g) : Wr w' lo A n zs :=
  ⟨h.1, fun hn => by
    obtain ⟨b, off, e, hl, hb, hc⟩ := h.2 hn
    have hb2 := hh b off e hn
    have hk := hg.block b hb (fun e => by have := hr b e.symm; omega)
    exact ⟨b, off, e, hl, Nat.lt_of_lt_of_le hb hg.size, fun i hi => ⟨(World.cell?_of_block hk).trans (hc i hi).1, (World.frozen?_of_block hk).trans (hc i hi).2⟩⟩⟩
set_option maxHeartbeats 4000000 in
theorem walkFnExactSpilling (A0 : Option Addr) (n0 c0 : Nat) (a1 : Int) (a2 : Int) (w : World) (h0 : IsRows 9 w A0 n0 c0) (_ : (Lit.int .i64 a1).wf = true) (_ : (Lit.int .i64 a2).wf = true) :
    Calls Try.prog 4 #[.slice A0 n0 c0, .int .i64 a1, .int .i64 a2] w fun e w' => e = .returned (.bool true) ∧ Below w.heap.size w w' := by
  obtain ⟨y0, hr0⟩ := Rd.of_rows h0
  have R0 := Lib.hid hr0
  have hm0 : (n0 : Int) ≤ 9223372036854775807 := isRows_len h0
  clear h0 hr0
  by_cases hl0 : (1048576 : Int) < n0
  · go_enter Try.func4, Try.ntmps4
    go_wp2_with (go_at_call 14; ((with_reducible refine (szBoxS_big _ _ _ _ hl0 hm0).mono ?_); rintro e w' ⟨rfl, rfl⟩))
    go_ret
    exact ⟨rfl, Below.refl _ _⟩
  have hn0 : n0 ≤ 2000000 := by omega
  have hk0 : (n0 : Int) ≤ 1048576 := by omega
  have BB0 := Lib.hid (Below.refl w.heap.size w)
  obtain ⟨N, hN⟩ : ∃ N, Hid (((spR y0 n0 a1 a2)).length = N) := ⟨_, rfl⟩
  have hN1 : N ≤ 1100000 := by rw [← hN.out]; have hq := spR_len y0 n0 a1 a2; omega
  go_enter Try.func4, Try.ntmps4
  go_wp2_with fail
  refine (szBoxS_any _ _ _ _ hk0).mono ?_
  rintro e w' ⟨rfl, rfl⟩
  go_wp2_with fail
  refine (toBoxS_any A0 n0 c0 y0 _ ((R0.out.below BB0.out).more BB0.out.size) hn0).mono ?_
  rintro e w1 ⟨Ax1, cx1, rfl, kx1, mx1, hw, hb⟩
  have Sx1_1 := Lib.hid hw
  have kx1' := Lib.hid kx1
  have mx1' := Lib.hid mx1
  have Hx1 := Lib.hid hw.hi
  clear hw kx1 mx1
  have BB1 := Lib.hid (BB0.out.trans (hb.mono BB0.out.size))
  have ZW1 := Lib.hid hb.size
  clear hb
  go_wp2_with fail
  refine (sSpilling_any Ax1 n0 cx1 y0 a1 a2 _ Sx1_1.out.rd (by omega)).mono ?_
  rintro e w2 ⟨Ag2, ng2, cg2, rfl, kk, hw, hb⟩
  have eg2 : N = ng2 := hN.out.symm.trans hw.1
  subst eg2
  have Sg2_2 := Lib.hid hw
  have Hg2 := Lib.hid hw.hi
  have kg2' := Lib.hid kk
  clear hw kk
  have BB2 := Lib.hid (BB1.out.trans (hb.mono BB1.out.size))
  have Sx1_2 := Lib.hid (Sx1_1.out.below hb)
  have ZW2 := Lib.hid hb.size
  clear hb
  clear Sx1_2
  go_wp2_with fail
  refine (toBoxS_any A0 n0 c0 y0 _ ((R0.out.below BB2.out).more BB2.out.size) hn0).mono ?_
  rintro e w3 ⟨Ax3, cx3, rfl, kx3, mx3, hw, hb⟩
  have Sx3_3 := Lib.hid hw
  have kx3' := Lib.hid kx3
  have mx3' := Lib.hid mx3
  have Hx3 := Lib.hid hw.hi
  clear hw kx3 mx3
  have BB3 := Lib.hid (BB2.out.trans (hb.mono BB2.out.size))
  have Sg2_3 := Lib.hid (Sg2_2.out.below hb)
  have ZW3 := Lib.hid hb.size
  clear hb
  go_wp2_with fail
  refine (iSpilling_any Ax3 n0 cx3 y0 a1 a2 _ Sx3_3.out.rd (by omega)).mono ?_
  rintro e w4 ⟨Ag4, ng4, cg4, rfl, kk, hw, hb⟩
  have eg4 : N = ng4 := hN.out.symm.trans hw.1
  subst eg4
  have Sg4_4 := Lib.hid hw
  have Hg4 := Lib.hid hw.hi
  have kg4' := Lib.hid kk
  clear hw kk
  have BB4 := Lib.hid (BB3.out.trans (hb.mono BB3.out.size))
  have Sg2_4 := Lib.hid (Sg2_3.out.below hb)
  have Sx3_4 := Lib.hid (Sx3_3.out.below hb)
  have ZW4 := Lib.hid hb.size
  clear hb
  go_wp2_with fail
  refine (eqIntS_any Ag4 Ag2 N cg4 cg2 (spR y0 n0 a1 a2) _ _ _ Sg4_4.out.rd Sg2_4.out.rd (by omega)).mono ?_
  rintro e w5 ⟨rfl, hb⟩
  have BB5 := Lib.hid (BB4.out.trans (hb.mono BB4.out.size))
  have Sg2_5 := Lib.hid (Sg2_4.out.below hb)
  have Sx3_5 := Lib.hid (Sx3_4.out.below hb)
  have Sg4_5 := Lib.hid (Sg4_4.out.below hb)
  have ZW5 := Lib.hid hb.size
  clear hb
  go_wp2_with fail
  refine (toBoxS_any A0 n0 c0 y0 _ ((R0.out.below BB5.out).more BB5.out.size) hn0).mono ?_
  rintro e w6 ⟨Ax6, cx6, rfl, kx6, mx6, hw, hb⟩
  have Sx6_6 := Lib.hid hw
  have kx6' := Lib.hid kx6
  have mx6' := Lib.hid mx6
  have Hx6 := Lib.hid hw.hi
  clear hw kx6 mx6
  have BB6 := Lib.hid (BB5.out.trans (hb.mono BB5.out.size))
  have Sg2_6 := Lib.hid (Sg2_5.out.below hb)
  have Sx3_6 := Lib.hid (Sx3_5.out.below hb)
  have Sg4_6 := Lib.hid (Sg4_5.out.below hb)
  have ZW6 := Lib.hid hb.size
  clear hb
  go_wp2_with fail
  refine (eqBoxS_any Ax3 Ax6 n0 cx3 cx6 y0 _ Sx3_6.out.rd Sx6_6.out.rd (by omega)).mono ?_
  rintro e w7 ⟨rfl, hb⟩
  have BB7 := Lib.hid (BB6.out.trans (hb.mono BB6.out.size))
  have Sg2_7 := Lib.hid (Sg2_6.out.below hb)
  have Sx3_7 := Lib.hid (Sx3_6.out.below hb)
  have Sg4_7 := Lib.hid (Sg4_6.out.below hb)
  have Sx6_7 := Lib.hid (Sx6_6.out.below hb)
  have ZW7 := Lib.hid hb.size
  clear hb
  clear Sx6_7
  go_wp2_with fail
  refine (markBoxS_any Ax3 n0 cx3 y0 1 w2.heap.size w3.heap.size _ Sx3_7.out (by omega) (by omega) (by omega) (fun b off e hn => Hx3.out b off e (by omega))).mono ?_
  rintro e w8 ⟨row, rfl, hw, hrow, hg⟩
  have BB8 := Lib.hid (bl_gb BB7.out hg BB7.out.size (fun g e => by have h1 := (hrow g e).1; have z0 := ZW1.out; have z1 := ZW2.out; have z2 := ZW3.out; have z3 := ZW4.out; have z4 := ZW5.out; have z5 := ZW6.out; have z6 := ZW7.out; omega))
  have ZW8 := Lib.hid hg.size
  have Sg2_8 := Lib.hid (Sg2_7.out.grown2 Hg2.out hg (fun g e => by have h1 := (hrow g e).1; have h2 := (hrow g e).2; have z0 := ZW1.out; have z1 := ZW2.out; have z2 := ZW3.out; have z3 := ZW4.out; have z4 := ZW5.out; have z5 := ZW6.out; have z6 := ZW7.out; omega))
  have Sg4_8 := Lib.hid (Sg4_7.out.grown2 Hg4.out hg (fun g e => by have h1 := (hrow g e).1; have h2 := (hrow g e).2; have z0 := ZW1.out; have z1 := ZW2.out; have z2 := ZW3.out; have z3 := ZW4.out; have z4 := ZW5.out; have z5 := ZW6.out; have z6 := ZW7.out; omega))
  have Sx3_8 := Lib.hid hw
  clear hw hg hrow
  go_wp2_with fail
  refine (eqIntS_any Ag4 Ag2 N cg4 cg2 (spR y0 n0 a1 a2) _ _ _ Sg4_8.out.rd Sg2_8.out.rd (by omega)).mono ?_
  rintro e w9 ⟨rfl, hb⟩
  have BB9 := Lib.hid (BB8.out.trans (hb.mono BB8.out.size))
  have Sg2_9 := Lib.hid (Sg2_8.out.below hb)
  have Sx3_9 := Lib.hid (Sx3_8.out.below hb)
  have Sg4_9 := Lib.hid (Sg4_8.out.below hb)
  have ZW9 := Lib.hid hb.size
  clear hb
  clear Sx3_9
  go_wp2_with fail
  refine (markIntS_any Ag4 N cg4 (spR y0 n0 a1 a2) 1 w3.heap.size w4.heap.size _ Sg4_9.out (by omega) (by omega) (by omega) Hg4.out).mono ?_
  rintro e w10 ⟨row, rfl, hw, hrow, hg⟩
  have BB10 := Lib.hid (bl_gb BB9.out hg BB9.out.size (fun g e => by have h1 := (hrow g e).1; have z0 := ZW1.out; have z1 := ZW2.out; have z2 := ZW3.out; have z3 := ZW4.out; have z4 := ZW5.out; have z5 := ZW6.out; have z6 := ZW7.out; have z7 := ZW8.out; have z8 := ZW9.out; omega))
  have ZW10 := Lib.hid hg.size
  have Sg2_10 := Lib.hid (Sg2_9.out.grown2 Hg2.out hg (fun g e => by have h1 := (hrow g e).1; have h2 := (hrow g e).2; have z0 := ZW1.out; have z1 := ZW2.out; have z2 := ZW3.out; have z3 := ZW4.out; have z4 := ZW5.out; have z5 := ZW6.out; have z6 := ZW7.out; have z7 := ZW8.out; have z8 := ZW9.out; omega))
  have Sg4_10 := Lib.hid hw
  clear hw hg hrow
  go_wp2_with fail
  refine (heldIntS_any Ag4 N cg4 1 _ _ Sg4_10.out.rd (by omega) (by omega) (by omega)).mono ?_
  rintro e w_ ⟨rfl, rfl⟩
  go_wp2_with fail
  refine (toBoxS_any A0 n0 c0 y0 _ ((R0.out.below BB10.out).more BB10.out.size) hn0).mono ?_
  rintro e w12 ⟨Ax12, cx12, rfl, kx12, mx12, hw, hb⟩
  have Sx12_12 := Lib.hid hw
  have kx12' := Lib.hid kx12
  have mx12' := Lib.hid mx12
  have Hx12 := Lib.hid hw.hi
  clear hw kx12 mx12
  have BB12 := Lib.hid (BB10.out.trans (hb.mono BB10.out.size))
  have Sg2_12 := Lib.hid (Sg2_10.out.below hb)
  have Sg4_12 := Lib.hid (Sg4_10.out.below hb)
  have ZW12 := Lib.hid hb.size
  clear hb
  go_wp2_with fail
  refine (iSpilling_any Ax12 n0 cx12 y0 a1 a2 _ Sx12_12.out.rd (by omega)).mono ?_
  rintro e w13 ⟨Ag13, ng13, cg13, rfl, kk, hw, hb⟩
  have eg13 : N = ng13 := hN.out.symm.trans hw.1
  subst eg13
  have Sg13_13 := Lib.hid hw
  have Hg13 := Lib.hid hw.hi
  have kg13' := Lib.hid kk
  clear hw kk
  have BB13 := Lib.hid (BB12.out.trans (hb.mono BB12.out.size))
  have Sg2_13 := Lib.hid (Sg2_12.out.below hb)
  have Sg4_13 := Lib.hid (Sg4_12.out.below hb)
  have Sx12_13 := Lib.hid (Sx12_12.out.below hb)
  have ZW13 := Lib.hid hb.size
  clear hb
  clear Sx12_13
  go_wp2_with fail
  refine (eqIntS_any Ag13 Ag2 N cg13 cg2 (spR y0 n0 a1 a2) _ _ _ Sg13_13.out.rd Sg2_13.out.rd (by omega)).mono ?_
  rintro e w14 ⟨rfl, hb⟩
  have BB14 := Lib.hid (BB13.out.trans (hb.mono BB13.out.size))
  have Sg2_14 := Lib.hid (Sg2_13.out.below hb)
  have Sg4_14 := Lib.hid (Sg4_13.out.below hb)
  have Sg13_14 := Lib.hid (Sg13_13.out.below hb)
  have ZW14 := Lib.hid hb.size
  clear hb
  go_wp2_with fail
  refine (heldIntS_any Ag4 N cg4 1 _ _ Sg4_14.out.rd (by omega) (by omega) (by omega)).mono ?_
  rintro e w_ ⟨rfl, rfl⟩
  go_wp2
  go_ret
  exact ⟨rfl, BB14.out⟩
end Go.Proofs.Ytjaecgobgpfbdaa
