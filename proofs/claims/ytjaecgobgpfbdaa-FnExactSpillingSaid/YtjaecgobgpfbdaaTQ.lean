/- Natural sizes, by the reference. -/
import Derived.Test.YtjaecgobgpfbdaaTO
namespace Go.Proofs.Ytjaecgobgpfbdaa
open Go.RowKit

/- What the reference's round keeps: the box read at B. -/
structure MSt (w : World) (x1 x4 x5 : Int) (wr : World) : Prop where
  bl : Below w.heap.size w wr
  lt : w.heap.size < wr.heap.size
  k1 : wr.cell? ⟨w.heap.size, 1, none⟩ = some (.int .i64 x1)
  k4 : wr.cell? ⟨w.heap.size, 4, none⟩ = some (.int .i64 x4)
  k5 : wr.cell? ⟨w.heap.size, 5, none⟩ = some (.int .i64 x5)
section
variable {w wr wr' : World} {x1 x4 x5 : Int}
theorem MSt.below (h : MSt w x1 x4 x5 wr) (hb : Below wr.heap.size wr wr') : MSt w x1 x4 x5 wr' := by
  have hc := fun o => hb.cell (p := ⟨w.heap.size, o, none⟩) h.lt
  exact ⟨h.bl.trans (hb.mono h.bl.size), Nat.lt_of_lt_of_le h.lt hb.size, (hc _).trans h.k1, (hc _).trans h.k4, (hc _).trans h.k5⟩
theorem MSt.made (w : World) (x0 x1 x2 x3 x4 x5 x6 x7 x8 : Int) (e2 : TypeId) : MSt w x1 x4 x5 (w.alloc (.cells #[.int .i64 x0, .int .i64 x1, .int .i64 x2, .int .i64 x3, .int .i64 x4, .int .i64 x5, .int .i64 x6, .int .i64 x7, .int .i64 x8] e2)) := by
  refine ⟨(Below.refl _ _).alloc (Nat.le_refl _) _, by simp, ?_, ?_, ?_⟩ <;> simp [go_sem]
end
def NatT (zs : List Int) (n i : Nat) (w : World) (e : Ending) (w' : World) : Prop := e = .returned (.tuple #[.int .i64 (nd zs n true i), .int .i64 (nd zs n false i)]) ∧ Below w.heap.size w w'
/- The sums so far, as the reference sees them. -/
def sxP (zs : List Int) (n i k : Nat) : Int := max 0 (((kdsL zs n (i : Int)).length : Int) - 1) * gpB zs i + sumL (nd zs n (kdB zs i == 2)) ((kdsL zs n (i : Int)).take k)
def syP (zs : List Int) (n i k : Nat) : Int := maxL (nd zs n (!(kdB zs i == 2))) ((kdsL zs n (i : Int)).take k)
theorem sx_bd {zs : List Int} {n i : Nat} (h : VT zs n) (hi : i < n) (k : Nat) : (0 ≤ sxP zs n i k ∧ sxP zs n i k ≤ 6000) ∧ 0 ≤ syP zs n i k ∧ syP zs n i k ≤ 6000 := by
  have o := h.ok hi
  have h8 := h.kids8 hi
  have h1 := part_bd h (kdB zs i == 2) hi k
  have h3 := maxp_bd h (!(kdB zs i == 2)) hi k
  have := prod_bd (a := max 0 (((kdsL zs n (i : Int)).length : Int) - 1)) (b := gpB zs i) (M := 7) (N := 50) (by omega) (by omega) o.gp.1 o.gp.2
  unfold sxP syP
  omega
theorem sx_zero (zs : List Int) (n i : Nat) : sxP zs n i 0 = max 0 (((kdsL zs n (i : Int)).length : Int) - 1) * gpB zs i ∧ syP zs n i 0 = 0 := by
  unfold sxP syP
  simp [maxL, sumL]
theorem sx_step {zs : List Int} {n i k : Nat} (h : VT zs n) (_hi : i < n) (hk : k < (kdsL zs n (i : Int)).length) :
    sxP zs n i (k + 1) = sxP zs n i k + nd zs n (kdB zs i == 2) ((kdsL zs n (i : Int)).getD k 0) ∧ syP zs n i (k + 1) = max (syP zs n i k) (nd zs n (!(kdB zs i == 2)) ((kdsL zs n (i : Int)).getD k 0)) := by
  unfold sxP syP
  rw [sumL_succ _ hk, maxL_succ _ hk (fun j hj => nd_nn h _ j (kdsL_gt h.par hj).2)]
  exact ⟨by omega, rfl⟩
theorem sx_end {zs : List Int} {n i : Nat} (h : VT zs n) (hi : i < n) (h0 : ¬ kdB zs i = 0) : (kdB zs i = 2 → nd zs n true i = sxP zs n i (kdsL zs n (i : Int)).length + 2 * pdB zs i ∧ nd zs n false i = syP zs n i (kdsL zs n (i : Int)).length + 2 * pdB zs i) ∧ (¬ kdB zs i = 2 → nd zs n true i = syP zs n i (kdsL zs n (i : Int)).length + 2 * pdB zs i ∧ nd zs n false i = sxP zs n i (kdsL zs n (i : Int)).length + 2 * pdB zs i) := by
  rw [nd_eq h.par hi, nd_eq h.par hi, if_neg h0, if_neg h0]
  unfold sxP syP
  rw [List.take_length]
  constructor
  · intro h2
    simp [h2]
  · intro h2
    have e : (kdB zs i == 2) = false := by simpa using h2
    rw [e]
    simp
set_option maxRecDepth 100000 in
set_option maxHeartbeats 8000000 in
theorem snat_fuel (zs : List Int) (n : Nat) (HV : Hid (VT zs n)) : ∀ m i, i < n → n - i ≤ m → ∀ (A : Option Addr) (c : Nat) (w : World), Hid (Rd w w.heap.size A (9 * n) zs) →
    Calls Try.prog 67 #[.slice A n c, .int .i64 i] w (NatT zs n i w) := by
  intro m
  induction m with
  | zero => intro i hi hm; omega
  | succ m ih =>
    intro i hi hm A c w H
    have IH := Lib.hid ih
    clear ih
    have hn16 : n ≤ 16 := HV.out.few
    have o := Lib.hid (HV.out.ok hi)
    obtain ⟨b, off, rfl, hb, hc⟩ := H.out.cell (by omega)
    obtain ⟨cz, c1, c2, c3, c4, c5, c6, c7, c8⟩ := at9 hc hi
    clear hc
    obtain ⟨x0, h0⟩ : ∃ x, Hid (zs.getD (9 * i) 0 = x) := ⟨_, Lib.hid rfl⟩
    rw [h0.out] at cz
    obtain ⟨x1, h1⟩ : ∃ x, Hid (kdB zs i = x) := ⟨_, Lib.hid rfl⟩
    rw [show zs.getD (9 * i + 1) 0 = x1 from h1.out] at c1
    obtain ⟨x2, h2⟩ : ∃ x, Hid (wdB zs i = x) := ⟨_, Lib.hid rfl⟩
    rw [show zs.getD (9 * i + 2) 0 = x2 from h2.out] at c2
    obtain ⟨x3, h3⟩ : ∃ x, Hid (htB zs i = x) := ⟨_, Lib.hid rfl⟩
    rw [show zs.getD (9 * i + 3) 0 = x3 from h3.out] at c3
    obtain ⟨x4, h4⟩ : ∃ x, Hid (pdB zs i = x) := ⟨_, Lib.hid rfl⟩
    rw [show zs.getD (9 * i + 4) 0 = x4 from h4.out] at c4
    obtain ⟨x5, h5⟩ : ∃ x, Hid (gpB zs i = x) := ⟨_, Lib.hid rfl⟩
    rw [show zs.getD (9 * i + 5) 0 = x5 from h5.out] at c5
    obtain ⟨x6, h6⟩ : ∃ x, Hid (zs.getD (9 * i + 6) 0 = x) := ⟨_, Lib.hid rfl⟩
    rw [h6.out] at c6
    obtain ⟨x7, h7⟩ : ∃ x, Hid (zs.getD (9 * i + 7) 0 = x) := ⟨_, Lib.hid rfl⟩
    rw [h7.out] at c7
    obtain ⟨x8, h8⟩ : ∃ x, Hid (zs.getD (9 * i + 8) 0 = x) := ⟨_, Lib.hid rfl⟩
    rw [h8.out] at c8
    have bp : 0 ≤ x4 ∧ x4 ≤ 50 := by rw [← h4.out]; exact o.out.pd
    have bg : 0 ≤ x5 ∧ x5 ≤ 50 := by rw [← h5.out]; exact o.out.gp
    have bw : 0 ≤ x2 ∧ x2 ≤ 100 := by rw [← h2.out]; exact o.out.wd
    have bh : 0 ≤ x3 ∧ x3 ≤ 100 := by rw [← h3.out]; exact o.out.ht
    obtain ⟨bp0, bp1⟩ := bp
    obtain ⟨bg0, bg1⟩ := bg
    obtain ⟨bw0, bw1⟩ := bw
    obtain ⟨bh0, bh1⟩ := bh
    obtain ⟨L, hL⟩ : ∃ L, Hid ((kdsL zs n (i : Int)).length = L) := ⟨_, Lib.hid rfl⟩
    have hL8 : L ≤ 8 := by rw [← hL.out]; exact HV.out.kids8 hi
    have hin : (i : Int) < (n : Int) := by omega
    have hi0 : (0 : Int) ≤ (i : Int) := by omega
    have t1 : IntKind.i64.wrap (2 * x4) = 2 * x4 := IntWalk.i64_in _ (by omega)
    by_cases hx : x1 = 0
    · have hxd : (x1 == 0) = true := by simpa using hx
      have t2 : IntKind.i64.wrap (x2 + 2 * x4) = x2 + 2 * x4 := IntWalk.i64_in _ (by omega)
      have t3 : IntKind.i64.wrap (x3 + 2 * x4) = x3 + 2 * x4 := IntWalk.i64_in _ (by omega)
      have HEQ := Lib.hid (nd_eq HV.out.par hi true)
      have HEF := Lib.hid (nd_eq HV.out.par hi false)
      rw [h1.out, if_pos hx, h2.out, h4.out] at HEQ
      rw [h1.out, if_pos hx, h3.out, h4.out] at HEF
      subst hx
      go_enter Try.func67, Try.ntmps67
      go_wp2
      go_quiet (fail)
      go_wp2
      go_ret2
      refine ⟨?_, below_drewN ((Below.refl _ _).alloc (Nat.le_refl _) _) _⟩
      rw [HEQ.out, HEF.out]
      simp
    · have hxd : (x1 == 0) = false := by simpa using hx
      have HX := Lib.hid hx
      clear hx
      have HEnd := Lib.hid (sx_end HV.out hi (fun e => HX.out (h1.out.symm.trans e)))
      obtain ⟨mL, hmL⟩ : ∃ mL, Hid (max (0 : Int) ((L : Int) - 1) = mL) := ⟨_, Lib.hid rfl⟩
      have bm : 0 ≤ mL ∧ mL ≤ 7 := by rw [← hmL.out]; omega
      obtain ⟨bm0, bm1⟩ := bm
      obtain ⟨pr, hpr⟩ : ∃ pr, Hid (mL * x5 = pr) := ⟨_, Lib.hid rfl⟩
      have bpr : 0 ≤ pr ∧ pr ≤ 350 := by rw [← hpr.out]; exact prod_bd bm0 bm1 bg0 bg1
      have t4 : IntKind.i64.wrap ((L : Int) - 1) = (L : Int) - 1 := IntWalk.i64_in _ (by omega)
      have t6 : IntKind.i64.wrap (mL * x5) = pr := by rw [hpr.out]; exact IntWalk.i64_in _ (by omega)
      have t5 := hmL.out
      clear t1
      go_enter Try.func67, Try.ntmps67
      go_wp2_with fail
      refine (skids_any _ n c i zs _ ((H.out.alloc (Nat.le_refl _) _).more (by simp)) (by omega) hi (HV.out.par.mono (by omega))).mono ?_
      rintro e w1 ⟨A2, q2, d2, rfl, hq2, hW2, hb1⟩
      obtain rfl : q2 = L := hW2.len.symm.trans ((ki_len _).trans hL.out)
      have N1 := Lib.hid ((MSt.made w x0 x1 x2 x3 x4 x5 x6 x7 x8 _).below hb1)
      have W1 := Lib.hid (Wr.low hW2 (lo' := w.heap.size + 1) (by simp))
      clear hW2 hb1 cz c1 c2 c3 c4 c5 c6 c7 c8 hq2
      have e5 := N1.out.k5
      go_wp2
      go_loopw [8, 9, 10] (fun al ac s wr => ∃ k : Nat, k ≤ q2 ∧ al = .int .i64 (sxP zs n i k) ∧ ac = .int .i64 (syP zs n i k) ∧ s = .int .i64 k ∧ Hid (MSt w x1 x4 x5 wr ∧ Wr wr (w.heap.size + 1) A2 q2 (ki (kdsL zs n (i : Int))))) (fun _ _ s _ => q2 - (intOf s).toNat)
      case atStart =>
        refine ⟨0, Nat.zero_le _, ?_, ?_, rfl, Lib.hid ⟨N1.out, W1.out⟩⟩
        · rw [(sx_zero zs n i).1, hL.out, hmL.out, h5.out, hpr.out]
        · rw [(sx_zero zs n i).2]
      case round =>
        obtain ⟨k, hk, rfl, rfl, rfl, hS⟩ := hrel
        have hPQ := sx_bd HV.out hi k
        obtain ⟨p, hp⟩ : ∃ x, Hid (sxP zs n i k = x) := ⟨_, Lib.hid rfl⟩
        obtain ⟨q, hq⟩ : ∃ x, Hid (syP zs n i k = x) := ⟨_, Lib.hid rfl⟩
        rw [hp.out, hq.out] at hPQ ⊢
        obtain ⟨⟨p0, p1⟩, q0, q1⟩ := hPQ
        clear t4 t5 t6 e5
        by_cases hlt : k < q2
        · obtain ⟨g1, g2, g3⟩ := kdsL_at HV.out.par (show k < (kdsL zs n (i : Int)).length by rw [hL.out]; exact hlt)
          obtain ⟨j, hj⟩ : ∃ j, Hid ((kdsL zs n (i : Int)).getD k 0 = j) := ⟨_, Lib.hid rfl⟩
          rw [hj.out] at g1 g2
          clear g3
          obtain ⟨b2, o2, rfl, hb2, hb3, hcc⟩ := hS.out.2.2 (by omega)
          have ck := (hcc k hlt).1
          rw [ki_get (by rw [hL.out]; exact hlt), hj.out] at ck
          clear hcc hb2 hb3
          obtain ⟨W, hW⟩ : ∃ x, Hid (nd zs n true j = x) := ⟨_, Lib.hid rfl⟩
          obtain ⟨G, hG⟩ : ∃ x, Hid (nd zs n false j = x) := ⟨_, Lib.hid rfl⟩
          have bW : 0 ≤ W ∧ W ≤ 4000 := by rw [← hW.out]; exact nd_le HV.out true j g2
          have bG : 0 ≤ G ∧ G ≤ 4000 := by rw [← hG.out]; exact nd_le HV.out false j g2
          obtain ⟨bW0, bW1⟩ := bW
          obtain ⟨bG0, bG1⟩ := bG
          have hkq : (k : Int) < (q2 : Int) := by omega
          have hk0 : (0 : Int) ≤ (k : Int) := by omega
          have HS := Lib.hid (sx_step HV.out hi (show k < (kdsL zs n (i : Int)).length by rw [hL.out]; exact hlt))
          rw [hj.out, h1.out, hp.out, hq.out] at HS
          go_wp2_with fail
          refine (IH.out j g2 (by omega) _ c wr (Lib.hid ((H.out.below hS.out.1.bl).more hS.out.1.bl.size))).mono ?_
          rintro e w2 ⟨rfl, hb4⟩
          rw [hW.out, hG.out]
          have N2 := Lib.hid (hS.out.1.below hb4)
          have W2 := Lib.hid (hS.out.2.below hb4)
          clear ck hb4
          have e1 := N2.out.k1
          by_cases hr : x1 = 2
          · subst hr
            have HR : Hid (sxP zs n i (k + 1) = p + W ∧ syP zs n i (k + 1) = max q G) := Lib.hid (by
              have := HS.out
              simp only [beq_self_eq_true, Bool.not_true, hW.out, hG.out] at this
              exact this)
            clear HS
            go_wp2
            go_roundw
            case rel => exact ⟨k + 1, by omega, by rw [HR.out.1], by rw [HR.out.2], by go_num, Lib.hid ⟨N2.out, W2.out⟩⟩
            case measure => simp [intOf]; omega
          · have hrd : (x1 == 2) = false := by simpa using hr
            have hrd' : (x1 != 2) = true := by simpa using hr
            have HR : Hid (sxP zs n i (k + 1) = p + G ∧ syP zs n i (k + 1) = max q W) := Lib.hid (by
              have := HS.out
              rw [hrd] at this
              simp only [Bool.not_false, hW.out, hG.out] at this
              exact this)
            clear HS hr
            go_wp2
            go_roundw
            case rel => exact ⟨k + 1, by omega, by rw [HR.out.1], by rw [HR.out.2], by go_num, Lib.hid ⟨N2.out, W2.out⟩⟩
            case measure => simp [intOf]; omega
        · obtain rfl : k = q2 := by omega
          have e1 := hS.out.1.k1
          have e4 := hS.out.1.k4
          rw [h1.out, hL.out, h4.out, hp.out, hq.out] at HEnd
          have t1 : IntKind.i64.wrap (2 * x4) = 2 * x4 := IntWalk.i64_in _ (by omega)
          have t2 : IntKind.i64.wrap (p + 2 * x4) = p + 2 * x4 := IntWalk.i64_in _ (by omega)
          have t3 : IntKind.i64.wrap (q + 2 * x4) = q + 2 * x4 := IntWalk.i64_in _ (by omega)
          by_cases hr : x1 = 2
          · have HR := Lib.hid (HEnd.out.1 hr)
            subst hr
            clear HEnd
            go_wp2
            go_quiet (fail)
            go_wp2
            go_ret2
            exact ⟨by rw [HR.out.1, HR.out.2]; rfl, below_drewN hS.out.1.bl _⟩
          · have HR := Lib.hid (HEnd.out.2 hr)
            have hrd : (x1 == 2) = false := by simpa using hr
            have hrd' : (x1 != 2) = true := by simpa using hr
            clear HEnd hr
            go_wp2
            go_quiet (fail)
            go_wp2
            go_ret2
            exact ⟨by rw [HR.out.1, HR.out.2]; rfl, below_drewN hS.out.1.bl _⟩
theorem snat_any (A : Option Addr) (n c i : Nat) (zs : List Int) (w : World) (h : Rd w w.heap.size A (9 * n) zs) (hi : i < n) (hv : VT zs n) :
    Calls Try.prog 67 #[.slice A n c, .int .i64 i] w fun e w' => e = .returned (.tuple #[.int .i64 (nd zs n true i), .int .i64 (nd zs n false i)]) ∧ Below w.heap.size w w' :=
  snat_fuel zs n (Lib.hid hv) (n - i) i hi (Nat.le_refl _) A c w (Lib.hid h)
end Go.Proofs.Ytjaecgobgpfbdaa
