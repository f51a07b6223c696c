/- Natural sizes, by the program and by the reference. -/
import Derived.Test.YtjaecgobgpfbdaaTI
namespace Go.Proofs.Ytjaecgobgpfbdaa
open Go.RowKit

/- Sums on the way: the first k boxes in a box, side by side. -/
def alP (g : Int) (f : Nat → Int) (l : List Nat) (k : Nat) : Int := (if k = 0 then 0 else ((k : Int) - 1) * g) + sumL f (l.take k)
theorem alP_zero (g : Int) (f : Nat → Int) (l : List Nat) : alP g f l 0 = 0 := by unfold alP; simp [sumL]
theorem alP_first {g : Int} {f : Nat → Int} {l : List Nat} {k : Nat} (h : k < l.length) (hk : k = 0) : alP g f l (k + 1) = alP g f l k + f (l.getD k 0) := by
  subst hk
  have := sumL_succ f h
  rw [alP_zero]
  unfold alP
  rw [if_neg (by omega), this]
  simp [sumL]
theorem alP_next {g : Int} {f : Nat → Int} {l : List Nat} {k : Nat} (h : k < l.length) (hk : ¬ k = 0) : alP g f l (k + 1) = alP g f l k + g + f (l.getD k 0) := by
  have := sumL_succ f h
  unfold alP
  rw [if_neg (by omega), if_neg hk, this, show (((k + 1 : Nat) : Int) - 1) = ((k : Int) - 1) + 1 by omega, Int.add_mul]
  omega
theorem alP_bd {zs : List Int} {n i : Nat} (h : VT zs n) (d : Bool) (hi : i < n) (k : Nat) (hk : k ≤ (kdsL zs n (i : Int)).length) : 0 ≤ alP (gpB zs i) (nd zs n d) (kdsL zs n (i : Int)) k ∧ alP (gpB zs i) (nd zs n d) (kdsL zs n (i : Int)) k ≤ 5000 := by
  have h1 := part_bd h d hi k
  have h8 := h.kids8 hi
  have o := h.ok hi
  unfold alP
  by_cases e : k = 0
  · rw [if_pos e]; omega
  · rw [if_neg e]
    have := prod_bd (a := (k : Int) - 1) (b := gpB zs i) (M := 7) (N := 50) (by omega) (by omega) o.gp.1 o.gp.2
    omega
theorem alP_all (g : Int) (f : Nat → Int) (l : List Nat) : alP g f l l.length = max 0 ((l.length : Int) - 1) * g + sumL f l := by
  unfold alP
  rw [List.take_length]
  by_cases e : l.length = 0
  · rw [if_pos e, show max 0 ((l.length : Int) - 1) = 0 by omega]; simp
  · rw [if_neg e, show max 0 ((l.length : Int) - 1) = (l.length : Int) - 1 by omega]
/- What the program's round keeps: the box read at B + 1, the size so far at B + 2, the result at B. -/
structure NSt (w : World) (x1 x4 x5 p q : Int) (wr : World) : Prop where
  bl : Below w.heap.size w wr
  lt : w.heap.size + 2 < wr.heap.size
  k1 : wr.cell? ⟨w.heap.size + 1, 1, none⟩ = some (.int .i64 x1)
  k4 : wr.cell? ⟨w.heap.size + 1, 4, none⟩ = some (.int .i64 x4)
  k5 : wr.cell? ⟨w.heap.size + 1, 5, none⟩ = some (.int .i64 x5)
  p0 : wr.cell? ⟨w.heap.size + 1 + 1, 0, none⟩ = some (.int .i64 p)
  q0 : wr.cell? ⟨w.heap.size + 1 + 1, 1, none⟩ = some (.int .i64 q)
  fp : wr.frozen? ⟨w.heap.size + 1 + 1, 0, none⟩ = false
  fq : wr.frozen? ⟨w.heap.size + 1 + 1, 1, none⟩ = false
  r0 : wr.cell? ⟨w.heap.size, 0, none⟩ = some (.int .i64 0)
  r1 : wr.cell? ⟨w.heap.size, 1, none⟩ = some (.int .i64 0)
  f0 : wr.frozen? ⟨w.heap.size, 0, none⟩ = false
  f1 : wr.frozen? ⟨w.heap.size, 1, none⟩ = false
section
variable {w wr wr' : World} {x1 x4 x5 p q : Int}
theorem NSt.below (h : NSt w x1 x4 x5 p q wr) (hb : Below wr.heap.size wr wr') : NSt w x1 x4 x5 p q wr' := by
  have hl := h.lt
  have hc := fun b o (hb' : b < wr.heap.size) => hb.cell (p := ⟨b, o, none⟩) hb'
  have hf := fun b o (hb' : b < wr.heap.size) => hb.frozen (p := ⟨b, o, none⟩) hb'
  exact ⟨h.bl.trans (hb.mono h.bl.size), Nat.lt_of_lt_of_le hl hb.size, (hc _ _ (by omega)).trans h.k1, (hc _ _ (by omega)).trans h.k4, (hc _ _ (by omega)).trans h.k5, (hc _ _ (by omega)).trans h.p0, (hc _ _ (by omega)).trans h.q0, (hf _ _ (by omega)).trans h.fp, (hf _ _ (by omega)).trans h.fq, (hc _ _ (by omega)).trans h.r0, (hc _ _ (by omega)).trans h.r1, (hf _ _ (by omega)).trans h.f0, (hf _ _ (by omega)).trans h.f1⟩
theorem NSt.alloc (h : NSt w x1 x4 x5 p q wr) (o : Obj) : NSt w x1 x4 x5 p q (wr.alloc o) := h.below ((Below.refl _ _).alloc (Nat.le_refl _) _)
theorem NSt.set2 (h : NSt w x1 x4 x5 p q wr) (p' q' : Int) : NSt w x1 x4 x5 p' q' ((wr.setCell ⟨w.heap.size + 1 + 1, 0, none⟩ (.int .i64 p')).setCell ⟨w.heap.size + 1 + 1, 1, none⟩ (.int .i64 q')) := by
  have hl := h.lt
  have e1 := h.k1
  have e2 := h.k4
  have e3 := h.k5
  have e4 := h.p0
  have e5 := h.q0
  have e6 := h.fp
  have e7 := h.fq
  have e8 := h.r0
  have e9 := h.r1
  have e10 := h.f0
  have e11 := h.f1
  refine ⟨(h.bl.setCell (by show w.heap.size ≤ w.heap.size + 1 + 1; omega) _).setCell (by show w.heap.size ≤ w.heap.size + 1 + 1; omega) _, by simpa [World.setCell] using hl, ?_, ?_, ?_, ?_, ?_, ?_, ?_, ?_, ?_, ?_, ?_⟩ <;> simp [go_sem, *]
theorem NSt.eq (h : NSt w x1 x4 x5 p q wr) {p' q' : Int} (h1 : p = p') (h2 : q = q') : NSt w x1 x4 x5 p' q' wr := by subst h1; subst h2; exact h
theorem NSt.made (w : World) (x0 x1 x2 x3 x4 x5 x6 x7 x8 p q : Int) (e1 e2 e3 : TypeId) : NSt w x1 x4 x5 p q (((w.alloc (.cells #[.int .i64 0, .int .i64 0] e1)).alloc (.cells #[.int .i64 x0, .int .i64 x1, .int .i64 x2, .int .i64 x3, .int .i64 x4, .int .i64 x5, .int .i64 x6, .int .i64 x7, .int .i64 x8] e2)).alloc (.cells #[.int .i64 p, .int .i64 q] e3)) := by
  refine ⟨(((Below.refl _ _).alloc (Nat.le_refl _) _).alloc (by simp) _).alloc (by simp; omega) _, by simp, ?_, ?_, ?_, ?_, ?_, ?_, ?_, ?_, ?_, ?_, ?_⟩ <;> simp [go_sem]
end
theorem Wr.other {w : World} {lo n : Nat} {A : Option Addr} {zs : List Int} (h : Wr w lo A n zs) {p : Addr} (hp : p.block < lo) (u : Value) : Wr (w.setCell p u) lo A n zs :=
  h.keep (by simp [World.setCell]) fun b h1 _ => Below.heap_setCell w p u b (by omega)
theorem ki_get {l : List Nat} {j : Nat} (h : j < l.length) : (ki l).getD j 0 = ((l.getD j 0 : Nat) : Int) := by
  unfold ki
  simp [List.getD_eq_getElem?_getD, List.getElem?_eq_getElem h]
theorem kd_only {zs : List Int} {n i : Nat} (h : VT zs n) (hi : i < n) (hl : 0 < (kdsL zs n (i : Int)).length) : ¬ kdB zs i = 0 := fun e => by
  rw [h.leaf hi e] at hl; simp at hl
def NatR (zs : List Int) (n i : Nat) (w : World) (e : Ending) (w' : World) : Prop := e = .returned (.agg #[.int .i64 (nd zs n true i), .int .i64 (nd zs n false i)]) ∧ Below w.heap.size w w'
/- The sizes so far, as the program sees them. -/
def pxP (zs : List Int) (n i k : Nat) : Int := wdB zs i + if kdB zs i = 2 then alP (gpB zs i) (nd zs n true) (kdsL zs n (i : Int)) k else maxL (nd zs n true) ((kdsL zs n (i : Int)).take k)
def pyP (zs : List Int) (n i k : Nat) : Int := htB zs i + if kdB zs i = 2 then maxL (nd zs n false) ((kdsL zs n (i : Int)).take k) else alP (gpB zs i) (nd zs n false) (kdsL zs n (i : Int)) k
theorem px_bd {zs : List Int} {n i : Nat} (h : VT zs n) (hi : i < n) (k : Nat) (hk : k ≤ (kdsL zs n (i : Int)).length) : (0 ≤ pxP zs n i k ∧ pxP zs n i k ≤ 6000) ∧ 0 ≤ pyP zs n i k ∧ pyP zs n i k ≤ 6000 := by
  have o := h.ok hi
  have h1 := alP_bd h true hi k hk
  have h2 := alP_bd h false hi k hk
  have h3 := maxp_bd h true hi k
  have h4 := maxp_bd h false hi k
  have h5 := o.wd
  have h6 := o.ht
  unfold pxP pyP
  split <;> omega
theorem px_zero (zs : List Int) (n i : Nat) : pxP zs n i 0 = wdB zs i ∧ pyP zs n i 0 = htB zs i := by
  unfold pxP pyP
  rw [alP_zero, alP_zero]
  simp [maxL]
theorem px_end {zs : List Int} {n i : Nat} (h : VT zs n) (hi : i < n) : pxP zs n i (kdsL zs n (i : Int)).length + 2 * pdB zs i = nd zs n true i ∧ pyP zs n i (kdsL zs n (i : Int)).length + 2 * pdB zs i = nd zs n false i := by
  have o := h.ok hi
  by_cases h0 : kdB zs i = 0
  · rw [h.leaf hi h0, nd_eq h.par hi, nd_eq h.par hi, if_pos h0, if_pos h0]
    rw [show ([] : List Nat).length = 0 from rfl, (px_zero zs n i).1, (px_zero zs n i).2]
    exact ⟨rfl, rfl⟩
  · obtain ⟨e1, e2⟩ := o.no h0
    rw [nd_eq h.par hi, nd_eq h.par hi, if_neg h0, if_neg h0]
    unfold pxP pyP
    rw [e1, e2, List.take_length, alP_all, alP_all]
    by_cases h2 : kdB zs i = 2
    · rw [if_pos h2, if_pos h2]
      simp [h2]
    · rw [if_neg h2, if_neg h2]
      simp [h2]
theorem px_row {zs : List Int} {n i k : Nat} (h : VT zs n) (_hi : i < n) (h2 : kdB zs i = 2) (hk : k < (kdsL zs n (i : Int)).length) {W H : Int} (hW : nd zs n true ((kdsL zs n (i : Int)).getD k 0) = W) (hH : nd zs n false ((kdsL zs n (i : Int)).getD k 0) = H) (hh : htB zs i = 0) :
    pxP zs n i (k + 1) = pxP zs n i k + (if k = 0 then 0 else gpB zs i) + W ∧ pyP zs n i (k + 1) = max (pyP zs n i k) H := by
  have hm := maxL_succ (nd zs n false) hk (fun j hj => nd_nn h false j (kdsL_gt h.par hj).2)
  unfold pxP pyP
  rw [if_pos h2, if_pos h2, if_pos h2, if_pos h2, hm, hh, hH]
  refine ⟨?_, by omega⟩
  by_cases e : k = 0
  · rw [alP_first hk e, if_pos e, hW]; omega
  · rw [alP_next hk e, if_neg e, hW]; omega
theorem px_col {zs : List Int} {n i k : Nat} (h : VT zs n) (_hi : i < n) (h2 : ¬ kdB zs i = 2) (hk : k < (kdsL zs n (i : Int)).length) {W H : Int} (hW : nd zs n true ((kdsL zs n (i : Int)).getD k 0) = W) (hH : nd zs n false ((kdsL zs n (i : Int)).getD k 0) = H) (hh : wdB zs i = 0) :
    pxP zs n i (k + 1) = max (pxP zs n i k) W ∧ pyP zs n i (k + 1) = pyP zs n i k + (if k = 0 then 0 else gpB zs i) + H := by
  have hm := maxL_succ (nd zs n true) hk (fun j hj => nd_nn h true j (kdsL_gt h.par hj).2)
  unfold pxP pyP
  rw [if_neg h2, if_neg h2, if_neg h2, if_neg h2, hm, hh, hW]
  refine ⟨by omega, ?_⟩
  by_cases e : k = 0
  · rw [alP_first hk e, if_pos e, hH]; omega
  · rw [alP_next hk e, if_neg e, hH]; omega
set_option maxRecDepth 100000 in
set_option maxHeartbeats 8000000 in
theorem inat_fuel (zs : List Int) (n : Nat) (HV : Hid (VT zs n)) : ∀ m i, i < n → n - i ≤ m → ∀ (A : Option Addr) (c : Nat) (w : World), Hid (Rd w w.heap.size A (9 * n) zs) →
    Calls Try.prog 68 #[.slice A n c, .int .i64 i] w (NatR zs n i w) := by
  intro m
  induction m with
  | zero => intro i hi hm; omega
  | succ m ih =>
    intro i hi hm A c w H
    have IH := Lib.hid ih
    clear ih
    have hn16 : n ≤ 16 := HV.out.few
    have o := Lib.hid (HV.out.ok hi)
    obtain ⟨b, off, rfl, hb, hc⟩ := H.out.cell (by omega)
    obtain ⟨cz, c1, c2, c3, c4, c5, c6, c7, c8⟩ := at9 hc hi
    clear hc
    obtain ⟨x0, h0⟩ : ∃ x, Hid (zs.getD (9 * i) 0 = x) := ⟨_, Lib.hid rfl⟩
    rw [h0.out] at cz
    obtain ⟨x1, h1⟩ : ∃ x, Hid (kdB zs i = x) := ⟨_, Lib.hid rfl⟩
    rw [show zs.getD (9 * i + 1) 0 = x1 from h1.out] at c1
    obtain ⟨x2, h2⟩ : ∃ x, Hid (wdB zs i = x) := ⟨_, Lib.hid rfl⟩
    rw [show zs.getD (9 * i + 2) 0 = x2 from h2.out] at c2
    obtain ⟨x3, h3⟩ : ∃ x, Hid (htB zs i = x) := ⟨_, Lib.hid rfl⟩
    rw [show zs.getD (9 * i + 3) 0 = x3 from h3.out] at c3
    obtain ⟨x4, h4⟩ : ∃ x, Hid (pdB zs i = x) := ⟨_, Lib.hid rfl⟩
    rw [show zs.getD (9 * i + 4) 0 = x4 from h4.out] at c4
    obtain ⟨x5, h5⟩ : ∃ x, Hid (gpB zs i = x) := ⟨_, Lib.hid rfl⟩
    rw [show zs.getD (9 * i + 5) 0 = x5 from h5.out] at c5
    obtain ⟨x6, h6⟩ : ∃ x, Hid (zs.getD (9 * i + 6) 0 = x) := ⟨_, Lib.hid rfl⟩
    rw [h6.out] at c6
    obtain ⟨x7, h7⟩ : ∃ x, Hid (zs.getD (9 * i + 7) 0 = x) := ⟨_, Lib.hid rfl⟩
    rw [h7.out] at c7
    obtain ⟨x8, h8⟩ : ∃ x, Hid (zs.getD (9 * i + 8) 0 = x) := ⟨_, Lib.hid rfl⟩
    rw [h8.out] at c8
    have bp : 0 ≤ x4 ∧ x4 ≤ 50 := by rw [← h4.out]; exact o.out.pd
    have bg : 0 ≤ x5 ∧ x5 ≤ 50 := by rw [← h5.out]; exact o.out.gp
    obtain ⟨bp0, bp1⟩ := bp
    obtain ⟨bg0, bg1⟩ := bg
    obtain ⟨L, hL⟩ : ∃ L, Hid ((kdsL zs n (i : Int)).length = L) := ⟨_, Lib.hid rfl⟩
    have hL8 : L ≤ 8 := by rw [← hL.out]; exact HV.out.kids8 hi
    have hin : (i : Int) < (n : Int) := by omega
    have hi0 : (0 : Int) ≤ (i : Int) := by omega
    go_enter Try.func68, Try.ntmps68
    go_wp2_with fail
    refine (ikids_any _ n c i zs _ (((((H.out.alloc (Nat.le_refl _) _).more (by simp)).alloc (Nat.le_refl _) _).more (by first | (simp; done) | (simp; omega))).alloc (Nat.le_refl _) _ |>.more (by first | (simp; done) | (simp; omega))) (by omega)).mono ?_
    rintro e w1 ⟨A2, q2, d2, rfl, hq2, hW2, hb1⟩
    obtain rfl : q2 = L := hW2.len.symm.trans ((ki_len _).trans hL.out)
    have N1 := Lib.hid ((NSt.made w x0 x1 x2 x3 x4 x5 x6 x7 x8 x2 x3 _ _ _).below hb1)
    have W1 := Lib.hid (Wr.low hW2 (lo' := w.heap.size + 3) (by simp))
    clear hW2 hb1 cz c1 c2 c3 c4 c5 c6 c7 c8 hq2
    go_wp2
    go_loopw [26] (fun s wr => ∃ k : Nat, k ≤ q2 ∧ s = .int .i64 k ∧ Hid (NSt w x1 x4 x5 (pxP zs n i k) (pyP zs n i k) wr ∧ Wr wr (w.heap.size + 3) A2 q2 (ki (kdsL zs n (i : Int))))) (fun s _ => q2 - (intOf s).toNat)
    case atStart =>
      refine ⟨0, Nat.zero_le _, rfl, Lib.hid ⟨?_, W1.out⟩⟩
      rw [(px_zero zs n i).1, (px_zero zs n i).2, h2.out, h3.out]
      exact N1.out
    case round =>
      obtain ⟨k, hk, rfl, hS⟩ := hrel
      have hPQ := px_bd HV.out hi k (by rw [hL.out]; exact hk)
      obtain ⟨p, hp⟩ : ∃ x, Hid (pxP zs n i k = x) := ⟨_, Lib.hid rfl⟩
      obtain ⟨q, hq⟩ : ∃ x, Hid (pyP zs n i k = x) := ⟨_, Lib.hid rfl⟩
      rw [hp.out, hq.out] at hS hPQ
      obtain ⟨⟨p0, p1⟩, q0, q1⟩ := hPQ
      have e1 := hS.out.1.k1
      have e4 := hS.out.1.k4
      have e5 := hS.out.1.k5
      have ep := hS.out.1.p0
      have eq := hS.out.1.q0
      have fp := hS.out.1.fp
      have fq := hS.out.1.fq
      have hlt3 := hS.out.1.lt
      by_cases hlt : k < q2
      · obtain ⟨g1, g2, g3⟩ := kdsL_at HV.out.par (show k < (kdsL zs n (i : Int)).length by rw [hL.out]; exact hlt)
        obtain ⟨j, hj⟩ : ∃ j, Hid ((kdsL zs n (i : Int)).getD k 0 = j) := ⟨_, Lib.hid rfl⟩
        rw [hj.out] at g1 g2
        clear g3
        obtain ⟨b2, o2, rfl, hb2, hb3, hcc⟩ := hS.out.2.2 (by omega)
        have ck := (hcc k hlt).1
        rw [ki_get (by rw [hL.out]; exact hlt), hj.out] at ck
        clear hcc hb2 hb3
        obtain ⟨W, hW⟩ : ∃ x, Hid (nd zs n true j = x) := ⟨_, Lib.hid rfl⟩
        obtain ⟨G, hG⟩ : ∃ x, Hid (nd zs n false j = x) := ⟨_, Lib.hid rfl⟩
        have bW : 0 ≤ W ∧ W ≤ 4000 := by rw [← hW.out]; exact nd_le HV.out true j g2
        have bG : 0 ≤ G ∧ G ≤ 4000 := by rw [← hG.out]; exact nd_le HV.out false j g2
        obtain ⟨bW0, bW1⟩ := bW
        obtain ⟨bG0, bG1⟩ := bG
        have hkq : (k : Int) < (q2 : Int) := by omega
        have hk0 : (0 : Int) ≤ (k : Int) := by omega
        have HNO := Lib.hid (o.out.no (kd_only HV.out hi (by rw [hL.out]; omega)))
        have HW := Lib.hid (show nd zs n true ((kdsL zs n (i : Int)).getD k 0) = W by rw [hj.out]; exact hW.out)
        have HG := Lib.hid (show nd zs n false ((kdsL zs n (i : Int)).getD k 0) = G by rw [hj.out]; exact hG.out)
        have HK := Lib.hid (show k < (kdsL zs n (i : Int)).length by rw [hL.out]; exact hlt)
        go_wp2_with fail
        refine (IH.out j g2 (by omega) _ c wr (Lib.hid ((H.out.below hS.out.1.bl).more hS.out.1.bl.size))).mono ?_
        rintro e w2 ⟨rfl, hb4⟩
        rw [hW.out, hG.out]
        have N2 := Lib.hid (hS.out.1.below hb4)
        have W2 := Lib.hid (hS.out.2.below hb4)
        clear e1 e4 e5 ep eq fp fq ck hlt3 hb4
        have e1 := N2.out.k1
        have e5 := N2.out.k5
        have ep := N2.out.p0
        have eq := N2.out.q0
        have fp := N2.out.fp
        have fq := N2.out.fq
        have hlt3 := N2.out.lt
        have z0 : w.heap.size < w2.heap.size := by omega
        have z1 : w.heap.size + 1 < w2.heap.size := by omega
        have z2 : w.heap.size + 1 + 1 < w2.heap.size := by omega
        by_cases hz : k = 0
        · have hzd : ((k : Int) == 0) = true := by simp; omega
          by_cases hr : x1 = 2
          · have hrd : (x1 == 2) = true := by simpa using hr
            have HR := Lib.hid (px_row HV.out hi (h1.out.trans hr) HK.out HW.out HG.out HNO.out.2)
            have HZ := Lib.hid hz
            clear hz hr
            go_wp2
            go_roundw
            case rel => exact ⟨k + 1, by omega, by go_num, Lib.hid ⟨((N2.out.set2 _ _).alloc _).eq (by rw [HR.out.1, if_pos HZ.out, hp.out]; omega) (by rw [HR.out.2, hq.out]), ((W2.out.other (by show w.heap.size + 1 + 1 < w.heap.size + 3; omega) _).other (by show w.heap.size + 1 + 1 < w.heap.size + 3; omega) _).alloc _⟩⟩
            case measure => simp [intOf]; omega
          · have hrd : (x1 == 2) = false := by simpa using hr
            have HR := Lib.hid (px_col HV.out hi (fun e => hr (h1.out.symm.trans e)) HK.out HW.out HG.out HNO.out.1)
            have HZ := Lib.hid hz
            clear hz hr
            go_wp2
            go_roundw
            case rel => exact ⟨k + 1, by omega, by go_num, Lib.hid ⟨((N2.out.set2 _ _).alloc _).eq (by rw [HR.out.1, hp.out]) (by rw [HR.out.2, if_pos HZ.out, hq.out]; omega), ((W2.out.other (by show w.heap.size + 1 + 1 < w.heap.size + 3; omega) _).other (by show w.heap.size + 1 + 1 < w.heap.size + 3; omega) _).alloc _⟩⟩
            case measure => simp [intOf]; omega
        · have hzd : ((k : Int) == 0) = false := by simp; omega
          by_cases hr : x1 = 2
          · have hrd : (x1 == 2) = true := by simpa using hr
            have HR := Lib.hid (px_row HV.out hi (h1.out.trans hr) HK.out HW.out HG.out HNO.out.2)
            have HZ := Lib.hid hz
            clear hz hr
            go_wp2
            go_roundw
            case rel => exact ⟨k + 1, by omega, by go_num, Lib.hid ⟨((N2.out.set2 _ _).alloc _).eq (by rw [HR.out.1, if_neg HZ.out, hp.out, h5.out]) (by rw [HR.out.2, hq.out]), ((W2.out.other (by show w.heap.size + 1 + 1 < w.heap.size + 3; omega) _).other (by show w.heap.size + 1 + 1 < w.heap.size + 3; omega) _).alloc _⟩⟩
            case measure => simp [intOf]; omega
          · have hrd : (x1 == 2) = false := by simpa using hr
            have HR := Lib.hid (px_col HV.out hi (fun e => hr (h1.out.symm.trans e)) HK.out HW.out HG.out HNO.out.1)
            have HZ := Lib.hid hz
            clear hz hr
            go_wp2
            go_roundw
            case rel => exact ⟨k + 1, by omega, by go_num, Lib.hid ⟨((N2.out.set2 _ _).alloc _).eq (by rw [HR.out.1, hp.out]) (by rw [HR.out.2, if_neg HZ.out, hq.out, h5.out]), ((W2.out.other (by show w.heap.size + 1 + 1 < w.heap.size + 3; omega) _).other (by show w.heap.size + 1 + 1 < w.heap.size + 3; omega) _).alloc _⟩⟩
            case measure => simp [intOf]; omega
      · obtain rfl : k = q2 := by omega
        have r0 := hS.out.1.r0
        have r1 := hS.out.1.r1
        have f0 := hS.out.1.f0
        have f1 := hS.out.1.f1
        have HE := Lib.hid (px_end HV.out hi)
        go_wp2
        refine bodyPost_ret (v := .agg #[.int .i64 (p + 2 * x4), .int .i64 (q + 2 * x4)]) (by simp [results, Try.results68, go_sem, r0, r1]) rfl ⟨?_, ?_⟩
        · rw [← HE.out.1, ← HE.out.2, hL.out, hp.out, hq.out, h4.out]
        · exact (hS.out.1.bl.setCell (Nat.le_refl _) _).setCell (Nat.le_refl _) _
theorem inat_any (A : Option Addr) (n c i : Nat) (zs : List Int) (w : World) (h : Rd w w.heap.size A (9 * n) zs) (hi : i < n) (hv : VT zs n) :
    Calls Try.prog 68 #[.slice A n c, .int .i64 i] w fun e w' => e = .returned (.agg #[.int .i64 (nd zs n true i), .int .i64 (nd zs n false i)]) ∧ Below w.heap.size w w' :=
  inat_fuel zs n (Lib.hid hv) (n - i) i hi (Nat.le_refl _) A c w (Lib.hid h)
end Go.Proofs.Ytjaecgobgpfbdaa
