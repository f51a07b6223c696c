/- Layouts, by the reference. -/
import Derived.Test.YtjaecgobgpfbdaaVF
import Derived.Deep.DeepCutAuto
namespace Go.Proofs.Ytjaecgobgpfbdaa
open Go.RowKit

/- What the placing of box i has done. -/
def Plc (zs : List Int) (n : Nat) (W H : Int) (bo oo lo i : Nat) (ys : List Int) (w : World) (e : Ending) (w' : World) : Prop :=
  e = .returned (.tuple #[]) ∧ w.grownBy w' (some bo) ∧ ∃ ys', Wr w' lo (some ⟨bo, oo, none⟩) (4 * n) ys' ∧ (∀ j, j < n → OkA zs n W H ys j → OkA zs n W H ys' j) ∧ ∀ j, j < n → i ∈ pth zs j → OkA zs n W H ys' j
theorem Rd.grownB {w w' : World} {bo n : Nat} {A : Option Addr} {zs : List Int} (h : Rd w bo A n zs) (hb : bo ≤ w.heap.size) (hg : w.grownBy w' (some bo)) : Rd w' bo A n zs :=
  h.grown hb hg (fun g e => by injection e with e; omega)
theorem Rd.treeAt {w : World} {B b o n : Nat} {zs : List Int} (h : Rd w B (some ⟨b, o, none⟩) n zs) (hn : 0 < n) : b < B ∧ ∀ i, i < n → w.cell? ⟨b, o + i, none⟩ = some (.int .i64 (zs.getD i 0)) := by
  obtain ⟨b', o', e, h1, h2⟩ := h.2 hn
  injection e with e
  injection e with e1 e2
  subst e1 e2
  exact ⟨h1, h2⟩
theorem C4v.below {a1 a2 a3 a4 : Addr} {v1 v2 v3 v4 : Value} {w w' : World} (h : C4v a1 a2 a3 a4 v1 v2 v3 v4 w) (hb : Below w.heap.size w w') : C4v a1 a2 a3 a4 v1 v2 v3 v4 w' :=
  ⟨(hb.cell (lt_of_cell h.c1)).trans h.c1, (hb.cell (lt_of_cell h.c2)).trans h.c2, (hb.cell (lt_of_cell h.c3)).trans h.c3, (hb.cell (lt_of_cell h.c4)).trans h.c4⟩
theorem pth_done {zs : List Int} {n i m : Nat} {W H : Int} {ys : List Int} (h : PK zs n) (hm : (kdsL zs n (i : Int)).length = m) (h1 : OkA zs n W H ys i) (h2 : ∀ t, t < m → ∀ j, j < n → (kdsL zs n (i : Int)).getD t 0 ∈ pth zs j → OkA zs n W H ys j) : ∀ j, j < n → i ∈ pth zs j → OkA zs n W H ys j := fun j hj hi => by
  rcases pth_kid h j hj hi with e | ⟨t, ht, e⟩
  · subst e; exact h1
  · exact h2 t (by omega) j hj e
set_option maxRecDepth 100000 in
set_option maxHeartbeats 32000000 in
theorem place_fuel (zs : List Int) (n bt ot ct bo oo co lo : Nat) (W H : Int) (HV : Hid (VT zs n)) (HW : Hid (0 ≤ W ∧ W ≤ 10000)) (HH : Hid (0 ≤ H ∧ H ≤ 10000)) : ∀ M i, i < n → n - i ≤ M → ∀ (ys : List Int) (w : World), Hid (Rd w bo (some ⟨bt, ot, none⟩) (9 * n) zs) → Hid (Wr w lo (some ⟨bo, oo, none⟩) (4 * n) ys) →
    Calls Try.prog 77 #[.slice (some ⟨bt, ot, none⟩) n ct, .int .i64 i, .agg #[.int .i64 (lay zs n W H i).x, .int .i64 (lay zs n W H i).y, .int .i64 (lay zs n W H i).w, .int .i64 (lay zs n W H i).h], .slice (some ⟨bo, oo, none⟩) n co] w (Plc zs n W H bo oo lo i ys w) := by
  intro M
  induction M with
  | zero => intro i hi hM; omega
  | succ M ih =>
    intro i hi hM ys w TR WO
    have IH := Lib.hid ih
    clear ih
    have n16 := HV.out.few
    have n1 := HV.out.one
    have o := Lib.hid (HV.out.ok hi)
    have LB0 := Lib.hid (lay_bd HV.out HW.out HH.out i hi)
    have hbo : bo < w.heap.size := by
      obtain ⟨b, oo', e, _, hb, _⟩ := WO.out.2 (by omega)
      injection e with e
      injection e with e1
      omega
    have hbt := (TR.out.treeAt (by omega)).1
    have HLK := Lib.hid (fun k (hk : k < (kdsL zs n (i : Int)).length) => lay_kid HV.out.par W H hi hk)
    have HOK := Lib.hid (OkA.here (zs := zs) (ys := ys) (W := W) (H := H) hi)
    have HMO := Lib.hid (fun j (hj : j < n) (h : OkA zs n W H ys j) => OkA.put h hj hi)
    obtain ⟨r, hr⟩ : ∃ r, Hid (lay zs n W H i = r) := ⟨_, Lib.hid rfl⟩
    rw [hr.out] at LB0 HLK HOK HMO ⊢
    have hqb := inn_bd LB0.out o.out.pd.1 o.out.pd.2
    have hrb := LB0.out
    obtain ⟨x4, h4⟩ : ∃ x, Hid (pdB zs i = x) := ⟨_, Lib.hid rfl⟩
    rw [h4.out] at hqb HLK
    obtain ⟨q, hq⟩ : ∃ q, Hid (r.inn x4 = q) := ⟨_, Lib.hid rfl⟩
    rw [hq.out] at hqb HLK
    obtain ⟨⟨qx0, qx1⟩, ⟨qy0, qy1⟩, ⟨qw0, qw1⟩, qh0, qh1⟩ := hqb
    have y0 : -100000000 ≤ q.y := by obtain ⟨_, ⟨a, _⟩, _⟩ := hrb; omega
    have y1 : q.y ≤ 100000000 := by obtain ⟨_, ⟨_, a⟩, _⟩ := hrb; omega
    have z0 : -100000000 ≤ q.x := by obtain ⟨⟨a, _⟩, _⟩ := hrb; omega
    have z1 : q.x ≤ 100000000 := by obtain ⟨⟨_, a⟩, _⟩ := hrb; omega
    clear qx0 qx1 qy0 qy1 hrb
    obtain ⟨m, hm⟩ : ∃ m, Hid ((kdsL zs n (i : Int)).length = m) := ⟨_, Lib.hid rfl⟩
    have hm8 : m ≤ 8 := by rw [← hm.out]; exact HV.out.kids8 hi
    obtain ⟨cz, c1, c2', c3, c4, c5, c6, c7, c8⟩ := at9 (TR.out.treeAt (by omega)).2 hi
    obtain ⟨x0, h0⟩ : ∃ x, Hid (zs.getD (9 * i) 0 = x) := ⟨_, Lib.hid rfl⟩
    rw [h0.out] at cz
    obtain ⟨x1, h1⟩ : ∃ x, Hid (kdB zs i = x) := ⟨_, Lib.hid rfl⟩
    rw [show zs.getD (9 * i + 1) 0 = x1 from h1.out] at c1
    obtain ⟨x2, h2⟩ : ∃ x, Hid (zs.getD (9 * i + 2) 0 = x) := ⟨_, Lib.hid rfl⟩
    rw [h2.out] at c2'
    obtain ⟨x3, h3⟩ : ∃ x, Hid (zs.getD (9 * i + 3) 0 = x) := ⟨_, Lib.hid rfl⟩
    rw [h3.out] at c3
    rw [show zs.getD (9 * i + 4) 0 = x4 from h4.out] at c4
    obtain ⟨x5, h5⟩ : ∃ x, Hid (gpB zs i = x) := ⟨_, Lib.hid rfl⟩
    rw [show zs.getD (9 * i + 5) 0 = x5 from h5.out] at c5
    obtain ⟨x6, h6⟩ : ∃ x, Hid (zs.getD (9 * i + 6) 0 = x) := ⟨_, Lib.hid rfl⟩
    rw [h6.out] at c6
    obtain ⟨x7, h7⟩ : ∃ x, Hid (zs.getD (9 * i + 7) 0 = x) := ⟨_, Lib.hid rfl⟩
    rw [h7.out] at c7
    obtain ⟨x8, h8⟩ : ∃ x, Hid (jsB zs i = x) := ⟨_, Lib.hid rfl⟩
    rw [show zs.getD (9 * i + 8) 0 = x8 from h8.out] at c8
    have b4 : 0 ≤ x4 ∧ x4 ≤ 50 := by rw [← h4.out]; exact o.out.pd
    have b5 : 0 ≤ x5 ∧ x5 ≤ 50 := by rw [← h5.out]; exact o.out.gp
    have b8 : 0 ≤ x8 ∧ x8 ≤ 3 := by rw [← h8.out]; exact o.out.js
    have b1 : 0 ≤ x1 ∧ x1 ≤ 3 := by rw [← h1.out]; exact o.out.kd
    obtain ⟨b40, b41⟩ := b4
    obtain ⟨b50, b51⟩ := b5
    obtain ⟨b80, b81⟩ := b8
    obtain ⟨b10, b11⟩ := b1
    have hi0 : (0 : Int) ≤ (i : Int) := by omega
    have hin : (i : Int) < (n : Int) := by omega
    have hbtw : bt < w.heap.size := by omega
    go_enter Try.func77, Try.ntmps77
    go_upto_region 2 with fail
    have E1 : Hid (Bx9 w (w.heap.size + 1) x0 x1 x2 x3 x4 x5 x6 x7 x8 ((w.alloc (.cells #[.int .i64 r.x, .int .i64 r.y, .int .i64 r.w, .int .i64 r.h] 25)).alloc (.cells #[.int .i64 x0, .int .i64 x1, .int .i64 x2, .int .i64 x3, .int .i64 x4, .int .i64 x5, .int .i64 x6, .int .i64 x7, .int .i64 x8] 54))) := by
      have h := Bx9.made x0 x1 x2 x3 x4 x5 x6 x7 x8 54 ((Below.refl w.heap.size w).alloc (Nat.le_refl _) (.cells #[.int .i64 r.x, .int .i64 r.y, .int .i64 r.w, .int .i64 r.h] 25))
      rw [World.size_alloc] at h
      exact Lib.hid h
    have R1 := Lib.hid ((Rm.made w r 25).alloc (.cells #[.int .i64 x0, .int .i64 x1, .int .i64 x2, .int .i64 x3, .int .i64 x4, .int .i64 x5, .int .i64 x6, .int .i64 x7, .int .i64 x8] 54))
    generalize (w.alloc (.cells #[.int .i64 r.x, .int .i64 r.y, .int .i64 r.w, .int .i64 r.h] 25)).alloc (.cells #[.int .i64 x0, .int .i64 x1, .int .i64 x2, .int .i64 x3, .int .i64 x4, .int .i64 x5, .int .i64 x6, .int .i64 x7, .int .i64 x8] 54) = wa at E1 R1 ⊢
    clear cz c1 c2' c3 c4 c5 c6 c7 c8
    have WA := Lib.hid (WO.out.below E1.out.bl)
    obtain ⟨_, _, ⟨d0, f0⟩, ⟨d1, f1⟩, ⟨d2, f2⟩, ⟨d3, f3⟩⟩ := WA.out.at_4 hi
    obtain ⟨u0, hu0⟩ : ∃ u, Hid (ys.getD (4 * i) 0 = u) := ⟨_, Lib.hid rfl⟩
    rw [hu0.out] at d0
    obtain ⟨u1, hu1⟩ : ∃ u, Hid (ys.getD (4 * i + 1) 0 = u) := ⟨_, Lib.hid rfl⟩
    rw [hu1.out] at d1
    obtain ⟨u2, hu2⟩ : ∃ u, Hid (ys.getD (4 * i + 2) 0 = u) := ⟨_, Lib.hid rfl⟩
    rw [hu2.out] at d2
    obtain ⟨u3, hu3⟩ : ∃ u, Hid (ys.getD (4 * i + 3) 0 = u) := ⟨_, Lib.hid rfl⟩
    rw [hu3.out] at d3
    have r0 := R1.out.c0
    have r1 := R1.out.c1
    have r2 := R1.out.c2
    have r3 := R1.out.c3
    go_upto_region 3 with fail
    clear d0 d1 d2 d3 f0 f1 f2 f3 r0 r1 r2 r3
    have GX := Lib.hid (gb_set4 (o0 := oo + i * 4) (o1 := oo + i * 4 + 1) (o2 := oo + i * 4 + 2) (o3 := oo + i * 4 + 3) (World.grownBy.refl wa (some bo)) (.int .i64 r.x) (.int .i64 r.y) (.int .i64 r.w) (.int .i64 r.h))
    have WB := Lib.hid (WA.out.putR hi r)
    generalize (((wa.setCell ⟨bo, oo + i * 4, none⟩ (.int .i64 r.x)).setCell ⟨bo, oo + i * 4 + 1, none⟩ (.int .i64 r.y)).setCell ⟨bo, oo + i * 4 + 2, none⟩ (.int .i64 r.w)).setCell ⟨bo, oo + i * 4 + 3, none⟩ (.int .i64 r.h) = wb at GX WB ⊢
    have GB := Lib.hid (gb_trans (gb_below E1.out.bl (some bo)) GX.out)
    have R2 := Lib.hid (R1.out.grown GX.out (by omega))
    have EB : Hid (wb.heap[w.heap.size + 1]? = wa.heap[w.heap.size + 1]?) := Lib.hid (GX.out.block _ E1.out.lt (fun e => by injection e with e; omega))
    have k1 : wb.cell? ⟨w.heap.size + 1, 1, none⟩ = some (.int .i64 x1) := (World.cell?_of_block EB.out).trans E1.out.c1
    have k4 : wb.cell? ⟨w.heap.size + 1, 4, none⟩ = some (.int .i64 x4) := (World.cell?_of_block EB.out).trans E1.out.c4
    have k5 : wb.cell? ⟨w.heap.size + 1, 5, none⟩ = some (.int .i64 x5) := (World.cell?_of_block EB.out).trans E1.out.c5
    have k8 : wb.cell? ⟨w.heap.size + 1, 8, none⟩ = some (.int .i64 x8) := (World.cell?_of_block EB.out).trans E1.out.c8
    have BK := Lib.hid (mk_c4v k1 k4 k5 k8)
    have hgB : w.heap.size + 1 < wb.heap.size := Nat.lt_of_lt_of_le E1.out.lt GX.out.size
    clear k1 k5 k8 E1 R1 WA GX EB
    have r0 := R2.out.c0
    have r1 := R2.out.c1
    have r2 := R2.out.c2
    have r3 := R2.out.c3
    go_wp2_with fail
    refine (sinn_any r i x4 wb LB0.out (by omega) b40 b41).mono ?_
    rintro e w1 ⟨rfl, hb⟩
    rw [hq.out]
    have BX := Lib.hid (hb.alloc hb.size (.cells #[.int .i64 q.x, .int .i64 q.y, .int .i64 q.w, .int .i64 q.h] 25))
    have R3 := Lib.hid (Rm.made w1 q 25)
    have hgi : w.heap.size + 1 < w1.heap.size := Nat.lt_of_lt_of_le hgB hb.size
    clear hb r0 r1 r2 r3 k4 R2
    obtain ⟨gi, hgie⟩ : ∃ g, Hid (w1.heap.size = g) := ⟨_, Lib.hid rfl⟩
    go_wp2_with fail
    rw [hgie.out] at R3 hgi ⊢
    generalize w1.alloc (.cells #[.int .i64 q.x, .int .i64 q.y, .int .i64 q.w, .int .i64 q.h] 25) = wc at BX R3 ⊢
    have GC := Lib.hid (gb_trans GB.out (gb_below BX.out (some bo)))
    have TC := Lib.hid (TR.out.grownB (by omega) GC.out)
    have hbc : bo < wc.heap.size := Nat.lt_of_lt_of_le hbo GC.out.size
    refine (skids_any _ n ct i zs wc (TC.out.more (by omega)) (by omega) hi (HV.out.par.mono (by omega))).mono ?_
    rintro e w2 ⟨A2, m2, d2, rfl, _, hW2, hb⟩
    obtain rfl : m = m2 := hm.out.symm.trans ((ki_len _).symm.trans hW2.len)
    have G2 := Lib.hid (gb_trans GC.out (gb_below hb (some bo)))
    have R4 := Lib.hid (R3.out.below hb)
    have HA := Lib.hid (hW2.low (show bo + 1 ≤ wc.heap.size by omega))
    have BK2 := Lib.hid (C4v.below (C4v.below BK.out BX.out) hb)
    have W2 := Lib.hid ((WB.out.below BX.out).below hb)
    clear hW2 hb R3 BK WB BX GC TC hbc GB hgB
    have T2 := Lib.hid (TR.out.grownB (by omega) G2.out)
    have hb2 : bo < w2.heap.size := Nat.lt_of_lt_of_le hbo G2.out.size
    have hg1o : ¬ w.heap.size + 1 = bo := by omega
    have hgio : ¬ gi = bo := by omega
    by_cases hm0 : m = 0
    · have hmz : ((m : Int) == 0) = true := by simp; omega
      have HM0 := Lib.hid hm0
      clear hm0
      go_wp2
      go_end0
      exact ⟨rfl, G2.out, _, W2.out, HMO.out, pth_done HV.out.par (hm.out.trans HM0.out) HOK.out (fun t ht => absurd ht (by omega))⟩
    have hmz : ((m : Int) == 0) = false := by simp; omega
    have hm1 : 1 ≤ m := by omega
    have hx0 : ¬ x1 = 0 := by rw [← h1.out]; exact kd_only HV.out hi (by rw [hm.out]; omega)
    clear hm0
    obtain ⟨gs, hgs⟩ : ∃ gs, Hid (gapsP zs n i = gs) := ⟨_, Lib.hid rfl⟩
    have hgse := hgs.out
    unfold gapsP at hgse
    rw [hm.out, h5.out] at hgse
    have bgs : 0 ≤ gs ∧ gs ≤ 350 := by
      rw [← hgse]
      have := prod_bd (a := x5) (b := (m : Int) - 1) (M := 50) (N := 7) b50 b51 (by omega) (by omega)
      omega
    obtain ⟨bgs0, bgs1⟩ := bgs
    have tg : IntKind.i64.wrap (x5 * ((m : Int) - 1)) = gs := by rw [hgse]; exact IntWalk.i64_in _ (by omega)
    clear hgse
    have k1 := BK2.out.c1
    have k5 := BK2.out.c3
    have k8 := BK2.out.c4
    by_cases hx2 : x1 = 2
    · subst hx2
      have HK : Hid (∀ k, k < m → lay zs n W H ((kdsL zs n (i : Int)).getD k 0) = ⟨q.x + osR zs n i true q.w k, q.y, (szR zs n i true q.w).getD k 0, q.h⟩) := Lib.hid fun k hk => by
        rw [HLK.out k (by rw [hm.out]; exact hk)]
        unfold kidR
        rw [if_pos h1.out]
      have HZB := Lib.hid (szR_bd HV.out hi true q.w)
      have HZA := Lib.hid (fun k (hk : k < (kdsL zs n (i : Int)).length) => szR_at HV.out hi true q.w hk)
      have HOB := Lib.hid (fun k (hk : k < (kdsL zs n (i : Int)).length) => osR_bd HV.out hi true (room := q.w) (by omega) (by omega) hk)
      have HFZ := Lib.hid (fzL_ok HV.out hi true)
      rw [hm.out] at HFZ
      obtain ⟨SZ, hSZ⟩ : ∃ SZ, Hid (szR zs n i true q.w = SZ) := ⟨_, Lib.hid rfl⟩
      have HSL : Hid (SZ.length = m) := Lib.hid (by rw [← hSZ.out, szR_len]; exact hm.out)
      obtain ⟨sp, hsp⟩ : ∃ sp, Hid (max 0 (q.w - gs) = sp) := ⟨_, Lib.hid rfl⟩
      have HSE : Hid (flL (fzL zs n true (kdsL zs n (i : Int))) m sp = SZ) := Lib.hid (by rw [← hSZ.out]; unfold szR; rw [hm.out, hgs.out, hsp.out])
      have bsp : 0 ≤ sp ∧ sp ≤ 10000 := by rw [← hsp.out]; omega
      obtain ⟨bsp0, bsp1⟩ := bsp
      have HOE : Hid (∀ k, osR zs n i true q.w k = ofF SZ q.w x5 x8 k) := Lib.hid fun k => by unfold osR; rw [hSZ.out, h5.out, h8.out]
      have tw1 : IntKind.i64.wrap (q.w - gs) = q.w - gs := IntWalk.i64_in _ (by omega)
      have tsp := hsp.out
      go_wp2
      have R5 := Lib.hid R4.out.drew
      have DB := Lib.hid ((Below.refl w2.heap.size w2).drew)
      go_region_held3 (fun w' => w'.cell? ⟨gi, 2, none⟩ = some (.int .i64 q.w))
        ((first | exact R7.out.c2 | exact R6.out.c2 | exact R5.out.c2))
        (first
        | (go_at_call 89; refine (flexes_any zs n bt ot ct i true A2 m d2 _ HV.out ((T2.out.below (DB.out.mono (by omega))).more (by have := DB.out.size; omega)) hm.out ((HA.out.below DB.out).rd) hm8).mono ?_; rintro e w3 ⟨A5, m5, c5, rfl, _, hW5, hb⟩; have e5 : m = m5 := (by have h1 := hW5.len; rw [fzL_len, hm.out] at h1; omega); subst e5; have R6 := Lib.hid (R5.out.below hb); have B6 := Lib.hid (DB.out.trans (hb.mono DB.out.size)); have F5 := Lib.hid hW5; clear hW5 hb)
        | (go_at_call 88; refine (sflex_any A5 m c5 _ sp w3 F5.out.rd hm1 hm8 HFZ.out bsp0 (by omega)).mono ?_; rintro e w4 ⟨A7, m7, c7, rfl, _, hW7, hb⟩; rw [HSE.out] at hW7; have e7 : m = m7 := HSL.out.symm.trans hW7.len; subst e7; have R7 := Lib.hid (R6.out.below hb); have B7 := Lib.hid (B6.out.trans (hb.mono B6.out.size)); have W7 := Lib.hid (hW7.low (show bo + 1 ≤ w3.heap.size by have := B6.out.size; omega)); clear hW7 hb))
      all_goals
        clear tw1 tsp k1 k5 k8 R5 DB
        have GB7 := Lib.hid (gb_trans G2.out (gb_below B7.out (some bo)))
        have BK7 := Lib.hid (C4v.below BK2.out B7.out)
        have k5 := BK7.out.c3
        have k8 := BK7.out.c4
        have r2 := R7.out.c2
        go_wp2_with fail
        refine (soffsets_any A7 m c7 SZ q.w x5 x8 w4 W7.out.rd hm1 hm8 (by rw [← hSZ.out]; exact HZB.out) (by omega) (by omega) b50 b51 b80 b81).mono ?_
        rintro e ws ⟨A8, m8, c8, rfl, _, hW8, hb⟩
        obtain rfl : m = m8 := (mk_len _ _).symm.trans hW8.len
        have BS := Lib.hid (B7.out.trans (hb.mono B7.out.size))
        have GBs := Lib.hid (gb_trans GB7.out (gb_below hb (some bo)))
        have RMs := Lib.hid (R7.out.below hb)
        have W7s := Lib.hid (W7.out.below hb)
        have W8s := Lib.hid (hW8.low (show bo + 1 ≤ w4.heap.size by have := B7.out.size; omega))
        have HAs := Lib.hid (HA.out.below BS.out)
        have WOs := Lib.hid (W2.out.below BS.out)
        have Ts := Lib.hid (TR.out.grownB (by omega) GBs.out)
        have hbs : bo ≤ ws.heap.size := by have := GBs.out.size; omega
        clear hW8 hb k5 k8 r2 W7 R7 B7 GB7 BK7 BS F5 R6 B6 R4 W2 T2 HA BK2 G2 hb2
        go_wp2
        go_loopw [14] (fun s wr => ∃ z : Nat, z ≤ m ∧ s = .int .i64 z ∧ Hid (ws.grownBy wr (some bo) ∧ ∃ ys', Wr wr lo (some ⟨bo, oo, none⟩) (4 * n) ys' ∧ (∀ j, j < n → OkA zs n W H (putR n ys i r) j → OkA zs n W H ys' j) ∧ ∀ t, t < z → ∀ j, j < n → (kdsL zs n (i : Int)).getD t 0 ∈ pth zs j → OkA zs n W H ys' j)) (fun s _ => m - (intOf s).toNat)
        case atStart => exact ⟨0, Nat.zero_le _, rfl, Lib.hid ⟨World.grownBy.refl _ _, _, WOs.out, fun _ _ h => h, fun t ht => absurd ht (by omega)⟩⟩
        case round =>
          obtain ⟨z, hz, rfl, hS⟩ := hrel
          by_cases hlt2 : z < m
          · obtain ⟨ys1, hys⟩ : ∃ ys1, Hid (Wr wr lo (some ⟨bo, oo, none⟩) (4 * n) ys1 ∧ (∀ j, j < n → OkA zs n W H (putR n ys i r) j → OkA zs n W H ys1 j) ∧ ∀ t, t < z → ∀ j, j < n → (kdsL zs n (i : Int)).getD t 0 ∈ pth zs j → OkA zs n W H ys1 j) := hS.out.2
            obtain ⟨ga, gb, gc⟩ := kdsL_at HV.out.par (show z < (kdsL zs n (i : Int)).length by rw [hm.out]; exact hlt2)
            have hzb := HZA.out z (by rw [hm.out]; exact hlt2)
            have hob := HOB.out z (by rw [hm.out]; exact hlt2)
            have HKz := Lib.hid (HK.out z hlt2)
            obtain ⟨j, hj⟩ : ∃ j, Hid ((kdsL zs n (i : Int)).getD z 0 = j) := ⟨_, Lib.hid rfl⟩
            rw [hj.out] at ga gb HKz
            rw [HOE.out z] at hob HKz
            rw [hSZ.out] at hzb HKz
            obtain ⟨Zv, hZv⟩ : ∃ x, Hid (SZ.getD z 0 = x) := ⟨_, Lib.hid rfl⟩
            obtain ⟨O, hO⟩ : ∃ x, Hid (ofF SZ q.w x5 x8 z = x) := ⟨_, Lib.hid rfl⟩
            rw [hZv.out] at hzb HKz
            rw [hO.out] at hob HKz
            obtain ⟨hzb0, hzb1⟩ := hzb
            obtain ⟨hob0, hob1⟩ := hob
            have W7r := Lib.hid (W7s.out.grown hS.out.1 (fun g e => by injection e with e; omega))
            have W8r := Lib.hid (W8s.out.grown hS.out.1 (fun g e => by injection e with e; omega))
            have HAr := Lib.hid (HAs.out.grown hS.out.1 (fun g e => by injection e with e; omega))
            have RMr := Lib.hid (RMs.out.grown hS.out.1 hgio)
            obtain ⟨b7, o7, rfl, _, _, hc7⟩ := W7r.out.2 (by omega)
            have ck7 := (hc7 z hlt2).1
            rw [hZv.out] at ck7
            obtain ⟨b8, o8, rfl, _, _, hc8⟩ := W8r.out.2 (by omega)
            have ck8 := (hc8 z hlt2).1
            rw [mk_getD _ _ _ hlt2, hO.out] at ck8
            obtain ⟨b9, o9, rfl, _, _, hcc⟩ := HAr.out.2 (by omega)
            have ck := (hcc z hlt2).1
            rw [ki_get (by rw [hm.out]; exact hlt2), hj.out] at ck
            clear hc7 hc8 hcc gc W7r W8r HAr
            have r0 := RMr.out.c0
            have r1 := RMr.out.c1
            have r2 := RMr.out.c2
            have r3 := RMr.out.c3
            have hz0 : (0 : Int) ≤ (z : Int) := by omega
            have hzk : (z : Int) < (m : Int) := by omega
            have tw2 : IntKind.i64.wrap (q.x + O) = q.x + O := IntWalk.i64_in _ (by omega)
            have hnj : n - j ≤ M := by omega
            go_wp2
            go_still_tail 22, (by kernel_rfl)
            change wpList _ _ _ _ _ wr.drew
            have TD := Lib.hid ((Ts.out.grownB hbs hS.out.1).drew)
            have WD := Lib.hid hys.out.1.drew
            have GD := Lib.hid (gb_drew hS.out.1)
            clear ck7 ck8 ck r0 r1 r2 r3 tw2 RMr hS
            generalize wr.drew = wd at TD WD GD ⊢
            have IHj := IH.out j gb hnj ys1 wd TD WD
            rw [HKz.out] at IHj
            dsimp only at IHj
            have IHJ := Lib.hid IHj
            clear IHj
            go_wp2_with fail
            refine IHJ.out.mono ?_
            rintro e we ⟨rfl, hg, ys2, hw2, hmono, hkk⟩
            have GE := Lib.hid (gb_trans GD.out hg)
            have WE := Lib.hid hw2
            have HM := Lib.hid hmono
            have HKK := Lib.hid hkk
            clear hg hw2 hmono hkk TD WD GD IHJ
            go_wp2
            go_roundw
            case rel =>
              refine ⟨z + 1, by omega, by go_num, Lib.hid ⟨GE.out, ys2, WE.out, fun t ht ht' => HM.out t ht (hys.out.2.1 t ht ht'), fun t ht t' ht' hp => ?_⟩⟩
              rcases Nat.lt_or_ge t z with h4 | h4
              · exact HM.out t' ht' (hys.out.2.2 t h4 t' ht' hp)
              · obtain rfl : t = z := by omega
                rw [hj.out] at hp
                exact HKK.out t' ht' hp
            case measure => simp [intOf]; omega
          · obtain rfl : z = m := by omega
            go_wp2
            go_end0
            obtain ⟨ys1, h4', h5', h6'⟩ := hS.out.2
            exact ⟨rfl, gb_trans GBs.out hS.out.1, ys1, h4', fun t ht ht' => h5' t ht (HMO.out t ht ht'), pth_done HV.out.par hm.out (h5' i hi HOK.out) h6'⟩
    · have hx2d : (x1 == 2) = false := by simpa using hx2
      by_cases hx3 : x1 = 3
      · subst hx3
        have HK : Hid (∀ k, k < m → lay zs n W H ((kdsL zs n (i : Int)).getD k 0) = ⟨q.x, q.y + osR zs n i false q.h k, q.w, (szR zs n i false q.h).getD k 0⟩) := Lib.hid fun k hk => by
          rw [HLK.out k (by rw [hm.out]; exact hk)]
          unfold kidR
          rw [if_neg (by rw [h1.out]; omega), if_pos h1.out]
        have HZB := Lib.hid (szR_bd HV.out hi false q.h)
        have HZA := Lib.hid (fun k (hk : k < (kdsL zs n (i : Int)).length) => szR_at HV.out hi false q.h hk)
        have HOB := Lib.hid (fun k (hk : k < (kdsL zs n (i : Int)).length) => osR_bd HV.out hi false (room := q.h) (by omega) (by omega) hk)
        have HFZ := Lib.hid (fzL_ok HV.out hi false)
        rw [hm.out] at HFZ
        obtain ⟨SZ, hSZ⟩ : ∃ SZ, Hid (szR zs n i false q.h = SZ) := ⟨_, Lib.hid rfl⟩
        have HSL : Hid (SZ.length = m) := Lib.hid (by rw [← hSZ.out, szR_len]; exact hm.out)
        obtain ⟨sp, hsp⟩ : ∃ sp, Hid (max 0 (q.h - gs) = sp) := ⟨_, Lib.hid rfl⟩
        have HSE : Hid (flL (fzL zs n false (kdsL zs n (i : Int))) m sp = SZ) := Lib.hid (by rw [← hSZ.out]; unfold szR; rw [hm.out, hgs.out, hsp.out])
        have bsp : 0 ≤ sp ∧ sp ≤ 10000 := by rw [← hsp.out]; omega
        obtain ⟨bsp0, bsp1⟩ := bsp
        have HOE : Hid (∀ k, osR zs n i false q.h k = ofF SZ q.h x5 x8 k) := Lib.hid fun k => by unfold osR; rw [hSZ.out, h5.out, h8.out]
        have tw1 : IntKind.i64.wrap (q.h - gs) = q.h - gs := IntWalk.i64_in _ (by omega)
        have tsp := hsp.out
        go_wp2
        have R5 := Lib.hid R4.out.drew
        have DB := Lib.hid ((Below.refl w2.heap.size w2).drew)
        go_region_held3 (fun w' => w'.cell? ⟨gi, 3, none⟩ = some (.int .i64 q.h))
          ((first | exact R7.out.c3 | exact R6.out.c3 | exact R5.out.c3))
          (first
          | (go_at_call 89; refine (flexes_any zs n bt ot ct i false A2 m d2 _ HV.out ((T2.out.below (DB.out.mono (by omega))).more (by have := DB.out.size; omega)) hm.out ((HA.out.below DB.out).rd) hm8).mono ?_; rintro e w3 ⟨A5, m5, c5, rfl, _, hW5, hb⟩; have e5 : m = m5 := (by have h1 := hW5.len; rw [fzL_len, hm.out] at h1; omega); subst e5; have R6 := Lib.hid (R5.out.below hb); have B6 := Lib.hid (DB.out.trans (hb.mono DB.out.size)); have F5 := Lib.hid hW5; clear hW5 hb)
          | (go_at_call 88; refine (sflex_any A5 m c5 _ sp w3 F5.out.rd hm1 hm8 HFZ.out bsp0 (by omega)).mono ?_; rintro e w4 ⟨A7, m7, c7, rfl, _, hW7, hb⟩; rw [HSE.out] at hW7; have e7 : m = m7 := HSL.out.symm.trans hW7.len; subst e7; have R7 := Lib.hid (R6.out.below hb); have B7 := Lib.hid (B6.out.trans (hb.mono B6.out.size)); have W7 := Lib.hid (hW7.low (show bo + 1 ≤ w3.heap.size by have := B6.out.size; omega)); clear hW7 hb))
        all_goals
          clear tw1 tsp k1 k5 k8 R5 DB
          have GB7 := Lib.hid (gb_trans G2.out (gb_below B7.out (some bo)))
          have BK7 := Lib.hid (C4v.below BK2.out B7.out)
          have k5 := BK7.out.c3
          have k8 := BK7.out.c4
          have r2 := R7.out.c3
          go_wp2_with fail
          refine (soffsets_any A7 m c7 SZ q.h x5 x8 w4 W7.out.rd hm1 hm8 (by rw [← hSZ.out]; exact HZB.out) (by omega) (by omega) b50 b51 b80 b81).mono ?_
          rintro e ws ⟨A8, m8, c8, rfl, _, hW8, hb⟩
          obtain rfl : m = m8 := (mk_len _ _).symm.trans hW8.len
          have BS := Lib.hid (B7.out.trans (hb.mono B7.out.size))
          have GBs := Lib.hid (gb_trans GB7.out (gb_below hb (some bo)))
          have RMs := Lib.hid (R7.out.below hb)
          have W7s := Lib.hid (W7.out.below hb)
          have W8s := Lib.hid (hW8.low (show bo + 1 ≤ w4.heap.size by have := B7.out.size; omega))
          have HAs := Lib.hid (HA.out.below BS.out)
          have WOs := Lib.hid (W2.out.below BS.out)
          have Ts := Lib.hid (TR.out.grownB (by omega) GBs.out)
          have hbs : bo ≤ ws.heap.size := by have := GBs.out.size; omega
          clear hW8 hb k5 k8 r2 W7 R7 B7 GB7 BK7 BS F5 R6 B6 R4 W2 T2 HA BK2 G2 hb2
          go_wp2
          go_loopw [17] (fun s wr => ∃ z : Nat, z ≤ m ∧ s = .int .i64 z ∧ Hid (ws.grownBy wr (some bo) ∧ ∃ ys', Wr wr lo (some ⟨bo, oo, none⟩) (4 * n) ys' ∧ (∀ j, j < n → OkA zs n W H (putR n ys i r) j → OkA zs n W H ys' j) ∧ ∀ t, t < z → ∀ j, j < n → (kdsL zs n (i : Int)).getD t 0 ∈ pth zs j → OkA zs n W H ys' j)) (fun s _ => m - (intOf s).toNat)
          case atStart => exact ⟨0, Nat.zero_le _, rfl, Lib.hid ⟨World.grownBy.refl _ _, _, WOs.out, fun _ _ h => h, fun t ht => absurd ht (by omega)⟩⟩
          case round =>
            obtain ⟨z, hz, rfl, hS⟩ := hrel
            by_cases hlt2 : z < m
            · obtain ⟨ys1, hys⟩ : ∃ ys1, Hid (Wr wr lo (some ⟨bo, oo, none⟩) (4 * n) ys1 ∧ (∀ j, j < n → OkA zs n W H (putR n ys i r) j → OkA zs n W H ys1 j) ∧ ∀ t, t < z → ∀ j, j < n → (kdsL zs n (i : Int)).getD t 0 ∈ pth zs j → OkA zs n W H ys1 j) := hS.out.2
              obtain ⟨ga, gb, gc⟩ := kdsL_at HV.out.par (show z < (kdsL zs n (i : Int)).length by rw [hm.out]; exact hlt2)
              have hzb := HZA.out z (by rw [hm.out]; exact hlt2)
              have hob := HOB.out z (by rw [hm.out]; exact hlt2)
              have HKz := Lib.hid (HK.out z hlt2)
              obtain ⟨j, hj⟩ : ∃ j, Hid ((kdsL zs n (i : Int)).getD z 0 = j) := ⟨_, Lib.hid rfl⟩
              rw [hj.out] at ga gb HKz
              rw [HOE.out z] at hob HKz
              rw [hSZ.out] at hzb HKz
              obtain ⟨Zv, hZv⟩ : ∃ x, Hid (SZ.getD z 0 = x) := ⟨_, Lib.hid rfl⟩
              obtain ⟨O, hO⟩ : ∃ x, Hid (ofF SZ q.h x5 x8 z = x) := ⟨_, Lib.hid rfl⟩
              rw [hZv.out] at hzb HKz
              rw [hO.out] at hob HKz
              obtain ⟨hzb0, hzb1⟩ := hzb
              obtain ⟨hob0, hob1⟩ := hob
              have W7r := Lib.hid (W7s.out.grown hS.out.1 (fun g e => by injection e with e; omega))
              have W8r := Lib.hid (W8s.out.grown hS.out.1 (fun g e => by injection e with e; omega))
              have HAr := Lib.hid (HAs.out.grown hS.out.1 (fun g e => by injection e with e; omega))
              have RMr := Lib.hid (RMs.out.grown hS.out.1 hgio)
              obtain ⟨b7, o7, rfl, _, _, hc7⟩ := W7r.out.2 (by omega)
              have ck7 := (hc7 z hlt2).1
              rw [hZv.out] at ck7
              obtain ⟨b8, o8, rfl, _, _, hc8⟩ := W8r.out.2 (by omega)
              have ck8 := (hc8 z hlt2).1
              rw [mk_getD _ _ _ hlt2, hO.out] at ck8
              obtain ⟨b9, o9, rfl, _, _, hcc⟩ := HAr.out.2 (by omega)
              have ck := (hcc z hlt2).1
              rw [ki_get (by rw [hm.out]; exact hlt2), hj.out] at ck
              clear hc7 hc8 hcc gc W7r W8r HAr
              have r0 := RMr.out.c0
              have r1 := RMr.out.c1
              have r2 := RMr.out.c2
              have r3 := RMr.out.c3
              have hz0 : (0 : Int) ≤ (z : Int) := by omega
              have hzk : (z : Int) < (m : Int) := by omega
              have tw2 : IntKind.i64.wrap (q.y + O) = q.y + O := IntWalk.i64_in _ (by omega)
              have hnj : n - j ≤ M := by omega
              go_wp2
              go_still_tail 22, (by kernel_rfl)
              change wpList _ _ _ _ _ wr.drew
              have TD := Lib.hid ((Ts.out.grownB hbs hS.out.1).drew)
              have WD := Lib.hid hys.out.1.drew
              have GD := Lib.hid (gb_drew hS.out.1)
              clear ck7 ck8 ck r0 r1 r2 r3 tw2 RMr hS
              generalize wr.drew = wd at TD WD GD ⊢
              have IHj := IH.out j gb hnj ys1 wd TD WD
              rw [HKz.out] at IHj
              dsimp only at IHj
              have IHJ := Lib.hid IHj
              clear IHj
              go_wp2_with fail
              refine IHJ.out.mono ?_
              rintro e we ⟨rfl, hg, ys2, hw2, hmono, hkk⟩
              have GE := Lib.hid (gb_trans GD.out hg)
              have WE := Lib.hid hw2
              have HM := Lib.hid hmono
              have HKK := Lib.hid hkk
              clear hg hw2 hmono hkk TD WD GD IHJ
              go_wp2
              go_roundw
              case rel =>
                refine ⟨z + 1, by omega, by go_num, Lib.hid ⟨GE.out, ys2, WE.out, fun t ht ht' => HM.out t ht (hys.out.2.1 t ht ht'), fun t ht t' ht' hp => ?_⟩⟩
                rcases Nat.lt_or_ge t z with h4 | h4
                · exact HM.out t' ht' (hys.out.2.2 t h4 t' ht' hp)
                · obtain rfl : t = z := by omega
                  rw [hj.out] at hp
                  exact HKK.out t' ht' hp
              case measure => simp [intOf]; omega
            · obtain rfl : z = m := by omega
              go_wp2
              go_end0
              obtain ⟨ys1, h4', h5', h6'⟩ := hS.out.2
              exact ⟨rfl, gb_trans GBs.out hS.out.1, ys1, h4', fun t ht ht' => h5' t ht (HMO.out t ht ht'), pth_done HV.out.par hm.out (h5' i hi HOK.out) h6'⟩
      · have hx3d : (x1 == 3) = false := by simpa using hx3
        have HK : Hid (∀ k, k < m → lay zs n W H ((kdsL zs n (i : Int)).getD k 0) = ⟨q.x, q.y + alY x5 (nd zs n false) (kdsL zs n (i : Int)) k, q.w, nd zs n false ((kdsL zs n (i : Int)).getD k 0)⟩) := Lib.hid fun k hk => by
          rw [HLK.out k (by rw [hm.out]; exact hk)]
          unfold kidR
          rw [if_neg (by rw [h1.out]; exact hx2), if_neg (by rw [h1.out]; exact hx3), h5.out]
        have r1 := R4.out.c1
        clear hx2 hx3
        go_wp2
        clear r1 k1 k5 k8 tg
        have hbs : bo ≤ w2.heap.size := by omega
        have hg1w : w.heap.size + 1 < w2.heap.size := lt_of_cell BK2.out.c1
        go_loopw [18, 19] (fun y s wr => ∃ z : Nat, z ≤ m ∧ s = .int .i64 z ∧ y = .int .i64 (q.y + alY x5 (nd zs n false) (kdsL zs n (i : Int)) z) ∧ Hid (w2.grownBy wr (some bo) ∧ ∃ ys', Wr wr lo (some ⟨bo, oo, none⟩) (4 * n) ys' ∧ (∀ j, j < n → OkA zs n W H (putR n ys i r) j → OkA zs n W H ys' j) ∧ ∀ t, t < z → ∀ j, j < n → (kdsL zs n (i : Int)).getD t 0 ∈ pth zs j → OkA zs n W H ys' j)) (fun _ s _ => m - (intOf s).toNat)
        case atStart => exact ⟨0, Nat.zero_le _, rfl, by rw [alY_zero, Int.add_zero], Lib.hid ⟨World.grownBy.refl _ _, _, W2.out, fun _ _ h => h, fun t ht => absurd ht (by omega)⟩⟩
        case round =>
          obtain ⟨z, hz, rfl, rfl, hS⟩ := hrel
          by_cases hlt2 : z < m
          · obtain ⟨ys1, hys⟩ : ∃ ys1, Hid (Wr wr lo (some ⟨bo, oo, none⟩) (4 * n) ys1 ∧ (∀ j, j < n → OkA zs n W H (putR n ys i r) j → OkA zs n W H ys1 j) ∧ ∀ t, t < z → ∀ j, j < n → (kdsL zs n (i : Int)).getD t 0 ∈ pth zs j → OkA zs n W H ys1 j) := hS.out.2
            obtain ⟨ga, gb, gc⟩ := kdsL_at HV.out.par (show z < (kdsL zs n (i : Int)).length by rw [hm.out]; exact hlt2)
            have bY := alY_bd HV.out hi false z (by rw [hm.out]; exact hz)
            have hnx := Lib.hid (alY_succ (g := gpB zs i) (f := nd zs n false) (show z < (kdsL zs n (i : Int)).length by rw [hm.out]; exact hlt2))
            have HKz := Lib.hid (HK.out z hlt2)
            obtain ⟨j, hj⟩ : ∃ j, Hid ((kdsL zs n (i : Int)).getD z 0 = j) := ⟨_, Lib.hid rfl⟩
            rw [hj.out] at ga gb HKz hnx
            rw [h5.out] at hnx bY
            obtain ⟨Wn, hWn⟩ : ∃ x, Hid (nd zs n true j = x) := ⟨_, Lib.hid rfl⟩
            obtain ⟨G, hG⟩ : ∃ x, Hid (nd zs n false j = x) := ⟨_, Lib.hid rfl⟩
            have bG : 0 ≤ G ∧ G ≤ 4000 := by rw [← hG.out]; exact nd_le HV.out false j gb
            obtain ⟨bG0, bG1⟩ := bG
            rw [hG.out] at HKz hnx
            obtain ⟨Y, hY⟩ : ∃ Y, Hid (alY x5 (nd zs n false) (kdsL zs n (i : Int)) z = Y) := ⟨_, Lib.hid rfl⟩
            rw [hY.out] at bY HKz hnx ⊢
            obtain ⟨bY0, bY1⟩ := bY
            have HAr := Lib.hid (HA.out.grown hS.out.1 (fun g e => by injection e with e; omega))
            obtain ⟨b9, o9, rfl, _, hb9, hcc⟩ := HAr.out.2 (by omega)
            have ck := (hcc z hlt2).1
            rw [ki_get (by rw [hm.out]; exact hlt2), hj.out] at ck
            have CK := Lib.hid ck
            clear hcc gc HAr
            have hz0 : (0 : Int) ≤ (z : Int) := by omega
            have hzk : (z : Int) < (m : Int) := by omega
            have hnj : n - j ≤ M := by omega
            have Tr := Lib.hid (T2.out.grownB hbs hS.out.1)
            have hbr : bo ≤ wr.heap.size := by have := hS.out.1.size; omega
            go_wp2_with fail
            refine (snat_any _ n ct j zs wr (Tr.out.more hbr) gb HV.out).mono ?_
            rintro e w3 ⟨rfl, hb⟩
            rw [hWn.out, hG.out]
            have G3 := Lib.hid (gb_trans hS.out.1 (gb_below hb (some bo)))
            have W3 := Lib.hid (hys.out.1.below hb)
            have T3 := Lib.hid (Tr.out.grownB hbr (gb_below hb (some bo)))
            have ck3 : w3.cell? ⟨b9, o9 + z, none⟩ = some (.int .i64 (j : Int)) := (hb.cell (p := ⟨b9, o9 + z, none⟩) (lt_of_cell CK.out)).trans CK.out
            have RM3 := Lib.hid (R4.out.grown G3.out hgio)
            have r0 := RM3.out.c0
            have r2 := RM3.out.c2
            clear hb ck CK Tr hS hbr
            go_wp2
            go_still_tail 13, (by kernel_rfl)
            change wpList _ _ _ _ _ w3.drew
            have TD := Lib.hid T3.out.drew
            have WD := Lib.hid W3.out.drew
            have GD := Lib.hid (gb_drew G3.out)
            clear ck3 r0 r2 RM3 T3 W3 G3
            generalize w3.drew = wd at TD WD GD ⊢
            have IHj := IH.out j gb hnj ys1 wd TD WD
            rw [HKz.out] at IHj
            dsimp only at IHj
            have IHJ := Lib.hid IHj
            clear IHj
            go_wp2_with fail
            refine IHJ.out.mono ?_
            rintro e we ⟨rfl, hg, ys2, hw2, hmono, hkk⟩
            have GE := Lib.hid (gb_trans GD.out hg)
            have WE := Lib.hid hw2
            have HM := Lib.hid hmono
            have HKK := Lib.hid hkk
            have k5 : we.cell? ⟨w.heap.size + 1, 5, none⟩ = some (.int .i64 x5) := ((gcell GE.out).1 _ _ hg1w hg1o).trans BK2.out.c3
            clear hg hw2 hmono hkk TD WD GD IHJ
            go_wp2
            go_roundw
            case rel =>
              refine ⟨z + 1, by omega, by go_num, by rw [hnx.out]; exact vint (by omega), Lib.hid ⟨GE.out, ys2, WE.out, fun t ht ht' => HM.out t ht (hys.out.2.1 t ht ht'), fun t ht t' ht' hp => ?_⟩⟩
              rcases Nat.lt_or_ge t z with h4 | h4
              · exact HM.out t' ht' (hys.out.2.2 t h4 t' ht' hp)
              · obtain rfl : t = z := by omega
                rw [hj.out] at hp
                exact HKK.out t' ht' hp
            case measure => simp [intOf]; omega
          · obtain rfl : z = m := by omega
            go_wp2
            go_end0
            obtain ⟨ys1, h4', h5', h6'⟩ := hS.out.2
            exact ⟨rfl, gb_trans G2.out hS.out.1, ys1, h4', fun t ht ht' => h5' t ht (HMO.out t ht ht'), pth_done HV.out.par hm.out (h5' i hi HOK.out) h6'⟩
end Go.Proofs.Ytjaecgobgpfbdaa
