/- The boxes of a box in a line: the program. -/
import Derived.Test.YtjaecgobgpfbdaaVC
import Derived.Test.YtjaecgobgpfbdaaFZ
import Derived.Test.YtjaecgobgpfbdaaOC
import Derived.Test.YtjaecgobgpfbdaaFR2
namespace Go.Proofs.Ytjaecgobgpfbdaa
open Go.RowKit

theorem Bx9.alloc {w0 W : World} {g : Nat} {x0 x1 x2 x3 x4 x5 x6 x7 x8 : Int} (h : Bx9 w0 g x0 x1 x2 x3 x4 x5 x6 x7 x8 W) (o : Obj) : Bx9 w0 g x0 x1 x2 x3 x4 x5 x6 x7 x8 (W.alloc o) := h.below ((Below.refl _ _).alloc (Nat.le_refl _) _)
theorem Bx9.keepR {w0 W W' : World} {g : Nat} {x0 x1 x2 x3 x4 x5 x6 x7 x8 : Int} (h : Bx9 w0 g x0 x1 x2 x3 x4 x5 x6 x7 x8 W) (hb : W'.heap[g]? = W.heap[g]?) (hs : W.heap.size ≤ W'.heap.size) (hl : Below w0.heap.size w0 W') : Bx9 w0 g x0 x1 x2 x3 x4 x5 x6 x7 x8 W' := by
  have hc := fun o => World.cell?_of_block (w := W) (w' := W') (a := ⟨g, o, none⟩) hb
  exact ⟨hl, Nat.lt_of_lt_of_le h.lt hs, (hc 0).trans h.c0, (hc 1).trans h.c1, (hc 2).trans h.c2, (hc 3).trans h.c3, (hc 4).trans h.c4, (hc 5).trans h.c5, (hc 6).trans h.c6, (hc 7).trans h.c7, (hc 8).trans h.c8⟩
theorem Bx9.grownR {w0 W W' : World} {g : Nat} {x0 x1 x2 x3 x4 x5 x6 x7 x8 : Int} (h : Bx9 w0 g x0 x1 x2 x3 x4 x5 x6 x7 x8 W) {row : Option Nat} (hg : W.grownBy W' row) (hr : ∀ r, row = some r → w0.heap.size ≤ r ∧ g < r) : Bx9 w0 g x0 x1 x2 x3 x4 x5 x6 x7 x8 W' :=
  h.keepR (hg.block g h.lt (fun e => by have := (hr g e.symm).2; omega)) hg.size (h.bl.grown hg h.bl.size (fun r e => (hr r e).1))
theorem Bx9.far4 {w0 W : World} {g : Nat} {x0 x1 x2 x3 x4 x5 x6 x7 x8 : Int} (h : Bx9 w0 g x0 x1 x2 x3 x4 x5 x6 x7 x8 W) {b o0 o1 o2 o3 : Nat} (hne : ¬ g = b) (hb : w0.heap.size ≤ b) (u0 u1 u2 u3 : Value) : Bx9 w0 g x0 x1 x2 x3 x4 x5 x6 x7 x8 ((((W.setCell ⟨b, o0, none⟩ u0).setCell ⟨b, o1, none⟩ u1).setCell ⟨b, o2, none⟩ u2).setCell ⟨b, o3, none⟩ u3) := by
  have e := fun (w : World) (o : Nat) (u : Value) => Below.heap_setCell w ⟨b, o, none⟩ u g hne
  exact h.keepR ((e _ _ _).trans ((e _ _ _).trans ((e _ _ _).trans (e _ _ _)))) (by simp [World.setCell]) ((((h.bl.setCell hb _).setCell hb _).setCell hb _).setCell hb _)
theorem Bx9.far2 {w0 W : World} {g : Nat} {x0 x1 x2 x3 x4 x5 x6 x7 x8 : Int} (h : Bx9 w0 g x0 x1 x2 x3 x4 x5 x6 x7 x8 W) {b o0 o1 : Nat} (hne : ¬ g = b) (hb : w0.heap.size ≤ b) (u0 u1 : Value) : Bx9 w0 g x0 x1 x2 x3 x4 x5 x6 x7 x8 ((W.setCell ⟨b, o0, none⟩ u0).setCell ⟨b, o1, none⟩ u1) := by
  have e := fun (w : World) (o : Nat) (u : Value) => Below.heap_setCell w ⟨b, o, none⟩ u g hne
  exact h.keepR ((e _ _ _).trans (e _ _ _)) (by simp [World.setCell]) ((h.bl.setCell hb _).setCell hb _)
/- Two cells that may be written. -/
structure Sz2 (g : Nat) (a b : Int) (w : World) : Prop where
  c0 : w.cell? ⟨g, 0, none⟩ = some (.int .i64 a)
  c1 : w.cell? ⟨g, 1, none⟩ = some (.int .i64 b)
  f0 : w.frozen? ⟨g, 0, none⟩ = false
  f1 : w.frozen? ⟨g, 1, none⟩ = false
theorem Sz2.made (w : World) (a b : Int) (e : TypeId) : Sz2 w.heap.size a b (w.alloc (.cells #[.int .i64 a, .int .i64 b] e)) := by
  refine ⟨?_, ?_, ?_, ?_⟩ <;> simp [go_sem]
theorem Sz2.below {g : Nat} {a b : Int} {w w' : World} (h : Sz2 g a b w) (hb : Below w.heap.size w w') : Sz2 g a b w' := by
  have hl : g < w.heap.size := lt_of_cell h.c0
  have hc := fun o => hb.cell (p := ⟨g, o, none⟩) hl
  have hf := fun o => hb.frozen (p := ⟨g, o, none⟩) hl
  exact ⟨(hc 0).trans h.c0, (hc 1).trans h.c1, (hf 0).trans h.f0, (hf 1).trans h.f1⟩
theorem Sz2.set {g : Nat} {a b : Int} {w : World} (h : Sz2 g a b w) (x y : Int) : Sz2 g x y ((w.setCell ⟨g, 0, none⟩ (.int .i64 x)).setCell ⟨g, 1, none⟩ (.int .i64 y)) := by
  have e0 := h.c0
  have e1 := h.c1
  have e2 := h.f0
  have e3 := h.f1
  refine ⟨?_, ?_, ?_, ?_⟩ <;> simp [go_sem, *]
/- What the append of a flexible size reads. -/
structure Sx (g gl bt ot n ct j : Nat) (s v6 v7 : Int) (w : World) : Prop where
  c : w.cell? ⟨g, 0, none⟩ = some (.int .i64 s)
  t : w.cell? ⟨gl, 0, none⟩ = some (.slice (some ⟨bt, ot, none⟩) n ct)
  t6 : w.cell? ⟨bt, ot + j * 9 + 6, none⟩ = some (.int .i64 v6)
  t7 : w.cell? ⟨bt, ot + j * 9 + 7, none⟩ = some (.int .i64 v7)
theorem Sx.grownR {g gl bt ot n ct j : Nat} {s v6 v7 : Int} {w w' : World} {row : Option Nat} (h : Sx g gl bt ot n ct j s v6 v7 w) (hg : w.grownBy w' row) (h1 : ¬ some g = row) (h2 : ¬ some gl = row) (h3 : ¬ some bt = row) : Sx g gl bt ot n ct j s v6 v7 w' := by
  have hc := fun b o (hl : b < w.heap.size) (hne : ¬ some b = row) => World.cell?_of_block (w := w) (w' := w') (a := ⟨b, o, none⟩) (hg.block b hl hne)
  exact ⟨(hc _ _ (lt_of_cell h.c) h1).trans h.c, (hc _ _ (lt_of_cell h.t) h2).trans h.t, (hc _ _ (lt_of_cell h.t6) h3).trans h.t6, (hc _ _ (lt_of_cell h.t7) h3).trans h.t7⟩
theorem Sx.alloc {g gl bt ot n ct j : Nat} {s v6 v7 : Int} {w : World} (h : Sx g gl bt ot n ct j s v6 v7 w) (o : Obj) : Sx g gl bt ot n ct j s v6 v7 (w.alloc o) := h.grownR (gb_alloc (World.grownBy.refl w none) o) (by simp) (by simp) (by simp)
theorem Sx.drew {g gl bt ot n ct j : Nat} {s v6 v7 : Int} {w : World} (h : Sx g gl bt ot n ct j s v6 v7 w) : Sx g gl bt ot n ct j s v6 v7 w.drew := ⟨h.c, h.t, h.t6, h.t7⟩
theorem Sx.cells {g gl bt ot n ct j : Nat} {s v6 v7 : Int} {w : World} (h : Sx g gl bt ot n ct j s v6 v7 w) : w.cell? ⟨g, 0, none⟩ = some (.int .i64 s) ∧ w.cell? ⟨gl, 0, none⟩ = some (.slice (some ⟨bt, ot, none⟩) n ct) ∧ w.cell? ⟨bt, ot + j * 9 + 6, none⟩ = some (.int .i64 v6) ∧ w.cell? ⟨bt, ot + j * 9 + 7, none⟩ = some (.int .i64 v7) := ⟨h.c, h.t, h.t6, h.t7⟩
theorem Rk.far {w : World} {K lo m : Nat} {t : TypeId} {v : Value} {zs : List Int} (h : Rk K t lo v m zs w) {p : Addr} (hne : ∀ r, v.ownBlock = some r → r < p.block) (u : Value) : Rk K t lo v m zs (w.setCell p u) :=
  ⟨h.1.kept (gb_one w p u) (by
    cases hv : v.ownBlock with
    | none => exact .inl rfl
    | some k => exact .inr (fun e => by injection e with e; have := hne k hv; omega)), by simpa [World.setCell] using h.2⟩
theorem Rk.drew {w : World} {K lo m : Nat} {t : TypeId} {v : Value} {zs : List Int} (h : Rk K t lo v m zs w) : Rk K t lo v m zs w.drew := h
theorem Rk.made0 (w : World) (K : Nat) (t : TypeId) (lo c : Nat) (z : Array Value) (h : lo ≤ w.heap.size) (hc : c ≤ 2000000) : Rk K t lo (.slice (some ⟨w.heap.size, 0, none⟩) 0 c) 0 [] (w.alloc (.cells (madeCells z (c * K)) t)) :=
  ⟨World.ownsRow_made w _ c h (by unfold maxLen; omega) (size_madeCells _ _), by simp; omega⟩
structure C4v (a1 a2 a3 a4 : Addr) (v1 v2 v3 v4 : Value) (w : World) : Prop where
  c1 : w.cell? a1 = some v1
  c2 : w.cell? a2 = some v2
  c3 : w.cell? a3 = some v3
  c4 : w.cell? a4 = some v4
theorem mk_c4v {a1 a2 a3 a4 : Addr} {v1 v2 v3 v4 : Value} {w : World} (h1 : w.cell? a1 = some v1) (h2 : w.cell? a2 = some v2) (h3 : w.cell? a3 = some v3) (h4 : w.cell? a4 = some v4) : C4v a1 a2 a3 a4 v1 v2 v3 v4 w := ⟨h1, h2, h3, h4⟩
theorem C4v.drew {a1 a2 a3 a4 : Addr} {v1 v2 v3 v4 : Value} {w : World} (h : C4v a1 a2 a3 a4 v1 v2 v3 v4 w) : C4v a1 a2 a3 a4 v1 v2 v3 v4 w.drew := ⟨h.c1, h.c2, h.c3, h.c4⟩
theorem C4v.alloc {a1 a2 a3 a4 : Addr} {v1 v2 v3 v4 : Value} {w : World} (h : C4v a1 a2 a3 a4 v1 v2 v3 v4 w) (o : Obj) : C4v a1 a2 a3 a4 v1 v2 v3 v4 (w.alloc o) :=
  ⟨(World.cell?_alloc_lt w o a1 (lt_of_cell h.c1)).trans h.c1, (World.cell?_alloc_lt w o a2 (lt_of_cell h.c2)).trans h.c2, (World.cell?_alloc_lt w o a3 (lt_of_cell h.c3)).trans h.c3, (World.cell?_alloc_lt w o a4 (lt_of_cell h.c4)).trans h.c4⟩
theorem C4v.cells {a1 a2 a3 a4 : Addr} {v1 v2 v3 v4 : Value} {w : World} (h : C4v a1 a2 a3 a4 v1 v2 v3 v4 w) : w.cell? a1 = some v1 ∧ w.cell? a2 = some v2 ∧ w.cell? a3 = some v3 ∧ w.cell? a4 = some v4 := ⟨h.c1, h.c2, h.c3, h.c4⟩
theorem fzL_take (zs : List Int) (n : Nat) (d : Bool) {l : List Nat} {k : Nat} (h : k < l.length) : fzL zs n d (l.take (k + 1)) = fzL zs n d (l.take k) ++ [nd zs n d (l.getD k 0), 0, 10000, gwB zs (l.getD k 0), shB zs (l.getD k 0)] := by
  rw [List.take_succ_eq_append_getElem h, fzL_snoc]
  simp [List.getD_eq_getElem?_getD, List.getElem?_eq_getElem h]
theorem Bk.wr_of {w : World} {lo lo' n : Nat} {A : Option Addr} {zs : List Int} (h : Wr w lo A n zs) (hl : lo' ≤ lo) : Wr w lo' A n zs := h.low hl
theorem made_flex (m : Nat) (hm : m ≤ 2000000) (W : World) : (Instr.makeSlice 84 (.int .i64 0) (.int .i64 (m : Int))).run Try.prog W = .ok (.slice (some ⟨W.heap.size, 0, none⟩) 0 m) (W.alloc (.cells (madeCells #[.int .i64 0, .int .i64 0, .int .i64 0, .int .i64 0, .int .i64 0] (m * 5)) 87)) := by
  obtain ⟨i0, hi, hz0, hz1, hz2⟩ := info_parts info_Flex
  have h := run_make_rowN (P := Try.prog) 84 87 i0 _ Try.underlying84 hi hz0 .i64 .i64 0 m (Nat.zero_le _) (by rw [hz2]; omega) (by omega) W
  rw [hz1] at h
  exact h
set_option maxRecDepth 100000 in
set_option maxHeartbeats 16000000 in
theorem line_row (zs : List Int) (n gl bt ot ct bo oo co lo i : Nat) (W H : Int) (ys : List Int) (A2 : Option Addr) (c2 : Nat) (w : World) (hv : VT zs n) (hW : 0 ≤ W ∧ W ≤ 10000) (hH : 0 ≤ H ∧ H ≤ 10000) (hi : i < n) (h : LyS zs n gl bt ot ct bo oo co lo ys w) (hok : OkA zs n W H ys i) (hA : Wr w (bo + 1) A2 (kdsL zs n (i : Int)).length (ki (kdsL zs n (i : Int)))) (hkd : kdB zs i = 2) (hm1 : 1 ≤ (kdsL zs n (i : Int)).length) :
    Calls Try.prog 73 #[.pointer (some ⟨gl, 0, none⟩), .int .i64 i, .slice A2 (kdsL zs n (i : Int)).length c2, .bool false] w (Laid zs n W H bo oo lo (kdsL zs n (i : Int)) ys w) := by
  have HV := Lib.hid hv
  have S0 := Lib.hid h
  have K0 := Lib.hid hok
  have HA := Lib.hid hA
  have n16 := hv.few
  have n1 := hv.one
  have LB0 := Lib.hid (lay_bd hv hW hH i hi)
  have o := Lib.hid (hv.ok hi)
  have hbo : bo < w.heap.size := by
    obtain ⟨b, oo', e, _, hb, _⟩ := h.wr.2 (by omega)
    injection e with e
    injection e with e1
    omega
  have hgl := lt_of_cell h.t
  dsimp only at hgl
  have hbt := (h.tree (by omega)).1
  have g1 := h.g1
  have g2 := h.g2
  obtain ⟨r, hr⟩ : ∃ r, Hid (lay zs n W H i = r) := ⟨_, Lib.hid rfl⟩
  obtain ⟨q, hq⟩ : ∃ q, Hid (r.inn (pdB zs i) = q) := ⟨_, Lib.hid rfl⟩
  obtain ⟨m, hm⟩ : ∃ m, Hid ((kdsL zs n (i : Int)).length = m) := ⟨_, Lib.hid rfl⟩
  rw [hr.out] at LB0
  have hqb := inn_bd LB0.out o.out.pd.1 o.out.pd.2
  have hrb := LB0.out
  rw [hq.out] at hqb
  obtain ⟨⟨qx0, qx1⟩, ⟨qy0, qy1⟩, ⟨qw0, qw1⟩, qh0, qh1⟩ := hqb
  have y0 : -100000000 ≤ q.y := by obtain ⟨_, ⟨a, _⟩, _⟩ := hrb; omega
  have y1 : q.y ≤ 100000000 := by obtain ⟨_, ⟨_, a⟩, _⟩ := hrb; omega
  have z0 : -100000000 ≤ q.x := by obtain ⟨⟨a, _⟩, _⟩ := hrb; omega
  have z1 : q.x ≤ 100000000 := by obtain ⟨⟨_, a⟩, _⟩ := hrb; omega
  clear qx0 qx1 qy0 qy1
  have hm8 : m ≤ 8 := by rw [← hm.out]; exact hv.kids8 hi
  have HLK := Lib.hid (fun k (hk : k < (kdsL zs n (i : Int)).length) => lay_kid hv.par W H hi hk)
  have HK : Hid (∀ k, k < m → lay zs n W H ((kdsL zs n (i : Int)).getD k 0) = ⟨q.x + osR zs n i true q.w k, q.y, (szR zs n i true q.w).getD k 0, q.h⟩) := Lib.hid fun k hk => by
    rw [HLK.out k (by rw [hm.out]; exact hk), hr.out, hq.out]
    unfold kidR
    rw [if_pos hkd]
  have HZB := Lib.hid (szR_bd hv hi true q.w)
  have HZA := Lib.hid (fun k (hk : k < (kdsL zs n (i : Int)).length) => szR_at hv hi true q.w hk)
  have HOB := Lib.hid (fun k (hk : k < (kdsL zs n (i : Int)).length) => osR_bd hv hi true (room := q.w) (by omega) (by omega) hk)
  have HFZ := Lib.hid (fzL_ok hv hi true)
  rw [hm.out] at HA HFZ hm1 ⊢
  obtain ⟨SZ, hSZ⟩ : ∃ SZ, Hid (szR zs n i true q.w = SZ) := ⟨_, Lib.hid rfl⟩
  have hSL : SZ.length = m := by rw [← hSZ.out, szR_len]; exact hm.out
  have HSL := Lib.hid hSL
  obtain ⟨gs, hgs⟩ : ∃ gs, Hid (gapsP zs n i = gs) := ⟨_, Lib.hid rfl⟩
  obtain ⟨sp, hsp⟩ : ∃ sp, Hid (max (q.w - gs) 0 = sp) := ⟨_, Lib.hid rfl⟩
  have HSE : Hid (flL (fzL zs n true (kdsL zs n (i : Int))) m sp = SZ) := Lib.hid (by rw [← hSZ.out]; unfold szR; rw [hm.out, hgs.out, ← hsp.out, Int.max_comm])
  have hgse := hgs.out
  unfold gapsP at hgse
  rw [hm.out] at hgse
  obtain ⟨cz, c1, c2', c3, c4, c5, c6, c7, c8⟩ := at9 (h.tree (by omega)).2 hi
  obtain ⟨x0, h0⟩ : ∃ x, Hid (zs.getD (9 * i) 0 = x) := ⟨_, Lib.hid rfl⟩
  rw [h0.out] at cz
  obtain ⟨x1, h1⟩ : ∃ x, Hid (zs.getD (9 * i + 1) 0 = x) := ⟨_, Lib.hid rfl⟩
  rw [h1.out] at c1
  obtain ⟨x2, h2⟩ : ∃ x, Hid (zs.getD (9 * i + 2) 0 = x) := ⟨_, Lib.hid rfl⟩
  rw [h2.out] at c2'
  obtain ⟨x3, h3⟩ : ∃ x, Hid (zs.getD (9 * i + 3) 0 = x) := ⟨_, Lib.hid rfl⟩
  rw [h3.out] at c3
  obtain ⟨x4, h4⟩ : ∃ x, Hid (zs.getD (9 * i + 4) 0 = x) := ⟨_, Lib.hid rfl⟩
  rw [h4.out] at c4
  obtain ⟨x5, h5⟩ : ∃ x, Hid (gpB zs i = x) := ⟨_, Lib.hid rfl⟩
  rw [show zs.getD (9 * i + 5) 0 = x5 from h5.out] at c5
  obtain ⟨x6, h6⟩ : ∃ x, Hid (zs.getD (9 * i + 6) 0 = x) := ⟨_, Lib.hid rfl⟩
  rw [h6.out] at c6
  obtain ⟨x7, h7⟩ : ∃ x, Hid (zs.getD (9 * i + 7) 0 = x) := ⟨_, Lib.hid rfl⟩
  rw [h7.out] at c7
  obtain ⟨x8, h8⟩ : ∃ x, Hid (jsB zs i = x) := ⟨_, Lib.hid rfl⟩
  rw [show zs.getD (9 * i + 8) 0 = x8 from h8.out] at c8
  rw [h5.out] at hgse
  have b5 : 0 ≤ x5 ∧ x5 ≤ 50 := by rw [← h5.out]; exact o.out.gp
  have b8 : 0 ≤ x8 ∧ x8 ≤ 3 := by rw [← h8.out]; exact o.out.js
  obtain ⟨b50, b51⟩ := b5
  obtain ⟨b80, b81⟩ := b8
  have bgs : 0 ≤ gs ∧ gs ≤ 350 := by
    rw [← hgse]
    have := prod_bd (a := x5) (b := (m : Int) - 1) (M := 50) (N := 7) b50 b51 (by omega) (by omega)
    omega
  obtain ⟨bgs0, bgs1⟩ := bgs
  have tg : IntKind.i64.wrap (x5 * ((m : Int) - 1)) = gs := by rw [hgse]; exact IntWalk.i64_in _ (by omega)
  have TG := Lib.hid tg
  have bsp : 0 ≤ sp ∧ sp ≤ 10000 := by rw [← hsp.out]; omega
  obtain ⟨bsp0, bsp1⟩ := bsp
  have HOE : Hid (∀ k, osR zs n i true q.w k = ofF SZ q.w x5 x8 k) := Lib.hid fun k => by unfold osR; rw [hSZ.out, h5.out, h8.out]
  have hi0 : (0 : Int) ≤ (i : Int) := by omega
  have hin : (i : Int) < (n : Int) := by omega
  have e0 := h.t
  have hmk := made_flex m (by omega)
  clear h hok hA hrb HLK hv hgse tg hSL
  go_enter Try.func73, Try.ntmps73
  go_wp2_with fail
  have E1 := Lib.hid (Bx9.made x0 x1 x2 x3 x4 x5 x6 x7 x8 54 (Below.refl w.heap.size w))
  refine (inner_any gl bt ot n ct bo oo co i r (pdB zs i) _ ((S0.out.below (by omega) ((Below.refl w.heap.size w).alloc (Nat.le_refl _) _)).inS hi (by rw [← hr.out]; exact K0.out)) hi n16 LB0.out o.out.pd.1 o.out.pd.2).mono ?_
  rintro e w1 ⟨rfl, hb⟩
  rw [hq.out]
  have E2 := Lib.hid (E1.out.below hb)
  clear hb E1 cz c1 c2' c3 c4 c5 c6 c7 c8 e0
  obtain ⟨g9, hg9⟩ : ∃ g, Hid (w1.heap.size = g) := ⟨_, Lib.hid rfl⟩
  have hg90 : w.heap.size < g9 := by rw [← hg9.out]; exact E2.out.lt
  go_wp2
  have E3 := Lib.hid ((E2.out.alloc (.cells #[.int .i64 q.x, .int .i64 q.y, .int .i64 q.w, .int .i64 q.h] 25)).alloc (.cells (madeCells #[.int .i64 0, .int .i64 0, .int .i64 0, .int .i64 0, .int .i64 0] (m * 5)) 87))
  have R3 := Lib.hid ((Rm.made w1 q 25).alloc (.cells (madeCells #[.int .i64 0, .int .i64 0, .int .i64 0, .int .i64 0, .int .i64 0] (m * 5)) 87))
  have K3 := Lib.hid (Rk.made0 (w1.alloc (.cells #[.int .i64 q.x, .int .i64 q.y, .int .i64 q.w, .int .i64 q.h] 25)) 5 87 (w1.heap.size + 1) m #[.int .i64 0, .int .i64 0, .int .i64 0, .int .i64 0, .int .i64 0] (by simp) (by omega))
  simp only [World.size_alloc] at K3
  rw [hg9.out] at R3 K3 ⊢
  generalize (w1.alloc (.cells #[.int .i64 q.x, .int .i64 q.y, .int .i64 q.w, .int .i64 q.h] 25)).alloc (.cells (madeCells #[.int .i64 0, .int .i64 0, .int .i64 0, .int .i64 0, .int .i64 0] (m * 5)) 87) = wB at E3 R3 K3 ⊢
  clear E2
  go_loopw [10, 36] (fun v s wr => ∃ (k : Nat) (vv : Value), k ≤ m ∧ s = .int .i64 k ∧ vv = v ∧ Hid (Rk 5 87 (g9 + 1) vv k (fzL zs n true ((kdsL zs n (i : Int)).take k)) wr ∧ Bx9 w w.heap.size x0 x1 x2 x3 x4 x5 x6 x7 x8 wr ∧ Rm g9 ⟨q.x, q.y, q.w, q.h⟩ wr)) (fun _ s _ => m - (intOf s).toNat)
  case atStart => exact ⟨0, _, Nat.zero_le _, rfl, rfl, Lib.hid ⟨K3.out, E3.out, R3.out⟩⟩
  case round =>
    obtain ⟨k, vv, hk, rfl, rfl, hS⟩ := hrel
    clear E3 R3 K3
    by_cases hlt : k < m
    · obtain ⟨ga, gb, gc⟩ := kdsL_at HV.out.par (show k < (kdsL zs n (i : Int)).length by rw [hm.out]; exact hlt)
      obtain ⟨j, hj⟩ : ∃ j, Hid ((kdsL zs n (i : Int)).getD k 0 = j) := ⟨_, Lib.hid rfl⟩
      rw [hj.out] at ga gb
      clear gc
      have HTK : Hid (fzL zs n true ((kdsL zs n (i : Int)).take (k + 1)) = fzL zs n true ((kdsL zs n (i : Int)).take k) ++ [nd zs n true j, 0, 10000, gwB zs j, shB zs j]) := Lib.hid (by rw [fzL_take zs n true (by rw [hm.out]; exact hlt), hj.out])
      have A1 := Lib.hid (HA.out.grown (gb_below hS.out.2.1.bl (some bo)) (fun g e => by injection e with e; omega))
      obtain ⟨b2, o2, rfl, hb2, hb3, hcc⟩ := A1.out.2 (by omega)
      have ck := (hcc k hlt).1
      rw [ki_get (by rw [hm.out]; exact hlt), hj.out] at ck
      clear hcc hb2 hb3 A1
      obtain ⟨Ww, hWw⟩ : ∃ x, Hid (nd zs n true j = x) := ⟨_, Lib.hid rfl⟩
      obtain ⟨G, hG⟩ : ∃ x, Hid (nd zs n false j = x) := ⟨_, Lib.hid rfl⟩
      obtain ⟨v6, hv6⟩ : ∃ x, Hid (gwB zs j = x) := ⟨_, Lib.hid rfl⟩
      obtain ⟨v7, hv7⟩ : ∃ x, Hid (shB zs j = x) := ⟨_, Lib.hid rfl⟩
      rw [hWw.out, hv6.out, hv7.out] at HTK
      have hkm : (k : Int) < (m : Int) := by omega
      have hk0 : (0 : Int) ≤ (k : Int) := by omega
      have hj0 : (0 : Int) ≤ (j : Int) := by omega
      have hjn : (j : Int) < (n : Int) := by omega
      have S1 := Lib.hid (S0.out.below (by omega) hS.out.2.1.bl)
      have e0 := S1.out.t
      go_wp2_with fail
      refine (inat_any _ n ct j zs wr S1.out.rd gb HV.out).mono ?_
      rintro e w2 ⟨rfl, hb⟩
      rw [hWw.out, hG.out]
      have E4 := Lib.hid ((hS.out.2.1.below hb).alloc (.cells #[.int .i64 Ww, .int .i64 G] 72))
      have R4 := Lib.hid ((hS.out.2.2.below hb).alloc (.cells #[.int .i64 Ww, .int .i64 G] 72))
      have K4 := Lib.hid ((hS.out.1.below hb).alloc (.cells #[.int .i64 Ww, .int .i64 G] 72))
      have Z4 := Lib.hid (Sz2.made w2 Ww G 72)
      have hg13 : g9 < w2.heap.size := by have h1 := hb.size; have h2 := hS.out.2.2.lt; omega
      obtain ⟨g13, hg13e⟩ : ∃ g, Hid (w2.heap.size = g) := ⟨_, Lib.hid rfl⟩
      rw [hg13e.out] at Z4 hg13
      have HNB : Hid (∀ r, Value.ownBlock vv = some r → g9 < r ∧ r < g13) := Lib.hid fun r e => by have h1 := hS.out.1.1.lt r e; have h2 := hb.size; have h3 := hg13e.out; omega
      clear ck hb e0 S1
      go_wp2
      rw [hg13e.out]
      generalize w2.alloc (.cells #[.int .i64 Ww, .int .i64 G] 72) = wc at E4 R4 K4 Z4 ⊢
      have S2 := Lib.hid (S0.out.below (by omega) E4.out.bl)
      obtain ⟨_, _, _, _, _, _, t6, t7, _⟩ := at9 (S2.out.tree (by omega)).2 gb
      rw [show zs.getD (9 * j + 6) 0 = v6 from hv6.out] at t6
      rw [show zs.getD (9 * j + 7) 0 = v7 from hv7.out] at t7
      have X4 := Lib.hid (Sx.mk Z4.out.c0 S2.out.t t6 t7)
      clear t6 t7 S2 Z4
      go_region_held3 (fun w' => w'.cell? ⟨g13, 0, none⟩ = some (.int .i64 Ww) ∧ w'.cell? ⟨gl, 0, none⟩ = some (.slice (some ⟨bt, ot, none⟩) n ct) ∧ w'.cell? ⟨bt, ot + j * 9 + 6, none⟩ = some (.int .i64 v6) ∧ w'.cell? ⟨bt, ot + j * 9 + 7, none⟩ = some (.int .i64 v7))
        ((refine Sx.cells ?_; repeat (first | (with_reducible exact X6.out) | (with_reducible exact X4.out) | (with_reducible refine Sx.drew ?_) | (with_reducible refine Sx.alloc ?_ _))))
        ((refine step_appFlex (by rfl) (.tmp 49) (.tmp 69) (by rfl) (g9 + 1) vv k (fzL zs n true ((kdsL zs n (i : Int)).take k)) (by rfl) (by repeat (first | (with_reducible exact K4.out) | (with_reducible refine Rk.drew ?_) | (with_reducible refine Rk.alloc ?_ _))) (by omega) wc.heap.size Ww 0 10000 v6 v7 (by rfl) (by simp [go_sem]) (by simp [go_sem]) (by simp [go_sem]) (by simp [go_sem]) (by simp [go_sem]) ?_; intro v' w5 how hg5; have HO := Lib.hid how; have E6 : Hid (Bx9 w w.heap.size x0 x1 x2 x3 x4 x5 x6 x7 x8 w5) := Lib.hid (Bx9.grownR (by repeat (first | (with_reducible exact E4.out) | (with_reducible refine Bx9.drew ?_) | (with_reducible refine Bx9.alloc ?_ _))) hg5 (fun r e => by have := HNB.out r e; omega)); have R6 : Hid (Rm g9 ⟨q.x, q.y, q.w, q.h⟩ w5) := Lib.hid (Rm.grownR (by repeat (first | (with_reducible exact R4.out) | (with_reducible refine Rm.drew ?_) | (with_reducible refine Rm.alloc ?_ _))) hg5 (fun e => by have := HNB.out g9 e.symm; omega)); have X6 : Hid (Sx g13 gl bt ot n ct j Ww v6 v7 w5) := Lib.hid (Sx.grownR (by repeat (first | (with_reducible exact X4.out) | (with_reducible refine Sx.drew ?_) | (with_reducible refine Sx.alloc ?_ _))) hg5 (fun e => by have := HNB.out g13 e.symm; omega) (fun e => by have := HNB.out gl e.symm; omega) (fun e => by have := HNB.out bt e.symm; omega)); clear how hg5))
      all_goals
        go_wp2
        go_roundw
        case rel => exact ⟨k + 1, _, by omega, by go_num, rfl, Lib.hid ⟨by rw [HTK.out]; exact HO.out, E6.out, R6.out⟩⟩
        case measure => simp [intOf]; omega
    · obtain rfl : k = m := by omega
      have hTA : (kdsL zs n (i : Int)).take k = kdsL zs n (i : Int) := List.take_of_length_le (by rw [hm.out]; exact Nat.le_refl _)
      obtain ⟨A5, c5, hvv, _, _, _, hW5⟩ := hS.out.1.out
      subst hvv
      rw [hTA] at hW5
      have F5 := Lib.hid hW5.rd
      have E3 := Lib.hid hS.out.2.1
      have R3 := Lib.hid hS.out.2.2
      clear hTA hW5 hS
      have k5 := E3.out.c5
      have r2 := R3.out.c2
      dsimp only at r2
      have tg := TG.out
      have tsp := hsp.out
      go_wp2_with fail
      refine (flexed_any A5 k c5 _ sp wr F5.out hm1 hm8 HFZ.out bsp0 (by omega)).mono ?_
      rintro e w4 ⟨A7, m7, c7, rfl, hm7, hW7, hb⟩
      rw [HSE.out] at hW7
      obtain rfl : k = m7 := HSL.out.symm.trans hW7.len
      have E4 := Lib.hid (E3.out.below hb)
      have R4 := Lib.hid (R3.out.below hb)
      have hbow : bo + 1 ≤ wr.heap.size := by have := E3.out.bl.size; omega
      have W7 := Lib.hid (hW7.low hbow)
      clear hW7 hb k5 r2 tg tsp E3 R3 F5 hm7 hbow
      have k5 := E4.out.c5
      have k8 := E4.out.c8
      have r2 := R4.out.c2
      dsimp only at r2
      go_wp2_with fail
      refine (offsets_any A7 k c7 SZ q.w x5 x8 w4 W7.out.rd hm1 hm8 (by rw [← hSZ.out]; exact HZB.out) (by omega) (by omega) b50 b51 b80 b81).mono ?_
      rintro e w5 ⟨A8, m8, c8, rfl, hm8', hW8, hb⟩
      obtain rfl : k = m8 := (mk_len _ _).symm.trans hW8.len
      have GB5 := Lib.hid (gb_below (E4.out.bl.trans (hb.mono E4.out.bl.size)) (some bo))
      have R5 := Lib.hid (R4.out.below hb)
      have W75 := Lib.hid (W7.out.below hb)
      have W85 := Lib.hid (hW8.low (show bo + 1 ≤ w4.heap.size by have := E4.out.bl.size; omega))
      have WO5 := Lib.hid (S0.out.wr.below (E4.out.bl.trans (hb.mono E4.out.bl.size)))
      clear hW8 hb k5 k8 r2 E4 R4 W7 hm8'
      go_wp2
      go_loopw [93] (fun s wr => ∃ z : Nat, z ≤ k ∧ s = .int .i64 z ∧ Hid (w.grownBy wr (some bo) ∧ Rm g9 ⟨q.x, q.y, q.w, q.h⟩ wr ∧ Wr wr (bo + 1) A7 k SZ ∧ Wr wr (bo + 1) A8 k (mk k (ofF SZ q.w x5 x8)) ∧ ∃ ys', Wr wr lo (some ⟨bo, oo, none⟩) (4 * n) ys' ∧ (∀ j, j < n → OkA zs n W H ys j → OkA zs n W H ys' j) ∧ ∀ t, t < z → OkA zs n W H ys' ((kdsL zs n (i : Int)).getD t 0))) (fun s _ => k - (intOf s).toNat)
      case atStart => exact ⟨0, Nat.zero_le _, rfl, Lib.hid ⟨GB5.out, R5.out, W75.out, W85.out, ys, WO5.out, fun _ _ h => h, fun t ht => absurd ht (by omega)⟩⟩
      case round =>
        obtain ⟨z, hz, rfl, hS⟩ := hrel
        clear GB5 R5 W75 W85 WO5
        by_cases hlt2 : z < k
        · obtain ⟨ys1, hys⟩ : ∃ ys1, Hid (Wr wr lo (some ⟨bo, oo, none⟩) (4 * n) ys1 ∧ (∀ j, j < n → OkA zs n W H ys j → OkA zs n W H ys1 j) ∧ ∀ t, t < z → OkA zs n W H ys1 ((kdsL zs n (i : Int)).getD t 0)) := hS.out.2.2.2.2
          obtain ⟨ga, gb, gc⟩ := kdsL_at HV.out.par (show z < (kdsL zs n (i : Int)).length by rw [hm.out]; exact hlt2)
          have hzb := HZA.out z (by rw [hm.out]; exact hlt2)
          have hob := HOB.out z (by rw [hm.out]; exact hlt2)
          have HKz := Lib.hid (HK.out z hlt2)
          obtain ⟨j, hj⟩ : ∃ j, Hid ((kdsL zs n (i : Int)).getD z 0 = j) := ⟨_, Lib.hid rfl⟩
          rw [hj.out] at ga gb HKz
          rw [HOE.out z] at hob HKz
          rw [hSZ.out] at hzb HKz
          obtain ⟨Zv, hZv⟩ : ∃ x, Hid (SZ.getD z 0 = x) := ⟨_, Lib.hid rfl⟩
          obtain ⟨O, hO⟩ : ∃ x, Hid (ofF SZ q.w x5 x8 z = x) := ⟨_, Lib.hid rfl⟩
          rw [hZv.out] at hzb HKz
          rw [hO.out] at hob HKz
          obtain ⟨hzb0, hzb1⟩ := hzb
          obtain ⟨hob0, hob1⟩ := hob
          obtain ⟨b7, o7, rfl, _, _, hc7⟩ := hS.out.2.2.1.2 (by omega)
          have ck7 := (hc7 z hlt2).1
          rw [hZv.out] at ck7
          obtain ⟨b8, o8, rfl, _, _, hc8⟩ := hS.out.2.2.2.1.2 (by omega)
          have ck8 := (hc8 z hlt2).1
          rw [mk_getD _ _ _ hlt2, hO.out] at ck8
          clear hc7 hc8 gc
          have r0 := hS.out.2.1.c0
          have r1 := hS.out.2.1.c1
          have r3 := hS.out.2.1.c3
          dsimp only at r0 r1 r3
          have hz0 : (0 : Int) ≤ (z : Int) := by omega
          have hzk : (z : Int) < (k : Int) := by omega
          have hj0 : (0 : Int) ≤ (j : Int) := by omega
          have hjn : (j : Int) < (n : Int) := by omega
          go_wp2
          have X2 := Lib.hid (mk_c4v r0 r1 ck7 r3)
          have two : IntKind.i64.wrap (q.x + O) = q.x + O := IntWalk.i64_in _ (by omega)
          go_region_held3 (fun w' => w'.cell? ⟨g9, 0, none⟩ = some (.int .i64 q.x) ∧ w'.cell? ⟨g9, 1, none⟩ = some (.int .i64 q.y) ∧ w'.cell? ⟨b7, o7 + z, none⟩ = some (.int .i64 Zv) ∧ w'.cell? ⟨g9, 3, none⟩ = some (.int .i64 q.h))
            ((refine C4v.cells ?_; repeat (first | (with_reducible exact X2.out) | (with_reducible refine C4v.drew ?_) | (with_reducible refine C4v.alloc ?_ _))))
            (fail)
          have GB2 := Lib.hid hS.out.1
          have R2 := Lib.hid hS.out.2.1
          have W72 := Lib.hid hS.out.2.2.1
          have W82 := Lib.hid hS.out.2.2.2.1
          have WO2 := Lib.hid hys.out.1
          clear r0 r1 r3 ck7 ck8 hS X2 two
          obtain ⟨g17, hg17⟩ : ∃ g, Hid (wr.heap.size = g) := ⟨_, Lib.hid rfl⟩
          go_wp2
          have BX := Lib.hid ((Below.refl wr.heap.size wr).alloc (Nat.le_refl _) (.cells #[.int .i64 (q.x + O), .int .i64 q.y, .int .i64 Zv, .int .i64 q.h] 25)).drew
          have RR := Lib.hid (Rm.made wr ⟨q.x + O, q.y, Zv, q.h⟩ 25).drew
          dsimp only at RR
          rw [hg17.out] at RR ⊢
          generalize (wr.alloc (.cells #[.int .i64 (q.x + O), .int .i64 q.y, .int .i64 Zv, .int .i64 q.h] 25)).drew = wd at BX RR ⊢
          have GB3 := Lib.hid (gb_trans GB2.out (gb_below BX.out _))
          have R3 := Lib.hid (R2.out.below BX.out)
          have W73 := Lib.hid (W72.out.below BX.out)
          have W83 := Lib.hid (W82.out.below BX.out)
          have WO3 := Lib.hid (WO2.out.below BX.out)
          clear GB2 R2 W72 W82 WO2 BX hg17
          have S3 := Lib.hid (S0.out.grown (by omega) GB3.out WO3.out)
          have A1 := Lib.hid (HA.out.grown GB3.out (fun g e => by injection e with e; omega))
          obtain ⟨b2, o2, rfl, _, _, hcc⟩ := A1.out.2 (by omega)
          have ck := (hcc z hlt2).1
          rw [ki_get (by rw [hm.out]; exact hlt2), hj.out] at ck
          clear hcc A1
          have e1 := S3.out.l
          have r0 := RR.out.c0
          have r1 := RR.out.c1
          have r2 := RR.out.c2
          have r3 := RR.out.c3
          dsimp only at r0 r1 r2 r3
          go_still_tail 10, (by kernel_rfl)
          change wpList _ _ _ _ _ wd.drew
          have GB4 := Lib.hid (gb_drew GB3.out)
          have R4 := Lib.hid R3.out.drew
          have W74 := Lib.hid W73.out.drew
          have W84 := Lib.hid W83.out.drew
          have WO4 := Lib.hid WO3.out.drew
          clear ck e1 r0 r1 r2 r3 GB3 R3 W73 W83 WO3 S3 RR
          generalize wd.drew = we at GB4 R4 W74 W84 WO4 ⊢
          obtain ⟨_, _, ⟨d0, f0⟩, ⟨d1, f1⟩, ⟨d2, f2⟩, ⟨d3, f3⟩⟩ := WO4.out.at_4 gb
          obtain ⟨u0, hu0⟩ : ∃ u, Hid (ys1.getD (4 * j) 0 = u) := ⟨_, Lib.hid rfl⟩
          rw [hu0.out] at d0
          obtain ⟨u1, hu1⟩ : ∃ u, Hid (ys1.getD (4 * j + 1) 0 = u) := ⟨_, Lib.hid rfl⟩
          rw [hu1.out] at d1
          obtain ⟨u2, hu2⟩ : ∃ u, Hid (ys1.getD (4 * j + 2) 0 = u) := ⟨_, Lib.hid rfl⟩
          rw [hu2.out] at d2
          obtain ⟨u3, hu3⟩ : ∃ u, Hid (ys1.getD (4 * j + 3) 0 = u) := ⟨_, Lib.hid rfl⟩
          rw [hu3.out] at d3
          refine wpList_plain rfl fun K hK => ?_
          go_simp
          refine hK _ _ ?_
          clear hK K d0 d1 d2 d3 f0 f1 f2 f3
          have GX := Lib.hid (gb_set4 (o0 := oo + j * 4) (o1 := oo + j * 4 + 1) (o2 := oo + j * 4 + 2) (o3 := oo + j * 4 + 3) (World.grownBy.refl we (some bo)) (.int .i64 (q.x + O)) (.int .i64 q.y) (.int .i64 Zv) (.int .i64 q.h))
          have WO5 := Lib.hid (WO4.out.putR gb ⟨q.x + O, q.y, Zv, q.h⟩)
          dsimp only at WO5
          generalize (((we.setCell ⟨bo, oo + j * 4, none⟩ (.int .i64 (q.x + O))).setCell ⟨bo, oo + j * 4 + 1, none⟩ (.int .i64 q.y)).setCell ⟨bo, oo + j * 4 + 2, none⟩ (.int .i64 Zv)).setCell ⟨bo, oo + j * 4 + 3, none⟩ (.int .i64 q.h) = wf at GX WO5 ⊢
          have GB5 := Lib.hid (gb_trans GB4.out GX.out)
          have R5 := Lib.hid (R4.out.grown GX.out (by omega))
          have W75 := Lib.hid (W74.out.grown GX.out (fun g e => by injection e with e; omega))
          have W85 := Lib.hid (W84.out.grown GX.out (fun g e => by injection e with e; omega))
          go_wp2
          go_roundw
          case rel =>
            refine ⟨z + 1, by omega, by go_num, Lib.hid ⟨GB5.out, R5.out, W75.out, W85.out, putR n ys1 j (lay zs n W H j), by rw [HKz.out]; exact WO5.out, fun t ht ht' => (hys.out.2.1 t ht ht').put ht gb, fun t ht => ?_⟩⟩
            rcases Nat.lt_or_ge t z with h4 | h4
            · exact OkA.put (hys.out.2.2 t h4) (kdsL_at HV.out.par (show t < (kdsL zs n (i : Int)).length by rw [hm.out]; omega)).2.1 gb
            · obtain rfl : t = z := by omega
              rw [hj.out]
              exact OkA.here gb
          case measure => simp [intOf]; omega
        · obtain rfl : k = z := by omega
          go_wp2
          go_end0
          obtain ⟨_, _, _, _, ys1, h4, h5, h6⟩ := hS.out
          exact ⟨rfl, hS.out.1, ys1, h4, h5, fun t ht => h6 t (by rw [← hm.out]; exact ht)⟩
set_option maxRecDepth 100000 in
set_option maxHeartbeats 16000000 in
theorem line_col (zs : List Int) (n gl bt ot ct bo oo co lo i : Nat) (W H : Int) (ys : List Int) (A2 : Option Addr) (c2 : Nat) (w : World) (hv : VT zs n) (hW : 0 ≤ W ∧ W ≤ 10000) (hH : 0 ≤ H ∧ H ≤ 10000) (hi : i < n) (h : LyS zs n gl bt ot ct bo oo co lo ys w) (hok : OkA zs n W H ys i) (hA : Wr w (bo + 1) A2 (kdsL zs n (i : Int)).length (ki (kdsL zs n (i : Int)))) (hkd : kdB zs i = 3) (hm1 : 1 ≤ (kdsL zs n (i : Int)).length) :
    Calls Try.prog 73 #[.pointer (some ⟨gl, 0, none⟩), .int .i64 i, .slice A2 (kdsL zs n (i : Int)).length c2, .bool true] w (Laid zs n W H bo oo lo (kdsL zs n (i : Int)) ys w) := by
  have HV := Lib.hid hv
  have S0 := Lib.hid h
  have K0 := Lib.hid hok
  have HA := Lib.hid hA
  have n16 := hv.few
  have n1 := hv.one
  have LB0 := Lib.hid (lay_bd hv hW hH i hi)
  have o := Lib.hid (hv.ok hi)
  have hbo : bo < w.heap.size := by
    obtain ⟨b, oo', e, _, hb, _⟩ := h.wr.2 (by omega)
    injection e with e
    injection e with e1
    omega
  have hgl := lt_of_cell h.t
  dsimp only at hgl
  have hbt := (h.tree (by omega)).1
  have g1 := h.g1
  have g2 := h.g2
  obtain ⟨r, hr⟩ : ∃ r, Hid (lay zs n W H i = r) := ⟨_, Lib.hid rfl⟩
  obtain ⟨q, hq⟩ : ∃ q, Hid (r.inn (pdB zs i) = q) := ⟨_, Lib.hid rfl⟩
  obtain ⟨m, hm⟩ : ∃ m, Hid ((kdsL zs n (i : Int)).length = m) := ⟨_, Lib.hid rfl⟩
  rw [hr.out] at LB0
  have hqb := inn_bd LB0.out o.out.pd.1 o.out.pd.2
  have hrb := LB0.out
  rw [hq.out] at hqb
  obtain ⟨⟨qx0, qx1⟩, ⟨qy0, qy1⟩, ⟨qw0, qw1⟩, qh0, qh1⟩ := hqb
  have y0 : -100000000 ≤ q.y := by obtain ⟨_, ⟨a, _⟩, _⟩ := hrb; omega
  have y1 : q.y ≤ 100000000 := by obtain ⟨_, ⟨_, a⟩, _⟩ := hrb; omega
  have z0 : -100000000 ≤ q.x := by obtain ⟨⟨a, _⟩, _⟩ := hrb; omega
  have z1 : q.x ≤ 100000000 := by obtain ⟨⟨_, a⟩, _⟩ := hrb; omega
  clear qx0 qx1 qy0 qy1
  have hm8 : m ≤ 8 := by rw [← hm.out]; exact hv.kids8 hi
  have HLK := Lib.hid (fun k (hk : k < (kdsL zs n (i : Int)).length) => lay_kid hv.par W H hi hk)
  have HK : Hid (∀ k, k < m → lay zs n W H ((kdsL zs n (i : Int)).getD k 0) = ⟨q.x, q.y + osR zs n i false q.h k, q.w, (szR zs n i false q.h).getD k 0⟩) := Lib.hid fun k hk => by
    rw [HLK.out k (by rw [hm.out]; exact hk), hr.out, hq.out]
    unfold kidR
    rw [if_neg (by omega), if_pos hkd]
  have HZB := Lib.hid (szR_bd hv hi false q.h)
  have HZA := Lib.hid (fun k (hk : k < (kdsL zs n (i : Int)).length) => szR_at hv hi false q.h hk)
  have HOB := Lib.hid (fun k (hk : k < (kdsL zs n (i : Int)).length) => osR_bd hv hi false (room := q.h) (by omega) (by omega) hk)
  have HFZ := Lib.hid (fzL_ok hv hi false)
  rw [hm.out] at HA HFZ hm1 ⊢
  obtain ⟨SZ, hSZ⟩ : ∃ SZ, Hid (szR zs n i false q.h = SZ) := ⟨_, Lib.hid rfl⟩
  have hSL : SZ.length = m := by rw [← hSZ.out, szR_len]; exact hm.out
  have HSL := Lib.hid hSL
  obtain ⟨gs, hgs⟩ : ∃ gs, Hid (gapsP zs n i = gs) := ⟨_, Lib.hid rfl⟩
  obtain ⟨sp, hsp⟩ : ∃ sp, Hid (max (q.h - gs) 0 = sp) := ⟨_, Lib.hid rfl⟩
  have HSE : Hid (flL (fzL zs n false (kdsL zs n (i : Int))) m sp = SZ) := Lib.hid (by rw [← hSZ.out]; unfold szR; rw [hm.out, hgs.out, ← hsp.out, Int.max_comm])
  have hgse := hgs.out
  unfold gapsP at hgse
  rw [hm.out] at hgse
  obtain ⟨cz, c1, c2', c3, c4, c5, c6, c7, c8⟩ := at9 (h.tree (by omega)).2 hi
  obtain ⟨x0, h0⟩ : ∃ x, Hid (zs.getD (9 * i) 0 = x) := ⟨_, Lib.hid rfl⟩
  rw [h0.out] at cz
  obtain ⟨x1, h1⟩ : ∃ x, Hid (zs.getD (9 * i + 1) 0 = x) := ⟨_, Lib.hid rfl⟩
  rw [h1.out] at c1
  obtain ⟨x2, h2⟩ : ∃ x, Hid (zs.getD (9 * i + 2) 0 = x) := ⟨_, Lib.hid rfl⟩
  rw [h2.out] at c2'
  obtain ⟨x3, h3⟩ : ∃ x, Hid (zs.getD (9 * i + 3) 0 = x) := ⟨_, Lib.hid rfl⟩
  rw [h3.out] at c3
  obtain ⟨x4, h4⟩ : ∃ x, Hid (zs.getD (9 * i + 4) 0 = x) := ⟨_, Lib.hid rfl⟩
  rw [h4.out] at c4
  obtain ⟨x5, h5⟩ : ∃ x, Hid (gpB zs i = x) := ⟨_, Lib.hid rfl⟩
  rw [show zs.getD (9 * i + 5) 0 = x5 from h5.out] at c5
  obtain ⟨x6, h6⟩ : ∃ x, Hid (zs.getD (9 * i + 6) 0 = x) := ⟨_, Lib.hid rfl⟩
  rw [h6.out] at c6
  obtain ⟨x7, h7⟩ : ∃ x, Hid (zs.getD (9 * i + 7) 0 = x) := ⟨_, Lib.hid rfl⟩
  rw [h7.out] at c7
  obtain ⟨x8, h8⟩ : ∃ x, Hid (jsB zs i = x) := ⟨_, Lib.hid rfl⟩
  rw [show zs.getD (9 * i + 8) 0 = x8 from h8.out] at c8
  rw [h5.out] at hgse
  have b5 : 0 ≤ x5 ∧ x5 ≤ 50 := by rw [← h5.out]; exact o.out.gp
  have b8 : 0 ≤ x8 ∧ x8 ≤ 3 := by rw [← h8.out]; exact o.out.js
  obtain ⟨b50, b51⟩ := b5
  obtain ⟨b80, b81⟩ := b8
  have bgs : 0 ≤ gs ∧ gs ≤ 350 := by
    rw [← hgse]
    have := prod_bd (a := x5) (b := (m : Int) - 1) (M := 50) (N := 7) b50 b51 (by omega) (by omega)
    omega
  obtain ⟨bgs0, bgs1⟩ := bgs
  have tg : IntKind.i64.wrap (x5 * ((m : Int) - 1)) = gs := by rw [hgse]; exact IntWalk.i64_in _ (by omega)
  have TG := Lib.hid tg
  have bsp : 0 ≤ sp ∧ sp ≤ 10000 := by rw [← hsp.out]; omega
  obtain ⟨bsp0, bsp1⟩ := bsp
  have HOE : Hid (∀ k, osR zs n i false q.h k = ofF SZ q.h x5 x8 k) := Lib.hid fun k => by unfold osR; rw [hSZ.out, h5.out, h8.out]
  have hi0 : (0 : Int) ≤ (i : Int) := by omega
  have hin : (i : Int) < (n : Int) := by omega
  have e0 := h.t
  have hmk := made_flex m (by omega)
  clear h hok hA hrb HLK hv hgse tg hSL
  go_enter Try.func73, Try.ntmps73
  go_wp2_with fail
  have E1 := Lib.hid (Bx9.made x0 x1 x2 x3 x4 x5 x6 x7 x8 54 (Below.refl w.heap.size w))
  refine (inner_any gl bt ot n ct bo oo co i r (pdB zs i) _ ((S0.out.below (by omega) ((Below.refl w.heap.size w).alloc (Nat.le_refl _) _)).inS hi (by rw [← hr.out]; exact K0.out)) hi n16 LB0.out o.out.pd.1 o.out.pd.2).mono ?_
  rintro e w1 ⟨rfl, hb⟩
  rw [hq.out]
  have E2 := Lib.hid (E1.out.below hb)
  clear hb E1 cz c1 c2' c3 c4 c5 c6 c7 c8 e0
  obtain ⟨g9, hg9⟩ : ∃ g, Hid (w1.heap.size = g) := ⟨_, Lib.hid rfl⟩
  have hg90 : w.heap.size < g9 := by rw [← hg9.out]; exact E2.out.lt
  go_wp2_with fail
  have E2a := Lib.hid (E2.out.alloc (.cells #[.int .i64 q.x, .int .i64 q.y, .int .i64 q.w, .int .i64 q.h] 25))
  have R2a := Lib.hid (Rm.made w1 q 25)
  refine (turnR_any q.x q.y q.w q.h _).mono ?_
  rintro e w1t ⟨rfl, hb⟩
  have E2b := Lib.hid (E2a.out.below hb)
  have R2b := Lib.hid (R2a.out.below hb)
  rw [hg9.out] at R2b ⊢
  clear hb E2a R2a
  have a0 := R2b.out.c0
  have a1 := R2b.out.c1
  have a2 := R2b.out.c2
  have a3 := R2b.out.c3
  have f0 := R2b.out.f0
  have f1 := R2b.out.f1
  have f2 := R2b.out.f2
  have f3 := R2b.out.f3
  go_wp2
  clear a0 a1 a2 a3 f0 f1 f2 f3
  have E3 := Lib.hid ((E2b.out.far4 (b := g9) (o0 := 0) (o1 := 1) (o2 := 2) (o3 := 3) (by omega) (by omega) (.int .i64 q.y) (.int .i64 q.x) (.int .i64 q.h) (.int .i64 q.w)).alloc (.cells (madeCells #[.int .i64 0, .int .i64 0, .int .i64 0, .int .i64 0, .int .i64 0] (m * 5)) 87))
  have R3 := Lib.hid ((R2b.out.set q.y q.x q.h q.w).alloc (.cells (madeCells #[.int .i64 0, .int .i64 0, .int .i64 0, .int .i64 0, .int .i64 0] (m * 5)) 87))
  have K3 := Lib.hid (Rk.made0 ((((w1t.setCell ⟨g9, 0, none⟩ (.int .i64 q.y)).setCell ⟨g9, 1, none⟩ (.int .i64 q.x)).setCell ⟨g9, 2, none⟩ (.int .i64 q.h)).setCell ⟨g9, 3, none⟩ (.int .i64 q.w)) 5 87 (g9 + 1) m #[.int .i64 0, .int .i64 0, .int .i64 0, .int .i64 0, .int .i64 0] (by have := R2b.out.lt; simp [World.setCell]; omega) (by omega))
  rw [show ((((w1t.setCell ⟨g9, 0, none⟩ (.int .i64 q.y)).setCell ⟨g9, 1, none⟩ (.int .i64 q.x)).setCell ⟨g9, 2, none⟩ (.int .i64 q.h)).setCell ⟨g9, 3, none⟩ (.int .i64 q.w)).heap.size = w1t.heap.size by simp [World.setCell]] at K3
  generalize ((((w1t.setCell ⟨g9, 0, none⟩ (.int .i64 q.y)).setCell ⟨g9, 1, none⟩ (.int .i64 q.x)).setCell ⟨g9, 2, none⟩ (.int .i64 q.h)).setCell ⟨g9, 3, none⟩ (.int .i64 q.w)).alloc (.cells (madeCells #[.int .i64 0, .int .i64 0, .int .i64 0, .int .i64 0, .int .i64 0] (m * 5)) 87) = wB at E3 R3 K3 ⊢
  clear E2
  go_loopw [10, 36] (fun v s wr => ∃ (k : Nat) (vv : Value), k ≤ m ∧ s = .int .i64 k ∧ vv = v ∧ Hid (Rk 5 87 (g9 + 1) vv k (fzL zs n false ((kdsL zs n (i : Int)).take k)) wr ∧ Bx9 w w.heap.size x0 x1 x2 x3 x4 x5 x6 x7 x8 wr ∧ Rm g9 ⟨q.y, q.x, q.h, q.w⟩ wr)) (fun _ s _ => m - (intOf s).toNat)
  case atStart => exact ⟨0, _, Nat.zero_le _, rfl, rfl, Lib.hid ⟨K3.out, E3.out, R3.out⟩⟩
  case round =>
    obtain ⟨k, vv, hk, rfl, rfl, hS⟩ := hrel
    clear E3 R3 K3
    by_cases hlt : k < m
    · obtain ⟨ga, gb, gc⟩ := kdsL_at HV.out.par (show k < (kdsL zs n (i : Int)).length by rw [hm.out]; exact hlt)
      obtain ⟨j, hj⟩ : ∃ j, Hid ((kdsL zs n (i : Int)).getD k 0 = j) := ⟨_, Lib.hid rfl⟩
      rw [hj.out] at ga gb
      clear gc
      have HTK : Hid (fzL zs n false ((kdsL zs n (i : Int)).take (k + 1)) = fzL zs n false ((kdsL zs n (i : Int)).take k) ++ [nd zs n false j, 0, 10000, gwB zs j, shB zs j]) := Lib.hid (by rw [fzL_take zs n false (by rw [hm.out]; exact hlt), hj.out])
      have A1 := Lib.hid (HA.out.grown (gb_below hS.out.2.1.bl (some bo)) (fun g e => by injection e with e; omega))
      obtain ⟨b2, o2, rfl, hb2, hb3, hcc⟩ := A1.out.2 (by omega)
      have ck := (hcc k hlt).1
      rw [ki_get (by rw [hm.out]; exact hlt), hj.out] at ck
      clear hcc hb2 hb3 A1
      obtain ⟨Ww, hWw⟩ : ∃ x, Hid (nd zs n true j = x) := ⟨_, Lib.hid rfl⟩
      obtain ⟨G, hG⟩ : ∃ x, Hid (nd zs n false j = x) := ⟨_, Lib.hid rfl⟩
      obtain ⟨v6, hv6⟩ : ∃ x, Hid (gwB zs j = x) := ⟨_, Lib.hid rfl⟩
      obtain ⟨v7, hv7⟩ : ∃ x, Hid (shB zs j = x) := ⟨_, Lib.hid rfl⟩
      rw [hG.out, hv6.out, hv7.out] at HTK
      have hkm : (k : Int) < (m : Int) := by omega
      have hk0 : (0 : Int) ≤ (k : Int) := by omega
      have hj0 : (0 : Int) ≤ (j : Int) := by omega
      have hjn : (j : Int) < (n : Int) := by omega
      have S1 := Lib.hid (S0.out.below (by omega) hS.out.2.1.bl)
      have e0 := S1.out.t
      go_wp2_with fail
      refine (inat_any _ n ct j zs wr S1.out.rd gb HV.out).mono ?_
      rintro e w2 ⟨rfl, hb⟩
      rw [hWw.out, hG.out]
      have E4 := Lib.hid ((hS.out.2.1.below hb).alloc (.cells #[.int .i64 Ww, .int .i64 G] 72))
      have R4 := Lib.hid ((hS.out.2.2.below hb).alloc (.cells #[.int .i64 Ww, .int .i64 G] 72))
      have K4 := Lib.hid ((hS.out.1.below hb).alloc (.cells #[.int .i64 Ww, .int .i64 G] 72))
      have Z4 := Lib.hid (Sz2.made w2 Ww G 72)
      have hg13 : g9 < w2.heap.size := by have h1 := hb.size; have h2 := hS.out.2.2.lt; omega
      obtain ⟨g13, hg13e⟩ : ∃ g, Hid (w2.heap.size = g) := ⟨_, Lib.hid rfl⟩
      rw [hg13e.out] at Z4 hg13
      have HNB : Hid (∀ r, Value.ownBlock vv = some r → g9 < r ∧ r < g13) := Lib.hid fun r e => by have h1 := hS.out.1.1.lt r e; have h2 := hb.size; have h3 := hg13e.out; omega
      clear ck hb e0 S1
      go_wp2_with fail
      refine (turnS_any Ww G _).mono ?_
      rintro e w3 ⟨rfl, hb⟩
      rw [hg13e.out]
      have E5 := Lib.hid (E4.out.below hb)
      have R5 := Lib.hid (R4.out.below hb)
      have K5 := Lib.hid (K4.out.below hb)
      have Z5 := Lib.hid (Z4.out.below hb)
      clear hb E4 R4 K4 Z4
      have a0 := Z5.out.c0
      have a1 := Z5.out.c1
      have f0 := Z5.out.f0
      have f1 := Z5.out.f1
      go_wp2
      clear a0 a1 f0 f1
      have E4 := Lib.hid (E5.out.far2 (b := g13) (o0 := 0) (o1 := 1) (by omega) (by omega) (.int .i64 G) (.int .i64 Ww))
      have R4 := Lib.hid ((R5.out.far (p := ⟨g13, 0, none⟩) (by show ¬ g9 = g13; omega) (.int .i64 G)).far (p := ⟨g13, 1, none⟩) (by show ¬ g9 = g13; omega) (.int .i64 Ww))
      have Z4 := Lib.hid (Z5.out.set G Ww)
      have K4 := Lib.hid ((K5.out.far (p := ⟨g13, 0, none⟩) (fun r e => (HNB.out r e).2) (.int .i64 G)).far (p := ⟨g13, 1, none⟩) (fun r e => (HNB.out r e).2) (.int .i64 Ww))
      generalize (w3.setCell ⟨g13, 0, none⟩ (.int .i64 G)).setCell ⟨g13, 1, none⟩ (.int .i64 Ww) = wc at E4 R4 K4 Z4 ⊢
      clear E5 R5 K5 Z5
      have S2 := Lib.hid (S0.out.below (by omega) E4.out.bl)
      obtain ⟨_, _, _, _, _, _, t6, t7, _⟩ := at9 (S2.out.tree (by omega)).2 gb
      rw [show zs.getD (9 * j + 6) 0 = v6 from hv6.out] at t6
      rw [show zs.getD (9 * j + 7) 0 = v7 from hv7.out] at t7
      have X4 := Lib.hid (Sx.mk Z4.out.c0 S2.out.t t6 t7)
      clear t6 t7 S2 Z4
      go_region_held3 (fun w' => w'.cell? ⟨g13, 0, none⟩ = some (.int .i64 G) ∧ w'.cell? ⟨gl, 0, none⟩ = some (.slice (some ⟨bt, ot, none⟩) n ct) ∧ w'.cell? ⟨bt, ot + j * 9 + 6, none⟩ = some (.int .i64 v6) ∧ w'.cell? ⟨bt, ot + j * 9 + 7, none⟩ = some (.int .i64 v7))
        ((refine Sx.cells ?_; repeat (first | (with_reducible exact X6.out) | (with_reducible exact X4.out) | (with_reducible refine Sx.drew ?_) | (with_reducible refine Sx.alloc ?_ _))))
        ((refine step_appFlex (by rfl) (.tmp 49) (.tmp 69) (by rfl) (g9 + 1) vv k (fzL zs n false ((kdsL zs n (i : Int)).take k)) (by rfl) (by repeat (first | (with_reducible exact K4.out) | (with_reducible refine Rk.drew ?_) | (with_reducible refine Rk.alloc ?_ _))) (by omega) wc.heap.size G 0 10000 v6 v7 (by rfl) (by simp [go_sem]) (by simp [go_sem]) (by simp [go_sem]) (by simp [go_sem]) (by simp [go_sem]) ?_; intro v' w5 how hg5; have HO := Lib.hid how; have E6 : Hid (Bx9 w w.heap.size x0 x1 x2 x3 x4 x5 x6 x7 x8 w5) := Lib.hid (Bx9.grownR (by repeat (first | (with_reducible exact E4.out) | (with_reducible refine Bx9.drew ?_) | (with_reducible refine Bx9.alloc ?_ _))) hg5 (fun r e => by have := HNB.out r e; omega)); have R6 : Hid (Rm g9 ⟨q.y, q.x, q.h, q.w⟩ w5) := Lib.hid (Rm.grownR (by repeat (first | (with_reducible exact R4.out) | (with_reducible refine Rm.drew ?_) | (with_reducible refine Rm.alloc ?_ _))) hg5 (fun e => by have := HNB.out g9 e.symm; omega)); have X6 : Hid (Sx g13 gl bt ot n ct j G v6 v7 w5) := Lib.hid (Sx.grownR (by repeat (first | (with_reducible exact X4.out) | (with_reducible refine Sx.drew ?_) | (with_reducible refine Sx.alloc ?_ _))) hg5 (fun e => by have := HNB.out g13 e.symm; omega) (fun e => by have := HNB.out gl e.symm; omega) (fun e => by have := HNB.out bt e.symm; omega)); clear how hg5))
      all_goals
        go_wp2
        go_roundw
        case rel => exact ⟨k + 1, _, by omega, by go_num, rfl, Lib.hid ⟨by rw [HTK.out]; exact HO.out, E6.out, R6.out⟩⟩
        case measure => simp [intOf]; omega
    · obtain rfl : k = m := by omega
      have hTA : (kdsL zs n (i : Int)).take k = kdsL zs n (i : Int) := List.take_of_length_le (by rw [hm.out]; exact Nat.le_refl _)
      obtain ⟨A5, c5, hvv, _, _, _, hW5⟩ := hS.out.1.out
      subst hvv
      rw [hTA] at hW5
      have F5 := Lib.hid hW5.rd
      have E3 := Lib.hid hS.out.2.1
      have R3 := Lib.hid hS.out.2.2
      clear hTA hW5 hS
      have k5 := E3.out.c5
      have r2 := R3.out.c2
      dsimp only at r2
      have tg := TG.out
      have tsp := hsp.out
      go_wp2_with fail
      refine (flexed_any A5 k c5 _ sp wr F5.out hm1 hm8 HFZ.out bsp0 (by omega)).mono ?_
      rintro e w4 ⟨A7, m7, c7, rfl, hm7, hW7, hb⟩
      rw [HSE.out] at hW7
      obtain rfl : k = m7 := HSL.out.symm.trans hW7.len
      have E4 := Lib.hid (E3.out.below hb)
      have R4 := Lib.hid (R3.out.below hb)
      have hbow : bo + 1 ≤ wr.heap.size := by have := E3.out.bl.size; omega
      have W7 := Lib.hid (hW7.low hbow)
      clear hW7 hb k5 r2 tg tsp E3 R3 F5 hm7 hbow
      have k5 := E4.out.c5
      have k8 := E4.out.c8
      have r2 := R4.out.c2
      dsimp only at r2
      go_wp2_with fail
      refine (offsets_any A7 k c7 SZ q.h x5 x8 w4 W7.out.rd hm1 hm8 (by rw [← hSZ.out]; exact HZB.out) (by omega) (by omega) b50 b51 b80 b81).mono ?_
      rintro e w5 ⟨A8, m8, c8, rfl, hm8', hW8, hb⟩
      obtain rfl : k = m8 := (mk_len _ _).symm.trans hW8.len
      have GB5 := Lib.hid (gb_below (E4.out.bl.trans (hb.mono E4.out.bl.size)) (some bo))
      have R5 := Lib.hid (R4.out.below hb)
      have W75 := Lib.hid (W7.out.below hb)
      have W85 := Lib.hid (hW8.low (show bo + 1 ≤ w4.heap.size by have := E4.out.bl.size; omega))
      have WO5 := Lib.hid (S0.out.wr.below (E4.out.bl.trans (hb.mono E4.out.bl.size)))
      clear hW8 hb k5 k8 r2 E4 R4 W7 hm8'
      go_wp2
      go_loopw [93] (fun s wr => ∃ z : Nat, z ≤ k ∧ s = .int .i64 z ∧ Hid (w.grownBy wr (some bo) ∧ Rm g9 ⟨q.y, q.x, q.h, q.w⟩ wr ∧ Wr wr (bo + 1) A7 k SZ ∧ Wr wr (bo + 1) A8 k (mk k (ofF SZ q.h x5 x8)) ∧ ∃ ys', Wr wr lo (some ⟨bo, oo, none⟩) (4 * n) ys' ∧ (∀ j, j < n → OkA zs n W H ys j → OkA zs n W H ys' j) ∧ ∀ t, t < z → OkA zs n W H ys' ((kdsL zs n (i : Int)).getD t 0))) (fun s _ => k - (intOf s).toNat)
      case atStart => exact ⟨0, Nat.zero_le _, rfl, Lib.hid ⟨GB5.out, R5.out, W75.out, W85.out, ys, WO5.out, fun _ _ h => h, fun t ht => absurd ht (by omega)⟩⟩
      case round =>
        obtain ⟨z, hz, rfl, hS⟩ := hrel
        clear GB5 R5 W75 W85 WO5
        by_cases hlt2 : z < k
        · obtain ⟨ys1, hys⟩ : ∃ ys1, Hid (Wr wr lo (some ⟨bo, oo, none⟩) (4 * n) ys1 ∧ (∀ j, j < n → OkA zs n W H ys j → OkA zs n W H ys1 j) ∧ ∀ t, t < z → OkA zs n W H ys1 ((kdsL zs n (i : Int)).getD t 0)) := hS.out.2.2.2.2
          obtain ⟨ga, gb, gc⟩ := kdsL_at HV.out.par (show z < (kdsL zs n (i : Int)).length by rw [hm.out]; exact hlt2)
          have hzb := HZA.out z (by rw [hm.out]; exact hlt2)
          have hob := HOB.out z (by rw [hm.out]; exact hlt2)
          have HKz := Lib.hid (HK.out z hlt2)
          obtain ⟨j, hj⟩ : ∃ j, Hid ((kdsL zs n (i : Int)).getD z 0 = j) := ⟨_, Lib.hid rfl⟩
          rw [hj.out] at ga gb HKz
          rw [HOE.out z] at hob HKz
          rw [hSZ.out] at hzb HKz
          obtain ⟨Zv, hZv⟩ : ∃ x, Hid (SZ.getD z 0 = x) := ⟨_, Lib.hid rfl⟩
          obtain ⟨O, hO⟩ : ∃ x, Hid (ofF SZ q.h x5 x8 z = x) := ⟨_, Lib.hid rfl⟩
          rw [hZv.out] at hzb HKz
          rw [hO.out] at hob HKz
          obtain ⟨hzb0, hzb1⟩ := hzb
          obtain ⟨hob0, hob1⟩ := hob
          obtain ⟨b7, o7, rfl, _, _, hc7⟩ := hS.out.2.2.1.2 (by omega)
          have ck7 := (hc7 z hlt2).1
          rw [hZv.out] at ck7
          obtain ⟨b8, o8, rfl, _, _, hc8⟩ := hS.out.2.2.2.1.2 (by omega)
          have ck8 := (hc8 z hlt2).1
          rw [mk_getD _ _ _ hlt2, hO.out] at ck8
          clear hc7 hc8 gc
          have r0 := hS.out.2.1.c0
          have r1 := hS.out.2.1.c1
          have r3 := hS.out.2.1.c3
          dsimp only at r0 r1 r3
          have hz0 : (0 : Int) ≤ (z : Int) := by omega
          have hzk : (z : Int) < (k : Int) := by omega
          have hj0 : (0 : Int) ≤ (j : Int) := by omega
          have hjn : (j : Int) < (n : Int) := by omega
          go_wp2
          have X2 := Lib.hid (mk_c4v r0 r1 ck7 r3)
          have two : IntKind.i64.wrap (q.y + O) = q.y + O := IntWalk.i64_in _ (by omega)
          go_region_held3 (fun w' => w'.cell? ⟨g9, 0, none⟩ = some (.int .i64 q.y) ∧ w'.cell? ⟨g9, 1, none⟩ = some (.int .i64 q.x) ∧ w'.cell? ⟨b7, o7 + z, none⟩ = some (.int .i64 Zv) ∧ w'.cell? ⟨g9, 3, none⟩ = some (.int .i64 q.w))
            ((refine C4v.cells ?_; repeat (first | (with_reducible exact X2.out) | (with_reducible refine C4v.drew ?_) | (with_reducible refine C4v.alloc ?_ _))))
            (fail)
          have GB2 := Lib.hid hS.out.1
          have R2 := Lib.hid hS.out.2.1
          have W72 := Lib.hid hS.out.2.2.1
          have W82 := Lib.hid hS.out.2.2.2.1
          have WO2 := Lib.hid hys.out.1
          clear r0 r1 r3 ck7 ck8 hS X2 two
          obtain ⟨g17, hg17⟩ : ∃ g, Hid (wr.heap.size = g) := ⟨_, Lib.hid rfl⟩
          go_wp2_with fail
          have BX0 := Lib.hid ((Below.refl wr.heap.size wr).alloc (Nat.le_refl _) (.cells #[.int .i64 (q.y + O), .int .i64 q.x, .int .i64 Zv, .int .i64 q.w] 25)).drew
          have RR0 := Lib.hid (Rm.made wr ⟨q.y + O, q.x, Zv, q.w⟩ 25).drew
          dsimp only at RR0
          refine (turnR_any _ _ _ _ _).mono ?_
          rintro e w6 ⟨rfl, hb⟩
          have RR1 := Lib.hid (RR0.out.below hb)
          have BX1 := Lib.hid (BX0.out.trans (hb.mono (by simp)))
          rw [hg17.out] at RR1 ⊢
          have hg17' := hg17.out
          clear hb RR0 BX0
          have a0 := RR1.out.c0
          have a1 := RR1.out.c1
          have a2 := RR1.out.c2
          have a3 := RR1.out.c3
          have f0 := RR1.out.f0
          have f1 := RR1.out.f1
          have f2 := RR1.out.f2
          have f3 := RR1.out.f3
          dsimp only at a0 a1 a2 a3
          clear hg17'
          go_wp2
          clear a0 a1 a2 a3 f0 f1 f2 f3
          have RR := Lib.hid (RR1.out.set q.x (q.y + O) q.w Zv)
          have BX : Hid (Below wr.heap.size wr ((((w6.setCell ⟨g17, 0, none⟩ (.int .i64 q.x)).setCell ⟨g17, 1, none⟩ (.int .i64 (q.y + O))).setCell ⟨g17, 2, none⟩ (.int .i64 q.w)).setCell ⟨g17, 3, none⟩ (.int .i64 Zv))) := by
            have hle : wr.heap.size ≤ g17 := by have := hg17.out; omega
            exact Lib.hid ((((BX1.out.setCell hle _).setCell hle _).setCell hle _).setCell hle _)
          generalize (((w6.setCell ⟨g17, 0, none⟩ (.int .i64 q.x)).setCell ⟨g17, 1, none⟩ (.int .i64 (q.y + O))).setCell ⟨g17, 2, none⟩ (.int .i64 q.w)).setCell ⟨g17, 3, none⟩ (.int .i64 Zv) = wd at BX RR ⊢
          clear RR1 BX1
          have GB3 := Lib.hid (gb_trans GB2.out (gb_below BX.out _))
          have R3 := Lib.hid (R2.out.below BX.out)
          have W73 := Lib.hid (W72.out.below BX.out)
          have W83 := Lib.hid (W82.out.below BX.out)
          have WO3 := Lib.hid (WO2.out.below BX.out)
          clear GB2 R2 W72 W82 WO2 BX hg17
          have S3 := Lib.hid (S0.out.grown (by omega) GB3.out WO3.out)
          have A1 := Lib.hid (HA.out.grown GB3.out (fun g e => by injection e with e; omega))
          obtain ⟨b2, o2, rfl, _, _, hcc⟩ := A1.out.2 (by omega)
          have ck := (hcc z hlt2).1
          rw [ki_get (by rw [hm.out]; exact hlt2), hj.out] at ck
          clear hcc A1
          have e1 := S3.out.l
          have r0 := RR.out.c0
          have r1 := RR.out.c1
          have r2 := RR.out.c2
          have r3 := RR.out.c3
          dsimp only at r0 r1 r2 r3
          go_still_tail 10, (by kernel_rfl)
          change wpList _ _ _ _ _ wd.drew
          have GB4 := Lib.hid (gb_drew GB3.out)
          have R4 := Lib.hid R3.out.drew
          have W74 := Lib.hid W73.out.drew
          have W84 := Lib.hid W83.out.drew
          have WO4 := Lib.hid WO3.out.drew
          clear ck e1 r0 r1 r2 r3 GB3 R3 W73 W83 WO3 S3 RR
          generalize wd.drew = we at GB4 R4 W74 W84 WO4 ⊢
          obtain ⟨_, _, ⟨d0, f0⟩, ⟨d1, f1⟩, ⟨d2, f2⟩, ⟨d3, f3⟩⟩ := WO4.out.at_4 gb
          obtain ⟨u0, hu0⟩ : ∃ u, Hid (ys1.getD (4 * j) 0 = u) := ⟨_, Lib.hid rfl⟩
          rw [hu0.out] at d0
          obtain ⟨u1, hu1⟩ : ∃ u, Hid (ys1.getD (4 * j + 1) 0 = u) := ⟨_, Lib.hid rfl⟩
          rw [hu1.out] at d1
          obtain ⟨u2, hu2⟩ : ∃ u, Hid (ys1.getD (4 * j + 2) 0 = u) := ⟨_, Lib.hid rfl⟩
          rw [hu2.out] at d2
          obtain ⟨u3, hu3⟩ : ∃ u, Hid (ys1.getD (4 * j + 3) 0 = u) := ⟨_, Lib.hid rfl⟩
          rw [hu3.out] at d3
          refine wpList_plain rfl fun K hK => ?_
          go_simp
          refine hK _ _ ?_
          clear hK K d0 d1 d2 d3 f0 f1 f2 f3
          have GX := Lib.hid (gb_set4 (o0 := oo + j * 4) (o1 := oo + j * 4 + 1) (o2 := oo + j * 4 + 2) (o3 := oo + j * 4 + 3) (World.grownBy.refl we (some bo)) (.int .i64 q.x) (.int .i64 (q.y + O)) (.int .i64 q.w) (.int .i64 Zv))
          have WO5 := Lib.hid (WO4.out.putR gb ⟨q.x, q.y + O, q.w, Zv⟩)
          dsimp only at WO5
          generalize (((we.setCell ⟨bo, oo + j * 4, none⟩ (.int .i64 q.x)).setCell ⟨bo, oo + j * 4 + 1, none⟩ (.int .i64 (q.y + O))).setCell ⟨bo, oo + j * 4 + 2, none⟩ (.int .i64 q.w)).setCell ⟨bo, oo + j * 4 + 3, none⟩ (.int .i64 Zv) = wf at GX WO5 ⊢
          have GB5 := Lib.hid (gb_trans GB4.out GX.out)
          have R5 := Lib.hid (R4.out.grown GX.out (by omega))
          have W75 := Lib.hid (W74.out.grown GX.out (fun g e => by injection e with e; omega))
          have W85 := Lib.hid (W84.out.grown GX.out (fun g e => by injection e with e; omega))
          go_wp2
          go_roundw
          case rel =>
            refine ⟨z + 1, by omega, by go_num, Lib.hid ⟨GB5.out, R5.out, W75.out, W85.out, putR n ys1 j (lay zs n W H j), by rw [HKz.out]; exact WO5.out, fun t ht ht' => (hys.out.2.1 t ht ht').put ht gb, fun t ht => ?_⟩⟩
            rcases Nat.lt_or_ge t z with h4 | h4
            · exact OkA.put (hys.out.2.2 t h4) (kdsL_at HV.out.par (show t < (kdsL zs n (i : Int)).length by rw [hm.out]; omega)).2.1 gb
            · obtain rfl : t = z := by omega
              rw [hj.out]
              exact OkA.here gb
          case measure => simp [intOf]; omega
        · obtain rfl : k = z := by omega
          go_wp2
          go_end0
          obtain ⟨_, _, _, _, ys1, h4, h5, h6⟩ := hS.out
          exact ⟨rfl, hS.out.1, ys1, h4, h5, fun t ht => h6 t (by rw [← hm.out]; exact ht)⟩
end Go.Proofs.Ytjaecgobgpfbdaa
