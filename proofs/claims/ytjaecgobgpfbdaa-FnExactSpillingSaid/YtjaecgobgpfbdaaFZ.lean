/- Flexible sizes, by the program. -/
import Derived.Test.YtjaecgobgpfbdaaPG
import Derived.Test.YtjaecgobgpfbdaaSD
import Derived.Test.YtjaecgobgpfbdaaFR
import Derived.OwnWalk
namespace Go.Proofs.Ytjaecgobgpfbdaa
open Go.RowKit

theorem wpList_appfit (w : World) {ops : Array Oper} {rest : List Oper} {o : Oper} {a : Act} {Q : Exit → Act → World → Prop} (hgd : o.guard = none) (s x : Operand)
    (ho : o.op = .call { callee := .builtin .append, args := #[s, x], argTypes := #[33, 33] })
    (lo b k cap : Nat) (zs : List Int) (hs : a.eval s = .slice (some ⟨b, 0, none⟩) k cap) (hown : Rw lo (.slice (some ⟨b, 0, none⟩) k cap) k zs w) (hk : k + 1 ≤ cap) (g : Nat) (X : Int) (hx : a.eval x = .slice (some ⟨g, 0, none⟩) 1 1) (hcell : w.cell? ⟨g, 0, none⟩ = some (.int .i64 X))
    (h : ∀ w', Rw lo (.slice (some ⟨b, 0, none⟩) (k + 1) cap) (k + 1) (zs ++ [X]) w' → w.grownBy w' (some b) → wpList Try.prog ops Q rest (a.put o.dst (.slice (some ⟨b, 0, none⟩) (k + 1) cap)) w') : wpList Try.prog ops Q (o :: rest) a w := by
  obtain ⟨i0, hi, hz0, hz1, hz2⟩ := info_parts int_info
  refine wpList_append_fits w hgd s x 33 ho lo 3 i0 1 Try.underlying33 hi hz1 b k cap (iv zs) hs hown.1 ⟨g, 0, none⟩ 1 1 [.int .i64 X] hx rfl ?_ ?_ hk ?_
  · intro j u hj
    match j, hj with
    | 0, hj => simp at hj; subst hj; simpa [Addr.add] using hcell
  · intro u hu; simp at hu; subst hu; rfl
  · intro w' h1 h2
    exact h w' ⟨by simpa [iv] using h1, Nat.le_trans hown.2 h2.size⟩ h2
/- What stands beside the walk: the list's box at g0, the box of the sizes' slice at g2, the sizes at g1; all lie below lo. -/
def Fs (w wr : World) (g0 g1 g2 lo : Nat) (A : Option Addr) (n c : Nat) (f : Nat → Int) : Prop :=
  (w.heap.size ≤ g1 ∧ ¬ g0 = g1 ∧ ¬ g2 = g1 ∧ g0 < lo ∧ g1 < lo ∧ g2 < lo ∧ lo ≤ wr.heap.size ∧ w.heap.size ≤ lo) ∧
  wr.cell? ⟨g0, 0, none⟩ = some (.slice A n c) ∧ wr.cell? ⟨g2, 0, none⟩ = some (.slice (some ⟨g1, 0, none⟩) n n) ∧ Bk wr g1 n (mk n f) ∧ Below w.heap.size w wr
section
variable {w wr wr' : World} {g0 g1 g2 lo : Nat} {A : Option Addr} {n c : Nat} {f : Nat → Int}
theorem Fs.bk (h : Fs w wr g0 g1 g2 lo A n c f) : Bk wr g1 n (mk n f) := h.2.2.2.1
theorem Fs.bl (h : Fs w wr g0 g1 g2 lo A n c f) : Below w.heap.size w wr := h.2.2.2.2
theorem Fs.size (h : Fs w wr g0 g1 g2 lo A n c f) : lo ≤ wr.heap.size := h.1.2.2.2.2.2.2.1
theorem Fs.low (h : Fs w wr g0 g1 g2 lo A n c f) : w.heap.size ≤ g1 := h.1.1
theorem Fs.grown {row : Option Nat} (h : Fs w wr g0 g1 g2 lo A n c f) (hg : wr.grownBy wr' row) (hr : ∀ r, row = some r → lo ≤ r) : Fs w wr' g0 g1 g2 lo A n c f := by
  obtain ⟨⟨a1, a2, a3, a4, a5, a6, a7, a8⟩, h1, h2, h3, h4⟩ := h
  have hk : ∀ b, b < lo → wr'.heap[b]? = wr.heap[b]? := fun b hb => hg.block b (by omega) (fun e => by have := hr b e.symm; omega)
  exact ⟨⟨a1, a2, a3, a4, a5, a6, Nat.le_trans a7 hg.size, a8⟩, (World.cell?_of_block (hk _ a4)).trans h1, (World.cell?_of_block (hk _ a6)).trans h2,
    h3.grown hg (fun e => by have := hr _ e.symm; omega), h4.grown hg (by omega) (fun r e => by have := hr r e; omega)⟩
theorem Fs.below (h : Fs w wr g0 g1 g2 lo A n c f) (hb : Below wr.heap.size wr wr') : Fs w wr' g0 g1 g2 lo A n c f := h.grown (gb_below hb none) (fun r e => by cases e)
theorem Fs.drewN (h : Fs w wr g0 g1 g2 lo A n c f) (k : Nat) : Fs w (wr.drewN k) g0 g1 g2 lo A n c f := ⟨h.1, h.2.1, h.2.2.1, h.2.2.2.1, below_drewN h.2.2.2.2 k⟩
theorem Fs.set (h : Fs w wr g0 g1 g2 lo A n c f) {k : Nat} (hk : k < n) (v : Int) : Fs w (wr.setCell ⟨g1, k, none⟩ (.int .i64 v)) g0 g1 g2 lo A n c (fun i => if i = k then v else f i) := by
  obtain ⟨⟨a1, a2, a3, a4, a5, a6, a7, a8⟩, h1, h2, h3, h4⟩ := h
  have hb : ∀ b, ¬ b = g1 → (wr.setCell ⟨g1, k, none⟩ (.int .i64 v)).heap[b]? = wr.heap[b]? := fun b hb => Below.heap_setCell wr _ _ b hb
  exact ⟨⟨a1, a2, a3, a4, a5, a6, by simpa [World.setCell] using a7, a8⟩, (World.cell?_of_block (hb _ a2)).trans h1, (World.cell?_of_block (hb _ a3)).trans h2, h3.setMk hk v, h4.setCell a1 _⟩
theorem Fs.to {f' : Nat → Int} (h : Fs w wr g0 g1 g2 lo A n c f) (hf : ∀ i, i < n → f i = f' i) : Fs w wr g0 g1 g2 lo A n c f' := ⟨h.1, h.2.1, h.2.2.1, h.2.2.2.1.mk_to hf, h.2.2.2.2⟩
end
/- While the bases are collected. -/
def Fa (w wr : World) (A : Option Addr) (n c k : Nat) (f : Nat → Int) : Prop :=
  w.heap.size + 1 + 1 + 1 ≤ wr.heap.size ∧ wr.cell? ⟨w.heap.size, 0, none⟩ = some (.slice A n c) ∧ wr.cell? ⟨w.heap.size + 1 + 1, 0, none⟩ = some (.slice (some ⟨w.heap.size + 1, 0, none⟩) k n) ∧ wr.frozen? ⟨w.heap.size + 1 + 1, 0, none⟩ = false ∧
  Rw (w.heap.size + 1) (.slice (some ⟨w.heap.size + 1, 0, none⟩) k n) k (mk k f) wr ∧ Below w.heap.size w wr
theorem Fa.alloc {w wr : World} {A : Option Addr} {n c k : Nat} {f : Nat → Int} (h : Fa w wr A n c k f) (o : Obj) : Fa w (wr.alloc o) A n c k f := by
  obtain ⟨h1, h2, h3, h4, h5, h6⟩ := h
  exact ⟨by simp; omega, (keep_cl wr o _ _ (by omega)).trans h2, (keep_cl wr o _ _ (by omega)).trans h3, (keep_fz wr o _ _ (by omega)).trans h4, h5.alloc o, h6.alloc (by omega) o⟩
theorem Fa.start (w : World) (A : Option Addr) (n c : Nat) (f : Nat → Int) (tB tS : TypeId) (hn : n ≤ 2000000) :
    Fa w (((w.alloc (.cells #[.slice A n c] tB)).alloc (.cells (madeCells #[Value.int .i64 0] n) 3)).alloc (.cells #[.slice (some ⟨w.heap.size + 1, 0, none⟩) 0 n] tS)) A n c 0 f := by
  have hr := (Rw.room (w.alloc (.cells #[.slice A n c] tB)) (w.heap.size + 1) n (by simp) hn).alloc (.cells #[.slice (some ⟨w.heap.size + 1, 0, none⟩) 0 n] tS)
  rw [show (w.alloc (.cells #[.slice A n c] tB)).heap.size = w.heap.size + 1 by simp] at hr
  refine ⟨by simp, by simp [go_sem], by simp [go_sem], by simp [go_sem], hr, ?_⟩
  exact (((Below.refl w.heap.size w).alloc (Nat.le_refl _) _).alloc (by simp) _).alloc (by simp; omega) _
/- One more is appended, and the slice is stored anew. -/
theorem Fa.push {w wr w1 : World} {A : Option Addr} {n c k : Nat} {f : Nat → Int} (h : Fa w wr A n c k f) (hr : Rw (w.heap.size + 1) (.slice (some ⟨w.heap.size + 1, 0, none⟩) (k + 1) n) (k + 1) (mk k f ++ [f k]) w1) (hg : wr.grownBy w1 (some (w.heap.size + 1))) :
    (w1.cell? ⟨w.heap.size + 1 + 1, 0, none⟩ = some (.slice (some ⟨w.heap.size + 1, 0, none⟩) k n) ∧ w1.frozen? ⟨w.heap.size + 1 + 1, 0, none⟩ = false) ∧
    Fa w (w1.setCell ⟨w.heap.size + 1 + 1, 0, none⟩ (.slice (some ⟨w.heap.size + 1, 0, none⟩) (k + 1) n)) A n c (k + 1) f := by
  obtain ⟨h1, h2, h3, h4, h5, h6⟩ := h
  have hk : ∀ b, b < wr.heap.size → ¬ b = w.heap.size + 1 → w1.heap[b]? = wr.heap[b]? := fun b hb hne => hg.block b hb (fun e => hne (by injection e))
  have e3 := (World.cell?_of_block (a := ⟨w.heap.size + 1 + 1, 0, none⟩) (hk _ (by show w.heap.size + 1 + 1 < _; omega) (by show ¬ w.heap.size + 1 + 1 = _; omega))).trans h3
  have e4 := (World.frozen?_of_block (a := ⟨w.heap.size + 1 + 1, 0, none⟩) (hk _ (by show w.heap.size + 1 + 1 < _; omega) (by show ¬ w.heap.size + 1 + 1 = _; omega))).trans h4
  have e2 := (World.cell?_of_block (a := ⟨w.heap.size, 0, none⟩) (hk _ (by show w.heap.size < _; omega) (by show ¬ w.heap.size = _; omega))).trans h2
  have hs := hg.size
  have hb : ∀ b, ¬ b = w.heap.size + 1 + 1 → (w1.setCell ⟨w.heap.size + 1 + 1, 0, none⟩ (.slice (some ⟨w.heap.size + 1, 0, none⟩) (k + 1) n)).heap[b]? = w1.heap[b]? := fun b hb => Below.heap_setCell w1 _ _ b hb
  refine ⟨⟨e3, e4⟩, by simpa [World.setCell] using Nat.le_trans h1 hs, (World.cell?_of_block (hb _ (by show ¬ w.heap.size = _; omega))).trans e2, by simp [go_sem, e3], by simp [go_sem, e4], ?_, (h6.grown hg (by omega) (fun r e => by injection e with e; omega)).setCell (by show w.heap.size ≤ w.heap.size + 1 + 1; omega) _⟩
  rw [mk_succ]
  refine ⟨hr.1.kept (row := some (w.heap.size + 1 + 1)) (gb_one w1 ⟨w.heap.size + 1 + 1, 0, none⟩ _) (.inr (fun e => ?_)), by simpa [World.setCell] using hr.2⟩
  have e2 : some (w.heap.size + 1) = some (w.heap.size + 1 + 1) := e
  injection e2 with e2
  omega
theorem Fa.done {w wr : World} {A : Option Addr} {n c : Nat} {f : Nat → Int} (h : Fa w wr A n c n f) (hn : 1 ≤ n) : Fs w wr w.heap.size (w.heap.size + 1) (w.heap.size + 1 + 1) wr.heap.size A n c f := by
  obtain ⟨h1, h2, h3, h4, h5, h6⟩ := h
  obtain ⟨A', c', e, _, _, hw⟩ := h5.out
  injection e with e _ _
  subst e
  exact ⟨⟨by omega, by omega, by omega, by omega, by omega, by omega, Nat.le_refl _, by omega⟩, h2, h3, hw.bk (by omega), h6⟩
def Drawn2 (w : World) (a b : Int) (e : Ending) (w' : World) : Prop := e = .returned (.tuple #[.int .i64 a, .int .i64 b]) ∧ ∃ m, w' = w.drewN m
set_option maxHeartbeats 2000000 in
theorem room1_any (i n c n' g0 g1 g2 b off : Nat) (x u g : Int) (w : World) (h0 : w.cell? ⟨g0, 0, none⟩ = some (.slice (some ⟨b, off, none⟩) n c)) (h2 : w.cell? ⟨g2, 0, none⟩ = some (.slice (some ⟨g1, 0, none⟩) n n')) (hi : i < n) (_hn : n ≤ 2000000)
    (hx : w.cell? ⟨g1, i, none⟩ = some (.int .i64 x)) (hu : w.cell? ⟨b, off + i * 5 + 2, none⟩ = some (.int .i64 u)) (hg : w.cell? ⟨b, off + i * 5 + 3, none⟩ = some (.int .i64 g)) (x0 : -1000000 ≤ x) (x1 : x ≤ 1000000) (u0 : -1000000 ≤ u) (u1 : u ≤ 1000000) :
    Calls Try.prog 92 #[.int .i64 i, .pointer (some ⟨g0, 0, none⟩), .pointer (some ⟨g2, 0, none⟩)] w (Drawn2 w (u - x) g) := by
  have i0 : (0 : Int) ≤ (i : Int) := by omega
  have i1 : (i : Int) < (n : Int) := by omega
  have m1 : IntKind.i64.wrap (u - x) = u - x := IntWalk.i64_in _ (by omega)
  go_enter Try.func92, Try.ntmps92
  go_wp2
  go_quiet (fail)
  go_wp2
  go_ret2
  exact ⟨rfl, _, rfl⟩
set_option maxHeartbeats 2000000 in
theorem room2_any (i n c n' g0 g1 g2 b off : Nat) (x u g : Int) (w : World) (h0 : w.cell? ⟨g0, 0, none⟩ = some (.slice (some ⟨b, off, none⟩) n c)) (h2 : w.cell? ⟨g2, 0, none⟩ = some (.slice (some ⟨g1, 0, none⟩) n n')) (hi : i < n) (_hn : n ≤ 2000000)
    (hx : w.cell? ⟨g1, i, none⟩ = some (.int .i64 x)) (hu : w.cell? ⟨b, off + i * 5 + 1, none⟩ = some (.int .i64 u)) (hg : w.cell? ⟨b, off + i * 5 + 4, none⟩ = some (.int .i64 g)) (x0 : -1000000 ≤ x) (x1 : x ≤ 1000000) (u0 : -1000000 ≤ u) (u1 : u ≤ 1000000) :
    Calls Try.prog 93 #[.int .i64 i, .pointer (some ⟨g2, 0, none⟩), .pointer (some ⟨g0, 0, none⟩)] w (Drawn2 w (x - u) g) := by
  have i0 : (0 : Int) ≤ (i : Int) := by omega
  have i1 : (i : Int) < (n : Int) := by omega
  have m1 : IntKind.i64.wrap (x - u) = x - u := IntWalk.i64_in _ (by omega)
  go_enter Try.func93, Try.ntmps93
  go_wp2
  go_quiet (fail)
  go_wp2
  go_ret2
  exact ⟨rfl, _, rfl⟩
set_option maxHeartbeats 8000000 in
set_option maxRecDepth 100000 in
theorem flexed_any (A : Option Addr) (n c : Nat) (zs : List Int) (sp : Int) (w : World) (h : Rd w w.heap.size A (5 * n) zs) (hn1 : 1 ≤ n) (hn : n ≤ 8) (hv : okS zs n) (s0 : 0 ≤ sp) (s1 : sp ≤ 200000) :
    Calls Try.prog 86 #[.slice A n c, .int .i64 sp] w (GotI w (flL zs n sp)) := by
  have H := Lib.hid h
  have HV := Lib.hid hv
  have hT := flT_bd hv
  have hmr := made_room n (by omega)
  obtain ⟨i0, hi, hz0, hz1, hz2⟩ := info_parts int_info
  have hmk := fun W => run_make_rowN (P := Try.prog) 33 3 i0 (.int .i64 0) Try.underlying33 hi hz0 .i64 .i64 n n (Nat.le_refl _) (by rw [hz2]; omega) (by omega) W
  rw [hz1] at hmk
  clear h hv hi hz0 hz1 hz2
  obtain ⟨T, hT'⟩ : ∃ T, Hid (flT zs n = T) := ⟨_, rfl⟩
  rw [hT'.out] at hT
  obtain ⟨T0, T1⟩ := hT
  have HFa := Lib.hid (Fa.start w A n c (bsF zs) 84 33 (by omega))
  go_enter Try.func86, Try.ntmps86
  go_wp2
  generalize ((w.alloc (.cells #[.slice A n c] 84)).alloc (.cells (madeCells #[Value.int .i64 0] n) 3)).alloc (.cells #[.slice (some ⟨w.heap.size + 1, 0, none⟩) 0 n] 33) = wa at HFa ⊢
  go_loopw [25] (fun iv wr => ∃ k : Nat, k ≤ n ∧ iv = .int .i64 k ∧ Hid (Fa w wr A n c k (bsF zs))) (fun iv _ => n - (intOf iv).toNat)
  case atStart => exact ⟨0, Nat.zero_le _, rfl, HFa.out⟩
  case round =>
    obtain ⟨k, hk, rfl, hI⟩ := hrel
    by_cases hlt : k < n
    · obtain ⟨b, off, rfl, hb, hc⟩ := H.out.cell (by omega)
      have hcell : ∀ j, j < 5 * n → wr.cell? ⟨b, off + j, none⟩ = some (.int .i64 (zs.getD j 0)) := fun j hj => by rw [hI.out.2.2.2.2.2.cell (p := ⟨b, off + j, none⟩) hb]; exact hc j hj
      obtain ⟨c0, c1, c2, c3, c4⟩ := at5 hcell hlt
      obtain ⟨y0, h0⟩ : ∃ u, Hid (zs.getD (5 * k) 0 = u) := ⟨_, rfl⟩
      obtain ⟨y1, h1⟩ : ∃ u, Hid (zs.getD (5 * k + 1) 0 = u) := ⟨_, rfl⟩
      obtain ⟨y2, h2⟩ : ∃ u, Hid (zs.getD (5 * k + 2) 0 = u) := ⟨_, rfl⟩
      obtain ⟨y3, h3⟩ : ∃ u, Hid (zs.getD (5 * k + 3) 0 = u) := ⟨_, rfl⟩
      obtain ⟨y4, h4⟩ : ∃ u, Hid (zs.getD (5 * k + 4) 0 = u) := ⟨_, rfl⟩
      rw [h0.out] at c0
      rw [h1.out] at c1
      rw [h2.out] at c2
      rw [h3.out] at c3
      rw [h4.out] at c4
      have cS := hI.out.2.2.1
      have hsz := hI.out.1
      clear hcell hc
      have HI2 := Lib.hid ((hI.out.alloc (.cells #[.int .i64 y0, .int .i64 y1, .int .i64 y2, .int .i64 y3, .int .i64 y4] 87)).alloc (.cells #[.int .i64 y0] 3))
      have cS1 := Lib.hid HI2.out.2.2.1
      have cS2 := (hI.out.alloc (.cells #[.int .i64 y0, .int .i64 y1, .int .i64 y2, .int .i64 y3, .int .i64 y4] 87)).2.2.1
      go_wp2_with (at_builtin; refine wpList_appfit _ rfl _ _ rfl (w.heap.size + 1) (w.heap.size + 1) k n _ rfl HI2.out.2.2.2.2.1 (by omega) (wr.heap.size + 1) y0 rfl (by simp [go_sem]) ?_; intro w1 hown hg; have hpush := (HI2.out.push (by rw [show bsF zs k = y0 from h0.out]; exact hown) hg); have cP := hpush.1.1; have fP := hpush.1.2; have HP := Lib.hid hpush.2; clear hown hg hpush)
      go_roundw
      case rel => exact ⟨k + 1, by omega, by go_num, HP.out⟩
      case measure => simp [intOf]; omega
    · obtain rfl : n = k := by omega
      have HF := Lib.hid (hI.out.done hn1)
      have cS := HF.out.2.2.1
      have cL := HF.out.2.1
      clear HFa hI
      go_wp2_with fail
      refine (total_any _ n n (mk n (bsF zs)) _ wr (HF.out.bk.wr (Nat.zero_le _)).rd (by omega) (mk_AllB _ _ _ _ fun i hi => by have h2 := HV.out.at_ hi; omega)).mono ?_
      rintro e w' ⟨rfl, rfl⟩
      rw [tot_mk, show sm (bsF zs) n = T from hT'.out]
      obtain ⟨lo, hlo⟩ : ∃ lo, lo = wr.heap.size := ⟨_, rfl⟩
      rw [← hlo] at HF
      have hlow : w.heap.size ≤ lo := HF.out.1.2.2.2.2.2.2.2
      have g1lo : w.heap.size + 1 < lo := HF.out.1.2.2.2.2.1
      clear hlo
      by_cases hle : T ≤ sp
      · obtain ⟨L, hL⟩ : ∃ L, Hid (sp - T = L) := ⟨_, rfl⟩
        have hLb : 0 ≤ L ∧ L ≤ 200000 := by rw [← hL.out]; omega
        obtain ⟨hL0, hL1⟩ := hLb
        have HE : Hid (flL zs n sp = mk n (gwI zs n L (n + 1))) := by
          show _ = _
          unfold flL
          exact mk_congr _ _ _ fun i _ => by unfold flI; rw [hT'.out, if_pos hle, hL.out]
        have HM0 : Hid (Fs w wr w.heap.size (w.heap.size + 1) (w.heap.size + 1 + 1) lo A n c (gwI zs n L 0)) := HF.out.to fun i _ => by unfold gwI; simp [dst]
        have Hw := Lib.hid (grF_bd HV.out)
        have Hc := Lib.hid (capG_nn HV.out)
        have hlft : 0 ≤ sp - T := by omega
        have hneg : IntKind.i64.wrap (sp - T) = sp - T := IntWalk.i64_in _ (by omega)

        clear hle HF
        go_wp2
        rw [hL.out]
        clear hlft hneg
        go_loopw [8] (fun sv wr => ∃ k : Nat, sv = .int .i64 (lfI n (capG zs) (grF zs) L k) ∧ Hid ((∀ j, j < k → ¬ stp n (capG zs) (grF zs) L j) ∧ Fs w wr w.heap.size (w.heap.size + 1) (w.heap.size + 1 + 1) lo A n c (gwI zs n L k))) (fun sv _ => (intOf sv).toNat)
        case atStart => exact ⟨0, vint (by unfold lfI; simp only [dst]; rw [sm_const]; omega), fun j hj => absurd hj (by omega), HM0.out⟩
        case round =>
          obtain ⟨k, rfl, hS⟩ := hrel
          obtain ⟨l0, l1⟩ := lfI_bd Hw.out (by omega) Hc.out hL0 k
          have hless := fun h => lfI_less Hw.out (by omega) Hc.out hL0 (k := k) h
          have hfst := fun h => dst_first Hw.out (by omega) Hc.out hL0 (k := k) hS.out.1 h
          have HLess := Lib.hid hless
          have HFst := Lib.hid hfst
          clear hless hfst
          obtain ⟨S, hS'⟩ : ∃ S, Hid (lfI n (capG zs) (grF zs) L k = S) := ⟨_, rfl⟩
          rw [hS'.out] at l0 l1 ⊢
          have HK0 := Lib.hid (Bk.made wr n 3)
          have HF0 := Lib.hid (hS.out.2.below ((Below.refl wr.heap.size wr).alloc (Nat.le_refl _) (.cells (madeCells #[Value.int .i64 0] n) 3)))
          have hszW : lo ≤ wr.heap.size := hS.out.2.size
          have cL1 := hS.out.2.2.1
          have cL2 := HF0.out.2.1
          obtain ⟨gW, hgW⟩ : ∃ g, g = wr.heap.size := ⟨_, rfl⟩
          go_wp2
          rw [← hgW] at HK0 hszW ⊢
          generalize wr.alloc (.cells (madeCells #[Value.int .i64 0] n) 3) = wX at HK0 HF0 cL2 ⊢
          clear cL1 cL2 hgW
          go_loopw [50] (fun iv wr => ∃ i : Nat, i ≤ n ∧ iv = .int .i64 i ∧ Hid (Fs w wr w.heap.size (w.heap.size + 1) (w.heap.size + 1 + 1) lo A n c (gwI zs n L k) ∧ Bk wr gW n (mk n fun q => if q < i then (if dst n (capG zs) (grF zs) L k q < capG zs q then grF zs q else 0) else 0))) (fun iv _ => n - (intOf iv).toNat)
          case atStart => exact ⟨0, Nat.zero_le _, rfl, HF0.out, HK0.out.mk_to fun i _ => by simp⟩
          case round =>
            obtain ⟨i, hi, rfl, hI⟩ := hrel
            by_cases hlt : i < n
            · obtain ⟨q1, q2⟩ := gwI_bd HV.out hL0 k hlt
              obtain ⟨v1, v2, v3, v4, ⟨v5, v6⟩, v7, v8⟩ := HV.out.at_ hlt
              obtain ⟨b, off, rfl, hb, hc⟩ := H.out.cell (by omega)
              have hcell : ∀ j, j < 5 * n → wr.cell? ⟨b, off + j, none⟩ = some (.int .i64 (zs.getD j 0)) := fun j hj => by rw [hI.out.1.bl.cell (p := ⟨b, off + j, none⟩) hb]; exact hc j hj
              obtain ⟨c0, c1, c2, c3, c4⟩ := at5 hcell hlt
              have cx := (hI.out.1.bk.2.2 i hlt).1
              rw [mk_getD _ _ _ hlt] at cx
              obtain ⟨x, hx⟩ : ∃ x, Hid (gwI zs n L k i = x) := ⟨_, rfl⟩
              obtain ⟨u, hu⟩ : ∃ u, Hid (mxF zs i = u) := ⟨_, rfl⟩
              obtain ⟨g, hg⟩ : ∃ g, Hid (grF zs i = g) := ⟨_, rfl⟩
              rw [show zs.getD (5 * i + 2) 0 = u from hu.out] at c2
              rw [show zs.getD (5 * i + 3) 0 = g from hg.out] at c3
              rw [hx.out] at cx q1 q2
              rw [hu.out] at q2 v3 v4
              rw [hg.out] at v5 v6
              have htest : 0 < u - x ↔ dst n (capG zs) (grF zs) L k i < capG zs i := by
                rw [← hx.out, ← hu.out]; unfold gwI capG; omega
              have Hroom := Lib.hid (room1_any i n c n w.heap.size (w.heap.size + 1) (w.heap.size + 1 + 1) b off x u g wr hI.out.1.2.1 hI.out.1.2.2.1 hlt (by omega) cx c2 c3 (by omega) (by omega) (by omega) (by omega))
              obtain ⟨cw, fw⟩ := hI.out.2.2.2 i hlt
              obtain ⟨cw0, hcw0⟩ : ∃ u, Hid ((mk n fun q => if q < i then (if dst n (capG zs) (grF zs) L k q < capG zs q then grF zs q else 0) else 0).getD i 0 = u) := ⟨_, rfl⟩
              rw [hcw0.out] at cw
              have HT2 := Lib.hid htest
              clear hcell hc htest c0 c1 c2 c3 c4 cx
              go_wp2_with fail
              refine Hroom.out.mono ?_
              rintro e w2 ⟨rfl, dn, rfl⟩
              by_cases hd : 0 < u - x
              · have HN : Hid (Fs w ((wr.drewN dn).setCell ⟨gW, i, none⟩ (.int .i64 g)) w.heap.size (w.heap.size + 1) (w.heap.size + 1 + 1) lo (some ⟨b, off, none⟩) n c (gwI zs n L k) ∧ Bk ((wr.drewN dn).setCell ⟨gW, i, none⟩ (.int .i64 g)) gW n (mk n fun q => if q < i + 1 then (if dst n (capG zs) (grF zs) L k q < capG zs q then grF zs q else 0) else 0)) := by
                  refine ⟨(hI.out.1.drewN dn).grown (gb_one _ ⟨gW, i, none⟩ _) (fun r e => by have e2 : some gW = some r := e; injection e2 with e2; omega), ((hI.out.2.drewN dn).setMk hlt g).mk_to fun q _ => ?_⟩
                  by_cases h1 : q = i
                  · subst h1; rw [if_pos rfl, if_pos (by omega), if_pos (HT2.out.1 hd), hg.out]
                  · have : q < i + 1 ↔ q < i := by omega
                    simp [h1, this]
                go_wp2
                go_roundw
                case rel => exact ⟨i + 1, by omega, by go_num, HN.out⟩
                case measure => simp [intOf]; omega
              · have hd2 : u - x ≤ 0 := by omega
                have HN : Hid (Fs w (wr.drewN dn) w.heap.size (w.heap.size + 1) (w.heap.size + 1 + 1) lo (some ⟨b, off, none⟩) n c (gwI zs n L k) ∧ Bk (wr.drewN dn) gW n (mk n fun q => if q < i + 1 then (if dst n (capG zs) (grF zs) L k q < capG zs q then grF zs q else 0) else 0)) := by
                  refine ⟨hI.out.1.drewN dn, (hI.out.2.drewN dn).mk_to fun q _ => ?_⟩
                  by_cases h1 : q = i
                  · subst h1; rw [if_neg (by omega), if_pos (by omega), if_neg (fun h => hd (HT2.out.2 h))]
                  · have : q < i + 1 ↔ q < i := by omega
                    simp [this]
                clear hd
                go_wp2
                go_roundw
                case rel => exact ⟨i + 1, by omega, by go_num, HN.out⟩
                case measure => simp [intOf]; omega
            · obtain rfl : n = i := by omega
              have HSh := Lib.hid (shI_all Hw.out Hc.out hL0 hL1 k)
              have HShE : Hid (shr S (wtL n (capG zs) (grF zs) (dst n (capG zs) (grF zs) L k)) = shI n (capG zs) (grF zs) L k) := by
                show _ = _; rw [← hS'.out]; rfl
              have HWt : Hid (Rd wr wr.heap.size (some ⟨gW, 0, none⟩) n (wtL n (capG zs) (grF zs) (dst n (capG zs) (grF zs) L k))) := ((hI.out.2.mk_to fun q hq => if_pos hq).wr (Nat.zero_le _)).rd
              have HM1 := Lib.hid hI.out.1
              go_wp2_with fail
              refine (share_any S _ n n _ wr HWt.out (by omega) l0 (by omega) ((wtL_all Hw.out (by omega) _).mono (by omega) (by omega))).mono ?_
              rintro e w5 ⟨A5, n5, c5, rfl, hc5, hw5, hb5⟩
              rw [HShE.out] at hw5
              obtain rfl : n = n5 := by have h5 := hw5.1; rw [shI_len] at h5; exact h5
              have HW5 : Hid (Wr w5 lo A5 n (shI n (capG zs) (grF zs) L k)) := hw5.low HM1.out.size
              have HM5 := Lib.hid (HM1.out.below hb5)
              clear hw5 hb5 hc5 HWt hI
              obtain ⟨U, hU⟩ : ∃ T, Hid (tot (shI n (capG zs) (grF zs) L k) n = T) := ⟨_, rfl⟩
              go_wp2_with fail
              refine (total_any A5 n c5 _ _ w5 HW5.out.rd (by omega) (HSh.out.mono (by omega) (by omega))).mono ?_
              rintro e w' ⟨rfl, rfl⟩
              rw [hU.out]
              by_cases hT0 : U = 0
              · have hTb : (U == 0) = true := by simp [hT0]
                have HStp : Hid (stp n (capG zs) (grF zs) L k) := by show tot _ _ = 0; rw [hU.out]; exact hT0
                have cS5 := HM5.out.2.2.1
                clear hT0
                go_wp2
                go_ret
                rw [HE.out]
                have hfin := HM5.out.to (f' := gwI zs n L (n + 1)) fun i hi => by unfold gwI; rw [HFst.out HStp.out i hi]
                exact GotI.bk hfin.bk hfin.low hfin.bl
              · have hTb : (U == 0) = false := by simp [hT0]
                have HStp : Hid (¬ stp n (capG zs) (grF zs) L k) := by show ¬ tot _ _ = 0; rw [hU.out]; exact hT0
                clear hT0
                go_wp2
                go_loopw [8, 75] (fun sv iv wr => ∃ i : Nat, i ≤ n ∧ iv = .int .i64 i ∧ sv = .int .i64 (S - sm (mvI n (capG zs) (grF zs) L k) i) ∧ Hid (Fs w wr w.heap.size (w.heap.size + 1) (w.heap.size + 1 + 1) lo A n c (fun q => if q < i then gwI zs n L (k + 1) q else gwI zs n L k q) ∧ Wr wr lo A5 n (shI n (capG zs) (grF zs) L k))) (fun _ iv _ => n - (intOf iv).toNat)
                case atStart => exact ⟨0, Nat.zero_le _, rfl, vint (by simp [sm]), HM5.out.to fun i _ => by simp, HW5.out⟩
                case round =>
                  obtain ⟨i, hi, rfl, rfl, hJ⟩ := hrel
                  obtain ⟨r0, r1⟩ := mvS_bd Hw.out (by omega) Hc.out hL0 k i hi
                  rw [hS'.out] at r1
                  by_cases hlt2 : i < n
                  · obtain ⟨q1, q2⟩ := gwI_bd HV.out hL0 k hlt2
                    obtain ⟨v1, v2, v3, v4, _, _⟩ := HV.out.at_ hlt2
                    obtain ⟨s0', s1'⟩ := HSh.out.getD i (by rw [shI_len]; exact hlt2)
                    obtain ⟨b, off, rfl, hb, hc⟩ := H.out.cell (by omega)
                    have hcell : ∀ j, j < 5 * n → wr.cell? ⟨b, off + j, none⟩ = some (.int .i64 (zs.getD j 0)) := fun j hj => by rw [hJ.out.1.bl.cell (p := ⟨b, off + j, none⟩) hb]; exact hc j hj
                    obtain ⟨c0, c1, c2, c3, c4⟩ := at5 hcell hlt2
                    have cx := (hJ.out.1.bk.2.2 i hlt2).1
                    have fx' := (hJ.out.1.bk.2.2 i hlt2).2
                    rw [mk_getD _ _ _ hlt2, if_neg (by omega)] at cx
                    obtain ⟨b5, o5, rfl, hl5, hb5, hc5⟩ := hJ.out.2.2 (by omega)
                    have cs := (hc5 i hlt2).1
                    obtain ⟨x, hx⟩ : ∃ x, Hid (gwI zs n L k i = x) := ⟨_, rfl⟩
                    obtain ⟨u, hu⟩ : ∃ u, Hid (mxF zs i = u) := ⟨_, rfl⟩
                    obtain ⟨g, hg⟩ : ∃ g, Hid (grF zs i = g) := ⟨_, rfl⟩
                    obtain ⟨s, hs⟩ : ∃ s, Hid ((shI n (capG zs) (grF zs) L k).getD i 0 = s) := ⟨_, rfl⟩
                    obtain ⟨R, hR⟩ : ∃ R, Hid (sm (mvI n (capG zs) (grF zs) L k) i = R) := ⟨_, rfl⟩
                    obtain ⟨m, hm⟩ : ∃ m, Hid (min s (u - x) = m) := ⟨_, rfl⟩
                    rw [show zs.getD (5 * i + 2) 0 = u from hu.out] at c2
                    rw [show zs.getD (5 * i + 3) 0 = g from hg.out] at c3
                    rw [hx.out] at cx q1 q2
                    rw [hu.out] at q2 v3 v4
                    rw [hs.out] at cs s0' s1'
                    rw [hR.out] at r0 r1 ⊢
                    have hm0 : 0 ≤ m ∧ m ≤ u - x := by rw [← hm.out]; omega
                    obtain ⟨m0, m1⟩ := hm0
                    have Hmv : Hid (mvI n (capG zs) (grF zs) L k i = m) := by
                      show _ = _
                      unfold mvI
                      rw [hs.out, ← hm.out, ← hx.out, ← hu.out]
                      unfold gwI capG
                      congr 1
                      omega
                    have Hnew : Hid (gwI zs n L (k + 1) i = x + m) := by
                      show _ = _
                      have e := dst_mv (n := n) (cap := capG zs) (wt := grF zs) (L := L) k i
                      rw [Hmv.out] at e
                      rw [← hx.out]; unfold gwI; omega
                    have Hroom := Lib.hid (room1_any i n c n w.heap.size (w.heap.size + 1) (w.heap.size + 1 + 1) b off x u g wr hJ.out.1.2.1 hJ.out.1.2.2.1 hlt2 (by omega) cx c2 c3 (by omega) (by omega) (by omega) (by omega))
                    have cS5 := hJ.out.1.2.2.1
                    have HCx := Lib.hid cx
                    clear hcell hc c0 c1 c2 c3 c4 hc5 cx cS5
                    go_wp2_with fail
                    refine Hroom.out.mono ?_
                    rintro e w2 ⟨rfl, dn, rfl⟩
                    have cx := HCx.out
                    have cS5 := hJ.out.1.2.2.1
                    have HN : Hid (Fs w ((wr.drewN dn).setCell ⟨w.heap.size + 1, i, none⟩ (.int .i64 (x + m))) w.heap.size (w.heap.size + 1) (w.heap.size + 1 + 1) lo (some ⟨b, off, none⟩) n c (fun q => if q < i + 1 then gwI zs n L (k + 1) q else gwI zs n L k q) ∧ Wr ((wr.drewN dn).setCell ⟨w.heap.size + 1, i, none⟩ (.int .i64 (x + m))) lo (some ⟨b5, o5, none⟩) n (shI n (capG zs) (grF zs) L k)) := by
                      refine ⟨((hJ.out.1.drewN dn).set hlt2 (x + m)).to fun q _ => ?_, (hJ.out.2.drewN dn).grown (gb_one _ ⟨w.heap.size + 1, i, none⟩ _) (fun r e => by have e2 : some (w.heap.size + 1) = some r := e; injection e2 with e2; omega)⟩
                      by_cases h1 : q = i
                      · subst h1; rw [if_pos rfl, if_pos (by omega), Hnew.out]
                      · have : q < i + 1 ↔ q < i := by omega
                        simp [h1, this]
                    have hmm : min s (u - x) = m := hm.out
                    have w2' : IntKind.i64.wrap (1 * m) = 1 * m := IntWalk.i64_in _ (by omega)
                    go_wp2
                    clear hmm w2' cx cS5
                    go_roundw
                    case rel => exact ⟨i + 1, by omega, by go_num, vint (by rw [sm, hR.out, Hmv.out]; omega), by first | exact HN.out | (have h := HN.out; simpa using h)⟩
                    case measure => simp [intOf]; omega
                  · obtain rfl : n = i := by omega
                    have HN : Hid (S - sm (mvI n (capG zs) (grF zs) L k) n = lfI n (capG zs) (grF zs) L (k + 1)) := by show _ = _; rw [lfI_mv, hS'.out]
                    have hl2 := HLess.out HStp.out
                    rw [hS'.out] at hl2
                    rw [HN.out]
                    have HK2 : Hid ((∀ j, j < k + 1 → ¬ stp n (capG zs) (grF zs) L j) ∧ Fs w wr w.heap.size (w.heap.size + 1) (w.heap.size + 1 + 1) lo A n c (gwI zs n L (k + 1))) := ⟨fun j hj => by
                      rcases Nat.lt_or_ge j k with h1 | h1
                      · exact hS.out.1 j h1
                      · obtain rfl : j = k := by omega
                        exact HStp.out, hJ.out.1.to fun q hq => if_pos hq⟩
                    go_wp2
                    go_roundw
                    case rel => exact ⟨k + 1, rfl, HK2.out⟩
                    case measure =>
                      have h9 := (lfI_bd Hw.out (by omega) Hc.out hL0 (k + 1)).1
                      first | (simp only [intOf]; omega) | (simp [intOf]; omega)
      · obtain ⟨L, hL⟩ : ∃ L, Hid (T - sp = L) := ⟨_, rfl⟩
        have hLb : 0 ≤ L ∧ L ≤ 200000 := by rw [← hL.out]; omega
        obtain ⟨hL0, hL1⟩ := hLb
        have HE : Hid (flL zs n sp = mk n (skI zs n L (n + 1))) := by
          show _ = _
          unfold flL
          exact mk_congr _ _ _ fun i _ => by unfold flI; rw [hT'.out, if_neg hle, hL.out]
        have HM0 : Hid (Fs w wr w.heap.size (w.heap.size + 1) (w.heap.size + 1 + 1) lo A n c (skI zs n L 0)) := HF.out.to fun i _ => by unfold skI; simp [dst]
        have Hw := Lib.hid (skF_bd HV.out)
        have Hc := Lib.hid (capS_nn HV.out)
        have hlft : sp - T < 0 := by omega
        have hneg : IntKind.i64.wrap (sp - T) = sp - T := IntWalk.i64_in _ (by omega)
        have hng2 : IntKind.i64.wrap (-(sp - T)) = L := by rw [show -(sp - T) = T - sp by omega, hL.out]; exact IntWalk.i64_in _ (by omega)
        clear hle HF
        go_wp2
        try rw [hL.out]
        clear hlft hneg
        go_loopw [8] (fun sv wr => ∃ k : Nat, sv = .int .i64 (lfI n (capS zs) (skF zs) L k) ∧ Hid ((∀ j, j < k → ¬ stp n (capS zs) (skF zs) L j) ∧ Fs w wr w.heap.size (w.heap.size + 1) (w.heap.size + 1 + 1) lo A n c (skI zs n L k))) (fun sv _ => (intOf sv).toNat)
        case atStart => exact ⟨0, vint (by unfold lfI; simp only [dst]; rw [sm_const]; omega), fun j hj => absurd hj (by omega), HM0.out⟩
        case round =>
          obtain ⟨k, rfl, hS⟩ := hrel
          obtain ⟨l0, l1⟩ := lfI_bd Hw.out (by omega) Hc.out hL0 k
          have hless := fun h => lfI_less Hw.out (by omega) Hc.out hL0 (k := k) h
          have hfst := fun h => dst_first Hw.out (by omega) Hc.out hL0 (k := k) hS.out.1 h
          have HLess := Lib.hid hless
          have HFst := Lib.hid hfst
          clear hless hfst
          obtain ⟨S, hS'⟩ : ∃ S, Hid (lfI n (capS zs) (skF zs) L k = S) := ⟨_, rfl⟩
          rw [hS'.out] at l0 l1 ⊢
          have HK0 := Lib.hid (Bk.made wr n 3)
          have HF0 := Lib.hid (hS.out.2.below ((Below.refl wr.heap.size wr).alloc (Nat.le_refl _) (.cells (madeCells #[Value.int .i64 0] n) 3)))
          have hszW : lo ≤ wr.heap.size := hS.out.2.size
          have cL1 := hS.out.2.2.1
          have cL2 := HF0.out.2.1
          obtain ⟨gW, hgW⟩ : ∃ g, g = wr.heap.size := ⟨_, rfl⟩
          go_wp2
          rw [← hgW] at HK0 hszW ⊢
          generalize wr.alloc (.cells (madeCells #[Value.int .i64 0] n) 3) = wX at HK0 HF0 cL2 ⊢
          clear cL1 cL2 hgW
          go_loopw [50] (fun iv wr => ∃ i : Nat, i ≤ n ∧ iv = .int .i64 i ∧ Hid (Fs w wr w.heap.size (w.heap.size + 1) (w.heap.size + 1 + 1) lo A n c (skI zs n L k) ∧ Bk wr gW n (mk n fun q => if q < i then (if dst n (capS zs) (skF zs) L k q < capS zs q then skF zs q else 0) else 0))) (fun iv _ => n - (intOf iv).toNat)
          case atStart => exact ⟨0, Nat.zero_le _, rfl, HF0.out, HK0.out.mk_to fun i _ => by simp⟩
          case round =>
            obtain ⟨i, hi, rfl, hI⟩ := hrel
            by_cases hlt : i < n
            · obtain ⟨q1, q2⟩ := skI_bd HV.out hL0 k hlt
              obtain ⟨v1, v2, v3, v4, ⟨v5, v6⟩, v7, v8⟩ := HV.out.at_ hlt
              obtain ⟨b, off, rfl, hb, hc⟩ := H.out.cell (by omega)
              have hcell : ∀ j, j < 5 * n → wr.cell? ⟨b, off + j, none⟩ = some (.int .i64 (zs.getD j 0)) := fun j hj => by rw [hI.out.1.bl.cell (p := ⟨b, off + j, none⟩) hb]; exact hc j hj
              obtain ⟨c0, c1, c2, c3, c4⟩ := at5 hcell hlt
              have cx := (hI.out.1.bk.2.2 i hlt).1
              rw [mk_getD _ _ _ hlt] at cx
              obtain ⟨x, hx⟩ : ∃ x, Hid (skI zs n L k i = x) := ⟨_, rfl⟩
              obtain ⟨u, hu⟩ : ∃ u, Hid (mnF zs i = u) := ⟨_, rfl⟩
              obtain ⟨g, hg⟩ : ∃ g, Hid (skF zs i = g) := ⟨_, rfl⟩
              rw [show zs.getD (5 * i + 1) 0 = u from hu.out] at c1
              rw [show zs.getD (5 * i + 4) 0 = g from hg.out] at c4
              rw [hx.out] at cx q1 q2
              rw [hu.out] at q1 v1 v2
              rw [hg.out] at v7 v8
              have htest : 0 < x - u ↔ dst n (capS zs) (skF zs) L k i < capS zs i := by
                rw [← hx.out, ← hu.out]; unfold skI capS; omega
              have Hroom := Lib.hid (room2_any i n c n w.heap.size (w.heap.size + 1) (w.heap.size + 1 + 1) b off x u g wr hI.out.1.2.1 hI.out.1.2.2.1 hlt (by omega) cx c1 c4 (by omega) (by omega) (by omega) (by omega))
              obtain ⟨cw, fw⟩ := hI.out.2.2.2 i hlt
              obtain ⟨cw0, hcw0⟩ : ∃ u, Hid ((mk n fun q => if q < i then (if dst n (capS zs) (skF zs) L k q < capS zs q then skF zs q else 0) else 0).getD i 0 = u) := ⟨_, rfl⟩
              rw [hcw0.out] at cw
              have HT2 := Lib.hid htest
              clear hcell hc htest c0 c1 c2 c3 c4 cx
              go_wp2_with fail
              refine Hroom.out.mono ?_
              rintro e w2 ⟨rfl, dn, rfl⟩
              by_cases hd : 0 < x - u
              · have HN : Hid (Fs w ((wr.drewN dn).setCell ⟨gW, i, none⟩ (.int .i64 g)) w.heap.size (w.heap.size + 1) (w.heap.size + 1 + 1) lo (some ⟨b, off, none⟩) n c (skI zs n L k) ∧ Bk ((wr.drewN dn).setCell ⟨gW, i, none⟩ (.int .i64 g)) gW n (mk n fun q => if q < i + 1 then (if dst n (capS zs) (skF zs) L k q < capS zs q then skF zs q else 0) else 0)) := by
                  refine ⟨(hI.out.1.drewN dn).grown (gb_one _ ⟨gW, i, none⟩ _) (fun r e => by have e2 : some gW = some r := e; injection e2 with e2; omega), ((hI.out.2.drewN dn).setMk hlt g).mk_to fun q _ => ?_⟩
                  by_cases h1 : q = i
                  · subst h1; rw [if_pos rfl, if_pos (by omega), if_pos (HT2.out.1 hd), hg.out]
                  · have : q < i + 1 ↔ q < i := by omega
                    simp [h1, this]
                go_wp2
                go_roundw
                case rel => exact ⟨i + 1, by omega, by go_num, HN.out⟩
                case measure => simp [intOf]; omega
              · have hd2 : x - u ≤ 0 := by omega
                have HN : Hid (Fs w (wr.drewN dn) w.heap.size (w.heap.size + 1) (w.heap.size + 1 + 1) lo (some ⟨b, off, none⟩) n c (skI zs n L k) ∧ Bk (wr.drewN dn) gW n (mk n fun q => if q < i + 1 then (if dst n (capS zs) (skF zs) L k q < capS zs q then skF zs q else 0) else 0)) := by
                  refine ⟨hI.out.1.drewN dn, (hI.out.2.drewN dn).mk_to fun q _ => ?_⟩
                  by_cases h1 : q = i
                  · subst h1; rw [if_neg (by omega), if_pos (by omega), if_neg (fun h => hd (HT2.out.2 h))]
                  · have : q < i + 1 ↔ q < i := by omega
                    simp [this]
                clear hd
                go_wp2
                go_roundw
                case rel => exact ⟨i + 1, by omega, by go_num, HN.out⟩
                case measure => simp [intOf]; omega
            · obtain rfl : n = i := by omega
              have HSh := Lib.hid (shI_all Hw.out Hc.out hL0 hL1 k)
              have HShE : Hid (shr S (wtL n (capS zs) (skF zs) (dst n (capS zs) (skF zs) L k)) = shI n (capS zs) (skF zs) L k) := by
                show _ = _; rw [← hS'.out]; rfl
              have HWt : Hid (Rd wr wr.heap.size (some ⟨gW, 0, none⟩) n (wtL n (capS zs) (skF zs) (dst n (capS zs) (skF zs) L k))) := ((hI.out.2.mk_to fun q hq => if_pos hq).wr (Nat.zero_le _)).rd
              have HM1 := Lib.hid hI.out.1
              go_wp2_with fail
              refine (share_any S _ n n _ wr HWt.out (by omega) l0 (by omega) ((wtL_all Hw.out (by omega) _).mono (by omega) (by omega))).mono ?_
              rintro e w5 ⟨A5, n5, c5, rfl, hc5, hw5, hb5⟩
              rw [HShE.out] at hw5
              obtain rfl : n = n5 := by have h5 := hw5.1; rw [shI_len] at h5; exact h5
              have HW5 : Hid (Wr w5 lo A5 n (shI n (capS zs) (skF zs) L k)) := hw5.low HM1.out.size
              have HM5 := Lib.hid (HM1.out.below hb5)
              clear hw5 hb5 hc5 HWt hI
              obtain ⟨U, hU⟩ : ∃ T, Hid (tot (shI n (capS zs) (skF zs) L k) n = T) := ⟨_, rfl⟩
              go_wp2_with fail
              refine (total_any A5 n c5 _ _ w5 HW5.out.rd (by omega) (HSh.out.mono (by omega) (by omega))).mono ?_
              rintro e w' ⟨rfl, rfl⟩
              rw [hU.out]
              by_cases hT0 : U = 0
              · have hTb : (U == 0) = true := by simp [hT0]
                have HStp : Hid (stp n (capS zs) (skF zs) L k) := by show tot _ _ = 0; rw [hU.out]; exact hT0
                have cS5 := HM5.out.2.2.1
                clear hT0
                go_wp2
                go_ret
                rw [HE.out]
                have hfin := HM5.out.to (f' := skI zs n L (n + 1)) fun i hi => by unfold skI; rw [HFst.out HStp.out i hi]
                exact GotI.bk hfin.bk hfin.low hfin.bl
              · have hTb : (U == 0) = false := by simp [hT0]
                have HStp : Hid (¬ stp n (capS zs) (skF zs) L k) := by show ¬ tot _ _ = 0; rw [hU.out]; exact hT0
                clear hT0
                go_wp2
                go_loopw [8, 75] (fun sv iv wr => ∃ i : Nat, i ≤ n ∧ iv = .int .i64 i ∧ sv = .int .i64 (S - sm (mvI n (capS zs) (skF zs) L k) i) ∧ Hid (Fs w wr w.heap.size (w.heap.size + 1) (w.heap.size + 1 + 1) lo A n c (fun q => if q < i then skI zs n L (k + 1) q else skI zs n L k q) ∧ Wr wr lo A5 n (shI n (capS zs) (skF zs) L k))) (fun _ iv _ => n - (intOf iv).toNat)
                case atStart => exact ⟨0, Nat.zero_le _, rfl, vint (by simp [sm]), HM5.out.to fun i _ => by simp, HW5.out⟩
                case round =>
                  obtain ⟨i, hi, rfl, rfl, hJ⟩ := hrel
                  obtain ⟨r0, r1⟩ := mvS_bd Hw.out (by omega) Hc.out hL0 k i hi
                  rw [hS'.out] at r1
                  by_cases hlt2 : i < n
                  · obtain ⟨q1, q2⟩ := skI_bd HV.out hL0 k hlt2
                    obtain ⟨v1, v2, v3, v4, _, _⟩ := HV.out.at_ hlt2
                    obtain ⟨s0', s1'⟩ := HSh.out.getD i (by rw [shI_len]; exact hlt2)
                    obtain ⟨b, off, rfl, hb, hc⟩ := H.out.cell (by omega)
                    have hcell : ∀ j, j < 5 * n → wr.cell? ⟨b, off + j, none⟩ = some (.int .i64 (zs.getD j 0)) := fun j hj => by rw [hJ.out.1.bl.cell (p := ⟨b, off + j, none⟩) hb]; exact hc j hj
                    obtain ⟨c0, c1, c2, c3, c4⟩ := at5 hcell hlt2
                    have cx := (hJ.out.1.bk.2.2 i hlt2).1
                    have fx' := (hJ.out.1.bk.2.2 i hlt2).2
                    rw [mk_getD _ _ _ hlt2, if_neg (by omega)] at cx
                    obtain ⟨b5, o5, rfl, hl5, hb5, hc5⟩ := hJ.out.2.2 (by omega)
                    have cs := (hc5 i hlt2).1
                    obtain ⟨x, hx⟩ : ∃ x, Hid (skI zs n L k i = x) := ⟨_, rfl⟩
                    obtain ⟨u, hu⟩ : ∃ u, Hid (mnF zs i = u) := ⟨_, rfl⟩
                    obtain ⟨g, hg⟩ : ∃ g, Hid (skF zs i = g) := ⟨_, rfl⟩
                    obtain ⟨s, hs⟩ : ∃ s, Hid ((shI n (capS zs) (skF zs) L k).getD i 0 = s) := ⟨_, rfl⟩
                    obtain ⟨R, hR⟩ : ∃ R, Hid (sm (mvI n (capS zs) (skF zs) L k) i = R) := ⟨_, rfl⟩
                    obtain ⟨m, hm⟩ : ∃ m, Hid (min s (x - u) = m) := ⟨_, rfl⟩
                    rw [show zs.getD (5 * i + 1) 0 = u from hu.out] at c1
                    rw [show zs.getD (5 * i + 4) 0 = g from hg.out] at c4
                    rw [hx.out] at cx q1 q2
                    rw [hu.out] at q1 v1 v2
                    rw [hs.out] at cs s0' s1'
                    rw [hR.out] at r0 r1 ⊢
                    have hm0 : 0 ≤ m ∧ m ≤ x - u := by rw [← hm.out]; omega
                    obtain ⟨m0, m1⟩ := hm0
                    have Hmv : Hid (mvI n (capS zs) (skF zs) L k i = m) := by
                      show _ = _
                      unfold mvI
                      rw [hs.out, ← hm.out, ← hx.out, ← hu.out]
                      unfold skI capS
                      congr 1
                      omega
                    have Hnew : Hid (skI zs n L (k + 1) i = x - m) := by
                      show _ = _
                      have e := dst_mv (n := n) (cap := capS zs) (wt := skF zs) (L := L) k i
                      rw [Hmv.out] at e
                      rw [← hx.out]; unfold skI; omega
                    have Hroom := Lib.hid (room2_any i n c n w.heap.size (w.heap.size + 1) (w.heap.size + 1 + 1) b off x u g wr hJ.out.1.2.1 hJ.out.1.2.2.1 hlt2 (by omega) cx c1 c4 (by omega) (by omega) (by omega) (by omega))
                    have cS5 := hJ.out.1.2.2.1
                    have HCx := Lib.hid cx
                    clear hcell hc c0 c1 c2 c3 c4 hc5 cx cS5
                    go_wp2_with fail
                    refine Hroom.out.mono ?_
                    rintro e w2 ⟨rfl, dn, rfl⟩
                    have cx := HCx.out
                    have cS5 := hJ.out.1.2.2.1
                    have HN : Hid (Fs w ((wr.drewN dn).setCell ⟨w.heap.size + 1, i, none⟩ (.int .i64 (x - m))) w.heap.size (w.heap.size + 1) (w.heap.size + 1 + 1) lo (some ⟨b, off, none⟩) n c (fun q => if q < i + 1 then skI zs n L (k + 1) q else skI zs n L k q) ∧ Wr ((wr.drewN dn).setCell ⟨w.heap.size + 1, i, none⟩ (.int .i64 (x - m))) lo (some ⟨b5, o5, none⟩) n (shI n (capS zs) (skF zs) L k)) := by
                      refine ⟨((hJ.out.1.drewN dn).set hlt2 (x - m)).to fun q _ => ?_, (hJ.out.2.drewN dn).grown (gb_one _ ⟨w.heap.size + 1, i, none⟩ _) (fun r e => by have e2 : some (w.heap.size + 1) = some r := e; injection e2 with e2; omega)⟩
                      by_cases h1 : q = i
                      · subst h1; rw [if_pos rfl, if_pos (by omega), Hnew.out]
                      · have : q < i + 1 ↔ q < i := by omega
                        simp [h1, this]
                    have hmm : min s (x - u) = m := hm.out
                    have w2' : IntKind.i64.wrap ((-1) * m) = (-1) * m := IntWalk.i64_in _ (by omega)
                    go_wp2
                    clear hmm w2' cx cS5
                    go_roundw
                    case rel => exact ⟨i + 1, by omega, by go_num, vint (by rw [sm, hR.out, Hmv.out]; omega), by first | exact HN.out | (have h := HN.out; simpa using h)⟩
                    case measure => simp [intOf]; omega
                  · obtain rfl : n = i := by omega
                    have HN : Hid (S - sm (mvI n (capS zs) (skF zs) L k) n = lfI n (capS zs) (skF zs) L (k + 1)) := by show _ = _; rw [lfI_mv, hS'.out]
                    have hl2 := HLess.out HStp.out
                    rw [hS'.out] at hl2
                    rw [HN.out]
                    have HK2 : Hid ((∀ j, j < k + 1 → ¬ stp n (capS zs) (skF zs) L j) ∧ Fs w wr w.heap.size (w.heap.size + 1) (w.heap.size + 1 + 1) lo A n c (skI zs n L (k + 1))) := ⟨fun j hj => by
                      rcases Nat.lt_or_ge j k with h1 | h1
                      · exact hS.out.1 j h1
                      · obtain rfl : j = k := by omega
                        exact HStp.out, hJ.out.1.to fun q hq => if_pos hq⟩
                    go_wp2
                    go_roundw
                    case rel => exact ⟨k + 1, rfl, HK2.out⟩
                    case measure =>
                      have h9 := (lfI_bd Hw.out (by omega) Hc.out hL0 (k + 1)).1
                      first | (simp only [intOf]; omega) | (simp [intOf]; omega)
end Go.Proofs.Ytjaecgobgpfbdaa
