/- The program's share of a space. -/
import Derived.Test.YtjaecgobgpfbdaaSB
import Derived.Test.YtjaecgobgpfbdaaS
namespace Go.Proofs.Ytjaecgobgpfbdaa
open Go.RowKit

theorem quiet_mine {P : Program} {f : FuncId} {args : Array Value} {w : World} {n : Nat} {v : Value}
    (h : Calls P f args (w.drewN n) fun e w' => e = .returned v ∧ w.drewN n = w') : Calls P f args (w.drewN n) fun e w'' => e = .returned v ∧ ∃ m, w'' = w.drewN m :=
  h.mono fun _ _ ⟨he, hm⟩ => ⟨he, n, hm.symm⟩
theorem made_room (n : Nat) (hn : n ≤ 2000000) (W : World) : (Instr.makeSlice 33 (.int .i64 0) (.int .i64 (n : Int))).run Try.prog W = .ok (.slice (some ⟨W.heap.size, 0, none⟩) 0 n) (W.alloc (.cells (madeCells #[Value.int .i64 0] n) 3)) := by
  obtain ⟨i0, hi, hz0, hz1, hz2⟩ := info_parts int_info
  have h := run_make_rowN (P := Try.prog) 33 3 i0 (.int .i64 0) Try.underlying33 hi hz0 .i64 .i64 0 n (Nat.zero_le _) (by rw [hz2]; omega) (by omega) W
  rw [hz1, Nat.mul_one] at h
  exact h
set_option maxHeartbeats 1000000 in
theorem sortStable_any (b off c0 : Nat) (lo g1 g2 g3 : Nat) (sp T : Int) (A : Option Addr) (n c : Nat) (ws : List Int) (w : World) (h : Env w lo g1 g2 g3 sp T A n c ws) (hn1 : 1 ≤ n) (hn : n ≤ 16) (hT0 : 0 < T) (hT1 : T ≤ 3200000) (hs0 : 0 ≤ sp) (hs1 : sp ≤ 200000) (hb : AllB ws 0 200000) (hT : tot ws ws.length = T) (hl : lo ≤ w.heap.size) (hW : Wr w lo (some ⟨b, off, none⟩) n (nl (List.range n))) :
    Calls Try.prog 101 #[.slice (some ⟨b, off, none⟩) n c0, .func (.func 102) #[] #[.pointer (some ⟨g1, 0, none⟩), .pointer (some ⟨g2, 0, none⟩), .pointer (some ⟨g3, 0, none⟩)]] w (Sorted w lo b off n (nl (ordW sp ws))) := by
  have H := Lib.hid (insSort_any b off c0 lo g1 g2 g3 sp T A n c ws w h hn1 hn hT0 hT1 hs0 hs1 hb hT hl hW)
  clear h hb hT hW
  have HS : Hid (Calls Try.prog 106 #[.slice (some ⟨b, off, none⟩) n c0, .int .i64 n, .func (.func 102) #[] #[.pointer (some ⟨g1, 0, none⟩), .pointer (some ⟨g2, 0, none⟩), .pointer (some ⟨g3, 0, none⟩)]] w (Sorted w lo b off n (nl (ordW sp ws)))) := by
    show Calls _ _ _ _ _
    have hn' : (n : Int) < 20 := by omega
    go_enter Try.func106, Try.ntmps106
    go_wp2
    refine wp_loop_rounds 1 ?_
    rw [rounds_succ]
    go_wp2_with fail
    refine H.out.mono ?_
    rintro e w1 ⟨rfl, hs⟩
    have HS := Lib.hid hs
    clear hs
    go_wp2
    refine wp_loop_rounds 1 ?_
    rw [rounds_succ]
    go_wp2
    go_end0
    exact ⟨rfl, HS.out⟩
  clear H
  go_enter Try.func101, Try.ntmps101
  go_wp2_with fail
  refine HS.out.mono ?_
  rintro e w1 ⟨rfl, hs⟩
  have HS := Lib.hid hs
  clear hs
  go_wp2
  go_end0
  exact ⟨rfl, HS.out⟩
/- What stands beside the walk of share: its boxes at g0, g1, g3, its shares at g2; all of them are made by the call and lie below lo. -/
def ShS (w wr : World) (g0 g1 g2 g3 lo : Nat) (sp T : Int) (A : Option Addr) (n c : Nat) (f : Nat → Int) : Prop :=
  (w.heap.size ≤ g2 ∧ ¬ g0 = g2 ∧ ¬ g1 = g2 ∧ ¬ g3 = g2 ∧ g0 < lo ∧ g1 < lo ∧ g2 < lo ∧ g3 < lo ∧ lo ≤ wr.heap.size ∧ w.heap.size ≤ lo) ∧
  wr.cell? ⟨g0, 0, none⟩ = some (.int .i64 sp) ∧ wr.cell? ⟨g1, 0, none⟩ = some (.slice A n c) ∧ wr.cell? ⟨g3, 0, none⟩ = some (.int .i64 T) ∧ Bk wr g2 n (mk n f) ∧ Below w.heap.size w wr
section
variable {w wr wr' : World} {g0 g1 g2 g3 lo : Nat} {sp T : Int} {A : Option Addr} {n c : Nat} {f : Nat → Int}
theorem ShS.bk (h : ShS w wr g0 g1 g2 g3 lo sp T A n c f) : Bk wr g2 n (mk n f) := h.2.2.2.2.1
theorem ShS.bl (h : ShS w wr g0 g1 g2 g3 lo sp T A n c f) : Below w.heap.size w wr := h.2.2.2.2.2
theorem ShS.size (h : ShS w wr g0 g1 g2 g3 lo sp T A n c f) : lo ≤ wr.heap.size := h.1.2.2.2.2.2.2.2.2.1
theorem ShS.low (h : ShS w wr g0 g1 g2 g3 lo sp T A n c f) : w.heap.size ≤ g2 := h.1.1
theorem ShS.grown {row : Option Nat} (h : ShS w wr g0 g1 g2 g3 lo sp T A n c f) (hg : wr.grownBy wr' row) (hr : ∀ r, row = some r → lo ≤ r) : ShS w wr' g0 g1 g2 g3 lo sp T A n c f := by
  obtain ⟨⟨a1, a2, a3, a4, a5, a6, a7, a8, a9, a10⟩, h1, h2, h3, h4, h5⟩ := h
  have hk : ∀ b, b < lo → wr'.heap[b]? = wr.heap[b]? := fun b hb => hg.block b (by omega) (fun e => by have := hr b e.symm; omega)
  exact ⟨⟨a1, a2, a3, a4, a5, a6, a7, a8, Nat.le_trans a9 hg.size, a10⟩, (World.cell?_of_block (hk _ a5)).trans h1, (World.cell?_of_block (hk _ a6)).trans h2, (World.cell?_of_block (hk _ a8)).trans h3,
    h4.grown hg (fun e => by have := hr _ e.symm; omega), h5.grown hg (by omega) (fun r e => by have := hr r e; omega)⟩
theorem ShS.alloc (h : ShS w wr g0 g1 g2 g3 lo sp T A n c f) (o : Obj) : ShS w (wr.alloc o) g0 g1 g2 g3 lo sp T A n c f := h.grown (row := none) (gb_alloc (World.grownBy.refl wr _) o) (fun r e => by cases e)
theorem ShS.drewN (h : ShS w wr g0 g1 g2 g3 lo sp T A n c f) (k : Nat) : ShS w (wr.drewN k) g0 g1 g2 g3 lo sp T A n c f := ⟨h.1, h.2.1, h.2.2.1, h.2.2.2.1, h.2.2.2.2.1, below_drewN h.2.2.2.2.2 k⟩
theorem ShS.set (h : ShS w wr g0 g1 g2 g3 lo sp T A n c f) {k : Nat} (hk : k < n) (v : Int) : ShS w (wr.setCell ⟨g2, k, none⟩ (.int .i64 v)) g0 g1 g2 g3 lo sp T A n c (fun i => if i = k then v else f i) := by
  obtain ⟨⟨a1, a2, a3, a4, a5, a6, a7, a8, a9, a10⟩, h1, h2, h3, h4, h5⟩ := h
  have hb : ∀ b, ¬ b = g2 → (wr.setCell ⟨g2, k, none⟩ (.int .i64 v)).heap[b]? = wr.heap[b]? := fun b hb => Below.heap_setCell wr _ _ b hb
  exact ⟨⟨a1, a2, a3, a4, a5, a6, a7, a8, by simpa [World.setCell] using a9, a10⟩, (World.cell?_of_block (hb _ a2)).trans h1, (World.cell?_of_block (hb _ a3)).trans h2, (World.cell?_of_block (hb _ a4)).trans h3,
    h4.setMk hk v, h5.setCell a1 _⟩
theorem ShS.to {f' : Nat → Int} (h : ShS w wr g0 g1 g2 g3 lo sp T A n c f) (hf : ∀ i, i < n → f i = f' i) : ShS w wr g0 g1 g2 g3 lo sp T A n c f' := ⟨h.1, h.2.1, h.2.2.1, h.2.2.2.1, h.2.2.2.2.1.mk_to hf, h.2.2.2.2.2⟩
theorem ShS.env {ws : List Int} (h : ShS w wr g0 g1 g2 g3 lo sp T A n c f) (hr : Rd w w.heap.size A n ws) : Env wr lo g0 g1 g3 sp T A n c ws := by
  obtain ⟨⟨a1, a2, a3, a4, a5, a6, a7, a8, a9, a10⟩, h1, h2, h3, h4, h5⟩ := h
  exact ⟨a5, a6, a8, h1, h2, h3, (hr.below h5).more a10⟩
theorem ShS.start (w : World) (sp T : Int) (A : Option Addr) (n c : Nat) (tI tS : TypeId) :
    ShS w ((((w.alloc (.cells #[.int .i64 sp] tI)).alloc (.cells #[.slice A n c] tS)).alloc (.cells (madeCells #[Value.int .i64 0] n) tI)).alloc (.cells #[.int .i64 T] tI)) w.heap.size (w.heap.size + 1) (w.heap.size + 1 + 1) (w.heap.size + 1 + 1 + 1) (w.heap.size + 1 + 1 + 1 + 1) sp T A n c (fun _ => 0) := by
  have hb := (Bk.made ((w.alloc (.cells #[.int .i64 sp] tI)).alloc (.cells #[.slice A n c] tS)) n tI).alloc (.cells #[.int .i64 T] tI)
  have e : ((w.alloc (.cells #[.int .i64 sp] tI)).alloc (.cells #[.slice A n c] tS)).heap.size = w.heap.size + 1 + 1 := by simp
  rw [e] at hb
  refine ⟨⟨by omega, by omega, by omega, by omega, by omega, by omega, by omega, by omega, by simp, by omega⟩, by simp [go_sem], by simp [go_sem], by simp [go_sem], hb, ?_⟩
  exact ((((Below.refl w.heap.size w).alloc (Nat.le_refl _) _).alloc (by simp) _).alloc (by simp; omega) _).alloc (by simp; omega) _
end
theorem Rw.room (w : World) (lo c : Nat) (h : lo ≤ w.heap.size) (hc : c ≤ 2000000) : Rw lo (.slice (some ⟨w.heap.size, 0, none⟩) 0 c) 0 [] (w.alloc (.cells (madeCells #[Value.int .i64 0] c) 3)) :=
  ⟨World.ownsRow_made w _ c h (by unfold maxLen; omega) (by rw [size_madeCells]; omega), by simp; omega⟩
set_option maxHeartbeats 4000000 in
theorem share_full (sp : Int) (A : Option Addr) (n c : Nat) (ws : List Int) (w : World) (h : Rd w w.heap.size A n ws) (hn : n ≤ 16) (hs0 : 0 ≤ sp) (hs1 : sp ≤ 200000) (hb : AllB ws 0 200000) :
    Calls Try.prog 94 #[.int .i64 sp, .slice A n c] w (GotF w (shr sp ws)) := by
  obtain ⟨i0, hi, hz0, hz1, hz2⟩ := info_parts int_info
  have hmk := fun W => run_make_rowN (P := Try.prog) 33 3 i0 (.int .i64 0) Try.underlying33 hi hz0 .i64 .i64 n n (Nat.le_refl _) (by rw [hz2]; omega) (by omega) W
  rw [hz1] at hmk
  have hmr := made_room n (by omega)
  have H := Lib.hid h
  have HB := Lib.hid hb
  have hl := Lib.hid h.1
  clear h hb hi hz0 hz1 hz2
  have HA := Lib.hid (HB.out.mono (lo' := -1000000) (hi' := 1000000) (by omega) (by omega))
  obtain ⟨T, hT⟩ : ∃ T, Hid (tot ws n = T) := ⟨_, rfl⟩
  have HTl : Hid (tot ws ws.length = T) := by rw [hl.out]; exact hT
  have hT1 : T ≤ 3200000 := by
    have h1 := (tot_ge ws 0 200000 HB.out n (by rw [hl.out]; omega)).2
    have := hT.out
    omega
  have hTn : 0 ≤ T := by
    have := (tot_ge ws 0 200000 HB.out n (by rw [hl.out]; omega)).1
    have := hT.out
    omega
  go_enter Try.func94, Try.ntmps94
  go_wp2_with fail
  refine (total_any A n c ws w.heap.size _ (((H.out.alloc (Nat.le_refl _) _).alloc (by simp) _).alloc (by simp; omega) _) (by omega) HA.out).mono ?_
  rintro e w' ⟨rfl, rfl⟩
  rw [hT.out]
  have HS0 := Lib.hid (ShS.start w sp T A n c 3 33)
  by_cases hT0 : T = 0
  · subst hT0
    go_wp2
    go_ret
    have e : shr sp ws = mk n fun _ => 0 := by unfold shr; rw [HTl.out, if_pos rfl, hl.out]
    rw [e]
    exact GotF.bk HS0.out.bk HS0.out.low HS0.out.bl
  have hTp : 0 < T := by omega
  have hTz : (T == 0) = false := by simp [hT0]
  have HRw : Hid (Rw (w.heap.size + 1 + 1 + 1 + 1) (.slice (some ⟨w.heap.size + 1 + 1 + 1 + 1, 0, none⟩) 0 n) 0 [] (((((w.alloc (.cells #[.int .i64 sp] 3)).alloc (.cells #[.slice A n c] 33)).alloc (.cells (madeCells #[Value.int .i64 0] n) 3)).alloc (.cells #[.int .i64 T] 3)).alloc (.cells (madeCells #[Value.int .i64 0] n) 3))) := by
    have h := Rw.room ((((w.alloc (.cells #[.int .i64 sp] 3)).alloc (.cells #[.slice A n c] 33)).alloc (.cells (madeCells #[Value.int .i64 0] n) 3)).alloc (.cells #[.int .i64 T] 3)) (w.heap.size + 1 + 1 + 1 + 1) n (by simp) (by omega)
    have e : ((((w.alloc (.cells #[.int .i64 sp] 3)).alloc (.cells #[.slice A n c] 33)).alloc (.cells (madeCells #[Value.int .i64 0] n) 3)).alloc (.cells #[.int .i64 T] 3)).heap.size = w.heap.size + 1 + 1 + 1 + 1 := by simp
    rw [e] at h
    exact h
  have HS1 := Lib.hid (HS0.out.alloc (.cells (madeCells #[Value.int .i64 0] n) 3))
  clear HS0
  have hTq : ∀ v : Int, 0 ≤ v → 0 ≤ v / T := fun v hv => Int.ediv_nonneg hv hTn
  have HQ := Lib.hid hTq
  clear hTq
  go_wp2
  generalize ((((w.alloc (.cells #[.int .i64 sp] 3)).alloc (.cells #[.slice A n c] 33)).alloc (.cells (madeCells #[Value.int .i64 0] n) 3)).alloc (.cells #[.int .i64 T] 3)).alloc (.cells (madeCells #[Value.int .i64 0] n) 3) = wa at HS1 HRw ⊢
  generalize w.heap.size + 1 + 1 + 1 + 1 = lo at HS1 HRw ⊢
  generalize w.heap.size + 1 + 1 + 1 = g3 at HS1 ⊢
  generalize w.heap.size + 1 + 1 = g2 at HS1 ⊢
  obtain ⟨g1, hg1⟩ : ∃ g, Hid (w.heap.size + 1 = g) := ⟨_, rfl⟩
  obtain ⟨g0, hg0⟩ : ∃ g, Hid (w.heap.size = g) := ⟨_, rfl⟩
  rw [hg1.out] at HS1 ⊢
  rw [hg0.out]
  have HS : Hid (ShS w wa g0 g1 g2 g3 lo sp T A n c (fun _ => 0)) := by have h := HS1.out; rw [hg0.out] at h; exact h
  clear HS1
  have hlow : w.heap.size ≤ lo := HS.out.1.2.2.2.2.2.2.2.2.2
  have hg2lo : g2 < lo := HS.out.1.2.2.2.2.2.2.1
  go_loopw [7, 25] (fun ov iv wr => ∃ k : Nat, k ≤ n ∧ iv = .int .i64 k ∧ Hid (Rw lo ov k (nl (List.range k)) wr ∧ ShS w wr g0 g1 g2 g3 lo sp T A n c (fun i => if i < k then bsW sp ws i else 0))) (fun _ iv _ => n - (intOf iv).toNat)
  case atStart => exact ⟨0, Nat.zero_le _, rfl, HRw.out, HS.out.to fun i _ => by simp⟩
  case round =>
    obtain ⟨k, hk, rfl, hI⟩ := hrel
    by_cases hlt : k < n
    · obtain ⟨b, off, rfl, hbl, hc⟩ := H.out.cell (by omega)
      obtain ⟨v0, v1⟩ := HB.out.getD k (by rw [hl.out]; omega)
      obtain ⟨v, hv⟩ : ∃ v, Hid (ws.getD k 0 = v) := ⟨_, rfl⟩
      rw [hv.out] at v0 v1
      obtain ⟨p0, p1⟩ := prod_bd hs0 hs1 v0 v1
      have HE1 : Hid (bsW sp ws k = sp * v / T) := by unfold bsW; rw [hv.out, HTl.out]; rfl
      have d0 : 0 ≤ sp * v / T := HQ.out _ p0
      have d1 : sp * v / T ≤ 40000000000 := Int.le_trans (Int.ediv_le_self _ p0) p1
      have hcell : wr.cell? ⟨b, off + k, none⟩ = some (.int .i64 v) := by rw [← hv.out, hI.out.2.bl.cell (p := ⟨b, off + k, none⟩) hbl]; exact hc k hlt
      have cS := hI.out.2.2.1
      have cT := hI.out.2.2.2.2.1
      obtain ⟨c2, f2⟩ := hI.out.2.bk.2.2 k hlt
      obtain ⟨u2, hu2⟩ : ∃ u, Hid ((mk n fun i => if i < k then bsW sp ws i else 0).getD k 0 = u) := ⟨_, rfl⟩
      rw [hu2.out] at c2
      clear hc hu2
      have HR1 := Lib.hid (hI.out.1.grown (gb_one wr ⟨g2, k, none⟩ (.int .i64 (sp * v / T))) (fun r e => by have e2 : some g2 = some r := e; injection e2 with e2; omega))
      have HS2 := Lib.hid (hI.out.2.set hlt (sp * v / T))
      go_wp2_with (at_builtin; refine wpList_app2 _ rfl _ _ rfl lo _ _ _ rfl (HR1.out.alloc _) (by omega) wr.heap.size k rfl (by simp [go_sem]) ?_; intro v' w1 how hg; have HO := Lib.hid how; have HG := Lib.hid hg; clear how hg)
      have HN : Hid (Rw lo v' (k + 1) (nl (List.range (k + 1))) w1 ∧ ShS w w1 g0 g1 g2 g3 lo sp T (some ⟨b, off, none⟩) n c (fun i => if i < k + 1 then bsW sp ws i else 0)) := by
        refine ⟨?_, ((HS2.out.alloc _).grown HG.out (fun r e => HR1.out.row r e)).to fun i _ => ?_⟩
        · have h := HO.out
          rw [List.range_succ, nl_app]
          exact h
        · by_cases h1 : i = k
          · subst h1; simp [HE1.out]
          · have : i < k + 1 ↔ i < k := by omega
            simp [h1, this]
      go_roundw
      case rel => exact ⟨k + 1, by omega, by go_num, HN.out⟩
      case measure => simp [intOf]; omega
    · obtain rfl : k = n := by omega
      have hn1 : 1 ≤ k := by
        rcases Nat.eq_zero_or_pos k with h0 | h0
        · have h1 := hT.out
          rw [h0, tot_zero] at h1
          omega
        · exact h0
      obtain ⟨Ao, co, rfl, hco, hcm, _, hWo⟩ := hI.out.1.outN
      obtain ⟨bo, oo, rfl, hlo, _⟩ := hWo.2 hn1
      have HWo := Lib.hid hWo
      have HS2 := Lib.hid (hI.out.2.to (f' := bsW sp ws) fun i hi => by simp [hi])
      unfold maxLen at hcm
      clear hI hWo
      go_wp2_with fail
      refine (sortStable_any bo oo co lo g0 g1 g3 sp T A k c ws _ (HS2.out.env H.out) hn1 hn hTp hT1 hs0 hs1 HB.out HTl.out HS2.out.size HWo.out).mono ?_
      rintro e w1 ⟨rfl, hW1, hG1⟩
      have HW1 := Lib.hid hW1
      have HS3 := Lib.hid (HS2.out.grown hG1 (fun r e => by injection e with e; omega))
      clear hW1 hG1 HS2 HWo
      obtain ⟨k0, k1⟩ := kW_bd (sp := sp) (ws := ws) (by rw [HTl.out]; exact hTp)
      have HK : Hid (kW sp ws = sp - sm (bsW sp ws) k) := by unfold kW; rw [hl.out]; rfl
      rw [hl.out] at k1
      obtain ⟨K, hK⟩ := Int.eq_ofNat_of_zero_le k0
      have HKn : Hid ((kW sp ws).toNat = K) := by show (kW sp ws).toNat = K; omega
      rw [hK] at k1
      have hk2 : K < k := by omega
      obtain ⟨S, hS⟩ : ∃ S, Hid (sm (bsW sp ws) k = S) := ⟨_, rfl⟩
      have hsub0 : sp - S = K := by have h1 := HK.out; rw [hS.out] at h1; omega
      have hsub : IntKind.i64.wrap (sp - S) = K := by rw [hsub0]; exact IntWalk.i64_in _ (by omega)
      have hkc : (K : Int) ≤ (co : Int) := by omega
      have hk3 : (0 : Int) ≤ (K : Int) := by omega
      have HTo : Hid (∀ m, Calls Try.prog 91 #[.slice (some ⟨g2, 0, none⟩) k k] (w1.drewN m) fun e w' => e = .returned (.int .i64 S) ∧ w1.drewN m = w') := by
        intro m
        have h1 := total_any (some ⟨g2, 0, none⟩) k k (mk k (bsW sp ws)) _ (w1.drewN m) (((HS3.out.bk.wr (Nat.zero_le _)).rd).drewN m) (by omega) (mk_AllB _ _ _ _ fun i hi => by
          have := bsW_le hs0 HB.out (by rw [HTl.out]; exact hTp) i (by rw [hl.out]; exact hi)
          omega)
        rw [tot_mk, hS.out] at h1
        exact h1
      have cS := HS3.out.2.1
      clear k0 k1 hsub0 hK
      go_wp2
      go_quiet ((go_at_call 91; exact quiet_mine (HTo.out _)))
      clear hsub cS
      go_wp2
      obtain ⟨wb, hwb⟩ : ∃ W, Hid (w1.drewN nq = W) := ⟨_, rfl⟩
      have HS4 := Lib.hid ((HS3.out.drewN nq).to (f' := shT sp ws 0) fun i _ => by simp [shT])
      have HW4 := Lib.hid (HW1.out.drewN nq)
      rw [hwb.out] at HS4 HW4 ⊢
      clear HS3 HW1 hwb
      have HordW : Hid ((ordW sp ws).length = k) := by unfold ordW; rw [ordOf_len, hl.out]; rfl
      go_loopw [53] (fun tv wr => ∃ t : Nat, t ≤ K ∧ tv = .int .i64 t ∧ Hid (Wr wr lo (some ⟨bo, oo, none⟩) k (nl (ordW sp ws)) ∧ ShS w wr g0 g1 g2 g3 lo sp T A k c (shT sp ws t))) (fun tv _ => K - (intOf tv).toNat)
      case atStart => exact ⟨0, Nat.zero_le _, rfl, HW4.out, HS4.out⟩
      case round =>
        obtain ⟨t, ht, rfl, hI⟩ := hrel
        by_cases hlt2 : t < K
        · have htk : t < k := by omega
          obtain ⟨_, _, hc⟩ := hI.out.1.at_ (by omega)
          have c1 := (hc t htk).1
          rw [nl_getD _ _ (by rw [HordW.out]; exact htk)] at c1
          obtain ⟨a, ha⟩ : ∃ a, Hid ((ordW sp ws).getD t 0 = a) := ⟨_, rfl⟩
          have hak : a < k := by
            have h1 := getD_ord_lt (r := rsW sp ws) (n := ws.length) (t := t) (by rw [hl.out]; exact htk)
            rw [hl.out] at h1
            have h2 := ha.out
            unfold ordW at h2
            rw [hl.out] at h2
            omega
          rw [ha.out] at c1
          obtain ⟨c2, f2⟩ := hI.out.2.bk.2.2 a hak
          rw [mk_getD _ _ _ hak] at c2
          obtain ⟨x0, x1⟩ := shT_le hs0 HB.out (by rw [HTl.out]; exact hTp) t a (by rw [hl.out]; exact hak)
          obtain ⟨x, hx⟩ : ∃ x, Hid (shT sp ws t a = x) := ⟨_, rfl⟩
          rw [hx.out] at c2 x0 x1
          have HS5 := Lib.hid (hI.out.2.set hak (x + 1))
          have HW5 := Lib.hid (hI.out.1.keep (w' := wr.setCell ⟨g2, a, none⟩ (.int .i64 (x + 1))) (by simp [World.setCell]) (fun b hb1 _ => Below.heap_setCell wr _ _ b (by show ¬ b = g2; omega)))
          clear hc
          go_wp2
          go_roundw
          case rel =>
            refine ⟨t + 1, by omega, by go_num, HW5.out, HS5.out.to fun i _ => ?_⟩
            rw [shT_succ (by rw [hl.out]; exact htk), ha.out]
            by_cases h1 : i = a
            · subst h1; rw [if_pos rfl, if_pos rfl, hx.out]
            · rw [if_neg h1, if_neg h1]
          case measure => simp [intOf]; omega
        · obtain rfl : t = K := by omega
          go_wp2
          go_ret
          have e : shr sp ws = mk k (shT sp ws t) := by unfold shr; rw [HKn.out, if_neg (by rw [HTl.out]; omega), hl.out]
          rw [e]
          exact GotF.bk hI.out.2.bk hI.out.2.low hI.out.2.bl
theorem share_any (sp : Int) (A : Option Addr) (n c : Nat) (ws : List Int) (w : World) (h : Rd w w.heap.size A n ws) (hn : n ≤ 16) (hs0 : 0 ≤ sp) (hs1 : sp ≤ 200000) (hb : AllB ws 0 200000) :
    Calls Try.prog 94 #[.int .i64 sp, .slice A n c] w (GotI w (shr sp ws)) := (share_full sp A n c ws w h hn hs0 hs1 hb).mono fun _ _ h => h.got
end Go.Proofs.Ytjaecgobgpfbdaa
