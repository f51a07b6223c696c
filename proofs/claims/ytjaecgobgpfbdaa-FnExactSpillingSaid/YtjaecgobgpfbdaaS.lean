/- The generator of lists of integers: rows of the call's own beside the reader; copyInts, spoil. -/
import Derived.Test.YtjaecgobgpfbdaaR
import Derived.Test.YtjaecgobgpfbdaaBA
import Derived.Laws.AppendOwnNone
namespace Go.Proofs.Ytjaecgobgpfbdaa
open Go.RowKit

/- What stands behind some picks since w0: the reader at block g, and that nothing but it and new blocks has turned. -/
def Gs (w0 : World) (g : Nat) (A : Option Addr) (n c K : Nat) (w : World) : Prop :=
  Rdr w g A n c K ∧ w0.grownBy w (some g) ∧ g < w0.heap.size ∧ ∀ b off, A = some ⟨b, off, none⟩ → 0 < n → b < w0.heap.size
section
variable {w0 w w' : World} {g n c K : Nat} {A : Option Addr}
theorem Gs.start (h : Rdr w g A n c K) : Gs w g A n c K w := ⟨h, World.grownBy.refl w _, h.lt, h.bytes_lt⟩
theorem Gs.rd (h : Gs w0 g A n c K w) : Rdr w g A n c K := h.1
theorem Gs.gb (h : Gs w0 g A n c K w) : w0.grownBy w (some g) := h.2.1
theorem Gs.lt (h : Gs w0 g A n c K w) : g < w0.heap.size := h.2.2.1
theorem Gs.size (h : Gs w0 g A n c K w) : w0.heap.size ≤ w.heap.size := h.2.1.size
theorem Gs.ne (h : Gs w0 g A n c K w) : ¬ w.heap.size = g := by have := h.lt; have := h.size; omega
theorem Gs.alloc (h : Gs w0 g A n c K w) (o : Obj) : Gs w0 g A n c K (w.alloc o) := ⟨h.1.alloc o, gb_alloc h.2.1 o, h.2.2⟩
theorem Gs.pick {K' : Nat} (h : Gs w0 g A n c K w) (hp : AfterPick w g A n c K' w') : Gs w0 g A n c K' w' := ⟨hp.1, gb_trans h.2.1 hp.2, h.2.2⟩
theorem Gs.mono {K' : Nat} (h : Gs w0 g A n c K w) (hk : K ≤ K') : Gs w0 g A n c K' w := ⟨h.1.mono hk, h.2⟩
theorem Gs.drewN (h : Gs w0 g A n c K w) (k : Nat) : Gs w0 g A n c K (w.drewN k) := ⟨h.1.drewN k, gb_drewN h.2.1 k, h.2.2⟩
/- A step that may have written a block that is newer than w0. -/
theorem Gs.grown {row : Option Nat} (h : Gs w0 g A n c K w) (hg : w.grownBy w' row) (hr : ∀ r, row = some r → w0.heap.size ≤ r) : Gs w0 g A n c K w' := by
  obtain ⟨⟨a1, a2, a3, ⟨q, hq, a4⟩, a5, a6⟩, h2, h3, h4⟩ := h
  have hs := h2.size
  have hk : ∀ b, b < w0.heap.size → w'.heap[b]? = w.heap[b]? := fun b hb => hg.block b (by omega) (fun e => by have := hr b e.symm; omega)
  refine ⟨⟨by have := hg.size; omega, a2, by rw [World.cell?_of_block (hk g h3)]; exact a3, ⟨q, hq, by rw [World.cell?_of_block (hk g h3)]; exact a4⟩, by rw [World.frozen?_of_block (hk g h3)]; exact a5, fun hn => ?_⟩, ?_, h3, h4⟩
  · obtain ⟨b, off, e, hb, hne, hu⟩ := a6 hn
    refine ⟨b, off, e, by have := hg.size; omega, hne, fun i hi => ?_⟩
    obtain ⟨u, hu1, hu2⟩ := hu i hi
    exact ⟨u, hu1, by rw [World.cell?_of_block (hk b (h4 b off e hn))]; exact hu2⟩
  · exact ⟨hg.os.trans h2.os, hg.tape.trans h2.tape, hg.output.trans h2.output, Nat.le_trans h2.size hg.size, fun i hi hne => (hk i hi).trans (h2.block i hi hne)⟩
theorem Gs.below (h : Gs w0 g A n c K w) (hb : Below w.heap.size w w') : Gs w0 g A n c K w' := h.grown (gb_below hb none) (fun r e => by cases e)
theorem Gs.after (h : Gs w0 g A n c K w) : AfterPick w0 g A n c K w := ⟨h.1, h.2.1⟩
end
/- A row of the call's own, among blocks from lo on, beside the reader's block g < lo. -/
def Rw (lo : Nat) (v : Value) (m : Nat) (zs : List Int) (w : World) : Prop := w.ownsRow lo 3 1 v m (iv zs) ∧ lo ≤ w.heap.size
section
variable {w w' : World} {lo m : Nat} {v : Value} {zs : List Int}
theorem Rw.alloc (h : Rw lo v m zs w) (o : Obj) : Rw lo v m zs (w.alloc o) := ⟨h.1.alloc o, by have := h.2; simp; omega⟩
theorem Rw.grown {row : Option Nat} (h : Rw lo v m zs w) (hg : w.grownBy w' row) (hr : ∀ r, row = some r → r < lo) : Rw lo v m zs w' :=
  ⟨h.1.kept hg (by
    cases hv : v.ownBlock with
    | none => exact .inl rfl
    | some k => exact .inr (fun e => by have h1 := (h.1.lt k hv).1; have h2 := hr k e.symm; omega)), Nat.le_trans h.2 hg.size⟩
theorem Rw.pick {g n c K : Nat} {A : Option Addr} (h : Rw lo v m zs w) (hp : AfterPick w g A n c K w') (hg : g < lo) : Rw lo v m zs w' := h.grown hp.2 (fun r e => by injection e with e; omega)
theorem Rw.below (h : Rw lo v m zs w) (hb : Below w.heap.size w w') : Rw lo v m zs w' := h.grown (gb_below hb none) (fun r e => by cases e)
theorem Rw.empty (w : World) (lo : Nat) (h : lo ≤ w.heap.size) : Rw lo (.slice (some ⟨w.heap.size, 0, none⟩) 0 0) 0 [] (w.alloc (.cells #[] 3)) :=
  ⟨World.ownsRow_made w #[] 0 h (by simp [maxLen]) rfl, by simp; omega⟩
theorem Rw.len (h : Rw lo v m zs w) : zs.length = m := by have := h.1.1; simpa [iv] using this
theorem Rw.out (h : Rw lo v m zs w) : ∃ A c, v = .slice A m c ∧ m ≤ c ∧ c ≤ maxLen ∧ Wr w lo A m zs := by
  obtain ⟨A, c, e, hw, hc, hm, _⟩ := Wr.of_own h.1
  exact ⟨A, c, e, hc, hm, hw⟩
theorem Rw.row (h : Rw lo v m zs w) : ∀ r, v.ownBlock = some r → lo ≤ r := fun r e => (h.1.lt r e).1
end
theorem Rw.outN {w : World} {lo m : Nat} {v : Value} {zs : List Int} (h : Rw lo v m zs w) : ∃ A c, v = .slice A m c ∧ m ≤ c ∧ c ≤ maxLen ∧ (A = none → c = 0) ∧ Wr w lo A m zs := by
  obtain ⟨A, c, e, h1, h2, h3⟩ := h.out
  refine ⟨A, c, e, h1, h2, ?_, h3⟩
  rintro rfl
  rcases h.1.2 with ⟨e2, _⟩ | ⟨g, cap, cur, e2, _⟩
  · rw [e] at e2; injection e2
  · rw [e] at e2; injection e2 with e3; cases e3
theorem gb_one (w : World) (p : Addr) (u : Value) : w.grownBy (w.setCell p u) (some p.block) := gb_set (World.grownBy.refl w _) (.inl rfl) u
theorem wpList_app2 (w : World) {ops : Array Oper} {rest : List Oper} {o : Oper} {a : Act} {Q : Exit → Act → World → Prop} (hgd : o.guard = none) (s x : Operand)
    (ho : o.op = .call { callee := .builtin .append, args := #[s, x], argTypes := #[33, 33] })
    (lo : Nat) (v : Value) (n : Nat) (zs : List Int) (hs : a.eval s = v) (hown : Rw lo v n zs w) (hn : n ≤ 2000000) (g : Nat) (X : Int) (hx : a.eval x = .slice (some ⟨g, 0, none⟩) 1 1) (hcell : w.cell? ⟨g, 0, none⟩ = some (.int .i64 X))
    (h : ∀ v' w', Rw lo v' (n + 1) (zs ++ [X]) w' → w.grownBy w' v.ownBlock → wpList Try.prog ops Q rest (a.put o.dst v') w') : wpList Try.prog ops Q (o :: rest) a w := by
  obtain ⟨i0, hi, hz0, hz1, hz2⟩ := info_parts int_info
  refine wpList_append_own w hgd s x 33 ho lo 3 i0 (.int .i64 0) 1 8 Try.underlying33 hi hz0 hz1 hz2 rfl (by decide) v n (iv zs) hs hown.1 ⟨g, 0, none⟩ 1 1 [.int .i64 X] hx rfl ?_ ?_ (by unfold maxLen; omega) (by omega) hown.2 ?_
  · intro j u hj
    match j, hj with
    | 0, hj => simp at hj; subst hj; simpa [Addr.add] using hcell
  · intro u hu; simp at hu; subst hu; rfl
  · intro v' w' h1 h2 _
    exact h v' w' ⟨by simpa [iv] using h1, Nat.le_trans hown.2 h2.size⟩ h2
/- A whole slice appended. -/
theorem wpList_appAll (w : World) {ops : Array Oper} {rest : List Oper} {o : Oper} {a : Act} {Q : Exit → Act → World → Prop} (hgd : o.guard = none) (s x : Operand)
    (ho : o.op = .call { callee := .builtin .append, args := #[s, x], argTypes := #[33, 33] })
    (lo : Nat) (v : Value) (n : Nat) (zs : List Int) (hs : a.eval s = v) (hown : Rw lo v n zs w) (B : Nat) (A : Option Addr) (m c : Nat) (ys : List Int) (hx : a.eval x = .slice A m c) (hr : Rd w B A m ys) (hA : A = none → c = 0) (hn : n + m ≤ 2000000)
    (h : ∀ v' w', Rw lo v' (n + m) (zs ++ ys) w' → w.grownBy w' v.ownBlock → wpList Try.prog ops Q rest (a.put o.dst v') w') : wpList Try.prog ops Q (o :: rest) a w := by
  obtain ⟨i0, hi, hz0, hz1, hz2⟩ := info_parts int_info
  rcases A with _ | ad
  · have hm : m = 0 := by
      rcases Nat.eq_zero_or_pos m with h0 | h0
      · exact h0
      · obtain ⟨b, off, e, _⟩ := hr.2 h0
        cases e
    subst hm
    have hy : ys = [] := List.eq_nil_of_length_eq_zero hr.1
    subst hy
    have hc := hA rfl
    subst hc
    exact wpList_append_own_none hgd s x 33 ho lo 3 i0 1 Try.underlying33 hi v n (iv zs) hs hown.1 hx (h v w (by simpa using hown) (World.grownBy.refl w _))
  · refine wpList_append_own w hgd s x 33 ho lo 3 i0 (.int .i64 0) 1 8 Try.underlying33 hi hz0 hz1 hz2 rfl (by decide) v n (iv zs) hs hown.1 ad m c (iv ys) hx (by simp [iv, hr.1]) ?_ ?_ (by unfold maxLen; omega) (by omega) hown.2 ?_
    · intro j u hj
      rcases Nat.eq_zero_or_pos m with h0 | h0
      · have hy : ys = [] := List.eq_nil_of_length_eq_zero (by rw [hr.1]; exact h0)
        subst hy
        simp [iv] at hj
      · obtain ⟨b, off, e, _, hc⟩ := hr.2 h0
        obtain rfl := Option.some.inj e
        have hj2 : j < m := by
          have := (List.getElem?_eq_some_iff.1 hj).1
          simpa [iv, hr.1] using this
        have e2 : (⟨b, off, none⟩ : Addr).add j = ⟨b, off + j, none⟩ := by
          unfold Addr.add
          split
          · rename_i h1; subst h1; rfl
          · rfl
        rw [e2, hc j hj2]
        simp only [iv, List.getElem?_map] at hj
        rw [List.getElem?_eq_getElem (by rw [hr.1]; exact hj2)] at hj
        simp at hj
        rw [← hj]
        simp [List.getD_eq_getElem?_getD, List.getElem?_eq_getElem (show j < ys.length by rw [hr.1]; exact hj2)]
    · intro u hu
      simp [iv] at hu
      obtain ⟨z, _, rfl⟩ := hu
      rfl
    · intro v' w' h1 h2 _
      exact h v' w' ⟨by simpa [iv] using h1, Nat.le_trans hown.2 h2.size⟩ h2
end Go.Proofs.Ytjaecgobgpfbdaa
