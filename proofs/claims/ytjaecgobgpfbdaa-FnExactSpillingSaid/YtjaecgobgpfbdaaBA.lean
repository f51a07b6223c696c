/- One integer appended to a row of the call's own. -/
import Derived.Test.YtjaecgobgpfbdaaBJ
namespace Go.Proofs.Ytjaecgobgpfbdaa
open Go.RowKit

/- The row v (n integers zs, from block lo on) of the call's own; nothing below lo has turned since w0. -/
def Ow (w0 : World) (lo : Nat) (v : Value) (n : Nat) (zs : List Int) (w : World) : Prop := w.ownsRow lo 3 1 v n (iv zs) ∧ Below lo w0 w ∧ lo ≤ w0.heap.size
theorem Ow.len {w0 : World} {lo : Nat} {v : Value} {n : Nat} {zs : List Int} {w : World} (h : Ow w0 lo v n zs w) : zs.length = n := by have := h.1.1; simpa [iv] using this
theorem Ow.size {w0 : World} {lo : Nat} {v : Value} {n : Nat} {zs : List Int} {w : World} (h : Ow w0 lo v n zs w) : lo ≤ w.heap.size := Nat.le_trans h.2.2 h.2.1.size
theorem Ow.alloc {w0 : World} {lo : Nat} {v : Value} {n : Nat} {zs : List Int} {w : World} (h : Ow w0 lo v n zs w) (o : Obj) : Ow w0 lo v n zs (w.alloc o) := ⟨h.1.alloc o, h.2.1.alloc h.size o, h.2.2⟩
theorem Ow.below {w0 : World} {lo : Nat} {v : Value} {n : Nat} {zs : List Int} {w w' : World} (h : Ow w0 lo v n zs w) (hb : Below w.heap.size w w') : Ow w0 lo v n zs w' :=
  ⟨h.1.kept (row := none) ⟨hb.os, hb.tape, hb.output, hb.size, fun i hi _ => hb.block i hi⟩ (by cases hv : v.ownBlock <;> simp), h.2.1.trans (hb.mono h.size), h.2.2⟩
theorem Ow.drewN {w0 : World} {lo : Nat} {v : Value} {n : Nat} {zs : List Int} {w : World} (h : Ow w0 lo v n zs w) (k : Nat) : Ow w0 lo v n zs (w.drewN k) := h.below (below_drewN (Below.refl _ _) k)
theorem Ow.bl {w0 : World} {lo : Nat} {v : Value} {n : Nat} {zs : List Int} {w : World} (h : Ow w0 lo v n zs w) : Below lo w0 w := h.2.1
/- An empty literal. -/
theorem Ow.empty (w0 w : World) (lo : Nat) (hb : Below lo w0 w) (h0 : lo ≤ w0.heap.size) : Ow w0 lo (.slice (some ⟨w.heap.size, 0, none⟩) 0 0) 0 [] (w.alloc (.cells #[] 3)) :=
  ⟨World.ownsRow_made w #[] 0 (Nat.le_trans h0 hb.size) (by simp [maxLen]) rfl, hb.alloc (Nat.le_trans h0 hb.size) _, h0⟩
theorem Ow.room (w0 w : World) (lo c : Nat) (hb : Below lo w0 w) (h0 : lo ≤ w0.heap.size) (hc : c ≤ 2000000) : Ow w0 lo (.slice (some ⟨w.heap.size, 0, none⟩) 0 c) 0 [] (w.alloc (.cells (madeCells #[Value.int .i64 0] c) 3)) :=
  ⟨World.ownsRow_made w _ c (Nat.le_trans h0 hb.size) (by unfold maxLen; omega) (by rw [size_madeCells]; omega), hb.alloc (Nat.le_trans h0 hb.size) _, h0⟩
theorem Ow.out {w0 : World} {lo : Nat} {v : Value} {n : Nat} {zs : List Int} {w : World} (h : Ow w0 lo v n zs w) : ∃ A c, v = .slice A n c ∧ n ≤ c ∧ c ≤ maxLen ∧ Wr w lo A n zs ∧ Below lo w0 w := by
  obtain ⟨A, c, e, hw, hc, hm, _⟩ := Wr.of_own h.1
  exact ⟨A, c, e, hc, hm, hw, h.2.1⟩
theorem wpList_app1 {w0 : World} (w : World) {ops : Array Oper} {rest : List Oper} {o : Oper} {a : Act} {Q : Exit → Act → World → Prop} (hgd : o.guard = none) (s x : Operand)
    (ho : o.op = .call { callee := .builtin .append, args := #[s, x], argTypes := #[33, 33] })
    (lo : Nat) (v : Value) (n : Nat) (zs : List Int) (hs : a.eval s = v) (hown : Ow w0 lo v n zs w) (hn : n ≤ 2000000) (g : Nat) (X : Int) (hx : a.eval x = .slice (some ⟨g, 0, none⟩) 1 1) (hcell : w.cell? ⟨g, 0, none⟩ = some (.int .i64 X))
    (h : ∀ v' w', Ow w0 lo v' (n + 1) (zs ++ [X]) w' → w.grownBy w' v.ownBlock → wpList Try.prog ops Q rest (a.put o.dst v') w') : wpList Try.prog ops Q (o :: rest) a w := by
  obtain ⟨i0, hi, hz0, hz1, hz2⟩ := info_parts int_info
  refine wpList_append_own w hgd s x 33 ho lo 3 i0 (.int .i64 0) 1 8 Try.underlying33 hi hz0 hz1 hz2 rfl (by decide) v n (iv zs) hs hown.1 ⟨g, 0, none⟩ 1 1 [.int .i64 X] hx rfl ?_ ?_ (by unfold maxLen; omega) (by omega) hown.size ?_
  · intro j u hj
    match j, hj with
    | 0, hj => simp at hj; subst hj; simpa [Addr.add] using hcell
  · intro u hu; simp at hu; subst hu; rfl
  · intro v' w' h1 h2 _
    refine h v' w' ⟨by simpa [iv] using h1, hown.2.1.grown h2 hown.size (fun k hk => (hown.1.lt k hk).1), hown.2.2⟩ h2
end Go.Proofs.Ytjaecgobgpfbdaa
