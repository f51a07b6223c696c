/- One struct appended to a row of structs (Flex). -/
import Derived.Test.YtjaecgobgpfbdaaRK
import Derived.Test.YtjaecgobgpfbdaaFA
namespace Go.Proofs.Ytjaecgobgpfbdaa
open Go.RowKit

theorem wpList_appFlex (w : World) {ops : Array Oper} {rest : List Oper} {o : Oper} {a : Act} {Q : Exit → Act → World → Prop} (hgd : o.guard = none) (s x : Operand)
    (ho : o.op = .call { callee := .builtin .append, args := #[s, x], argTypes := #[84, 84] })
    (lo : Nat) (v : Value) (n : Nat) (zs : List Int) (hs : a.eval s = v) (hown : Rk 5 87 lo v n zs w) (hn : n ≤ 2000000) (g : Nat) (x0 x1 x2 x3 x4 : Int) (hx : a.eval x = .slice (some ⟨g, 0, none⟩) 1 1) (h0 : w.cell? ⟨g, 0, none⟩ = some (.int .i64 x0)) (h1 : w.cell? ⟨g, 1, none⟩ = some (.int .i64 x1)) (h2 : w.cell? ⟨g, 2, none⟩ = some (.int .i64 x2)) (h3 : w.cell? ⟨g, 3, none⟩ = some (.int .i64 x3)) (h4 : w.cell? ⟨g, 4, none⟩ = some (.int .i64 x4))
    (h : ∀ v' w', Rk 5 87 lo v' (n + 1) (zs ++ [x0, x1, x2, x3, x4]) w' → w.grownBy w' v.ownBlock → wpList Try.prog ops Q rest (a.put o.dst v') w') : wpList Try.prog ops Q (o :: rest) a w := by
  obtain ⟨i0, hi, hz0, hz1, hz2⟩ := info_parts info_Flex
  refine wpList_append_own w hgd s x 84 ho lo 87 i0 _ 5 40 Try.underlying84 hi hz0 hz1 hz2 rfl (by decide) v n (iv zs) hs hown.1 ⟨g, 0, none⟩ 1 1 [.int .i64 x0, .int .i64 x1, .int .i64 x2, .int .i64 x3, .int .i64 x4] hx rfl ?_ ?_ (by unfold maxLen; omega) (by omega) hown.2 ?_
  · intro j u hj
    rcases j with _ | _ | _ | _ | _ | j
    · simp at hj; subst hj; simpa [Addr.add] using h0
    · simp at hj; subst hj; simpa [Addr.add] using h1
    · simp at hj; subst hj; simpa [Addr.add] using h2
    · simp at hj; subst hj; simpa [Addr.add] using h3
    · simp at hj; subst hj; simpa [Addr.add] using h4
    · simp at hj
  · intro u hu
    simp only [List.mem_cons, List.not_mem_nil, or_false] at hu
    rcases hu with rfl | rfl | rfl | rfl | rfl <;> rfl
  · intro v' w' h1 h2 _
    exact h v' w' ⟨by simpa [iv] using h1, Nat.le_trans hown.2 h2.size⟩ h2
theorem Wr.put5 {w : World} {lo b off n : Nat} {zs : List Int} (h : Wr w lo (some ⟨b, off, none⟩) (5 * n) zs) {k : Nat} (hk : k < n) (x0 x1 x2 x3 x4 : Int) :
    ∃ ys, Wr (((((w.setCell ⟨b, off + k * 5, none⟩ (.int .i64 x0)).setCell ⟨b, off + k * 5 + 1, none⟩ (.int .i64 x1)).setCell ⟨b, off + k * 5 + 2, none⟩ (.int .i64 x2)).setCell ⟨b, off + k * 5 + 3, none⟩ (.int .i64 x3)).setCell ⟨b, off + k * 5 + 4, none⟩ (.int .i64 x4)) lo (some ⟨b, off, none⟩) (5 * n) ys := by
  have e := eq_mk zs
  rw [h.1] at e
  rw [e] at h
  exact ⟨_, h.set5 hk x0 x1 x2 x3 x4⟩
end Go.Proofs.Ytjaecgobgpfbdaa
