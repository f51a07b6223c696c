/- One struct appended to a row of structs (Box), as a step of a region; rows beside each other; a whole slice of structs appended. -/
import Derived.Test.YtjaecgobgpfbdaaGR
import Derived.Deep.RegionLaw
namespace Go.Proofs.Ytjaecgobgpfbdaa
open Go.RowKit

theorem run_appBox (w : World) (ty : TypeId) (lo : Nat) (v : Value) (n : Nat) (zs : List Int) (hown : Rk 9 54 lo v n zs w) (hn : n ≤ 2000000) (g : Nat) (x0 x1 x2 x3 x4 x5 x6 x7 x8 : Int) (h0 : w.cell? ⟨g, 0, none⟩ = some (.int .i64 x0)) (h1 : w.cell? ⟨g, 1, none⟩ = some (.int .i64 x1)) (h2 : w.cell? ⟨g, 2, none⟩ = some (.int .i64 x2)) (h3 : w.cell? ⟨g, 3, none⟩ = some (.int .i64 x3)) (h4 : w.cell? ⟨g, 4, none⟩ = some (.int .i64 x4)) (h5 : w.cell? ⟨g, 5, none⟩ = some (.int .i64 x5)) (h6 : w.cell? ⟨g, 6, none⟩ = some (.int .i64 x6)) (h7 : w.cell? ⟨g, 7, none⟩ = some (.int .i64 x7)) (h8 : w.cell? ⟨g, 8, none⟩ = some (.int .i64 x8)) :
    ∃ v' w', (Builtin.append_ #[28, 28] ty #[v, .slice (some ⟨g, 0, none⟩) 1 1]).run Try.prog w = .ok v' w' ∧ Rk 9 54 lo v' (n + 1) (zs ++ [x0, x1, x2, x3, x4, x5, x6, x7, x8]) w' ∧ w.grownBy w' v.ownBlock := by
  obtain ⟨i0, hi, hz0, hz1, hz2⟩ := info_parts info_Box
  obtain ⟨v', w', hr, h1, h2, _⟩ := run_append_own (P := Try.prog) w lo 28 ty 54 i0 _ 9 72 Try.underlying28 hi hz0 hz1 hz2 rfl (by decide) v n (iv zs) hown.1 ⟨g, 0, none⟩ 1 1 [.int .i64 x0, .int .i64 x1, .int .i64 x2, .int .i64 x3, .int .i64 x4, .int .i64 x5, .int .i64 x6, .int .i64 x7, .int .i64 x8] rfl (by
    intro j u hj
    rcases j with _ | _ | _ | _ | _ | _ | _ | _ | _ | j
    · simp at hj; subst hj; simpa [Addr.add] using h0
    · simp at hj; subst hj; simpa [Addr.add] using h1
    · simp at hj; subst hj; simpa [Addr.add] using h2
    · simp at hj; subst hj; simpa [Addr.add] using h3
    · simp at hj; subst hj; simpa [Addr.add] using h4
    · simp at hj; subst hj; simpa [Addr.add] using h5
    · simp at hj; subst hj; simpa [Addr.add] using h6
    · simp at hj; subst hj; simpa [Addr.add] using h7
    · simp at hj; subst hj; simpa [Addr.add] using h8
    · simp at hj) (by
    intro u hu
    simp only [List.mem_cons, List.not_mem_nil, or_false] at hu
    rcases hu with rfl | rfl | rfl | rfl | rfl | rfl | rfl | rfl | rfl <;> rfl) (by unfold maxLen; omega) (by omega) hown.2
  exact ⟨v', w', hr, ⟨by simpa [iv] using h1, Nat.le_trans hown.2 h2.size⟩, h2⟩
theorem step_appBox {ops : Array Oper} {o : Oper} {a : Act} {w : World} {K : Act → World → Prop} {Q : Exit → Act → World → Prop} {E : Prop} (hgd : o.guard = none) (s x : Operand)
    (ho : o.op = .call { callee := .builtin .append, args := #[s, x], argTypes := #[28, 28] })
    (lo : Nat) (v : Value) (n : Nat) (zs : List Int) (hs : a.eval s = v) (hown : Rk 9 54 lo v n zs w) (hn : n ≤ 2000000) (g : Nat) (x0 x1 x2 x3 x4 x5 x6 x7 x8 : Int) (hx : a.eval x = .slice (some ⟨g, 0, none⟩) 1 1) (h0 : w.cell? ⟨g, 0, none⟩ = some (.int .i64 x0)) (h1 : w.cell? ⟨g, 1, none⟩ = some (.int .i64 x1)) (h2 : w.cell? ⟨g, 2, none⟩ = some (.int .i64 x2)) (h3 : w.cell? ⟨g, 3, none⟩ = some (.int .i64 x3)) (h4 : w.cell? ⟨g, 4, none⟩ = some (.int .i64 x4)) (h5 : w.cell? ⟨g, 5, none⟩ = some (.int .i64 x5)) (h6 : w.cell? ⟨g, 6, none⟩ = some (.int .i64 x6)) (h7 : w.cell? ⟨g, 7, none⟩ = some (.int .i64 x7)) (h8 : w.cell? ⟨g, 8, none⟩ = some (.int .i64 x8))
    (h : ∀ v' w', Rk 9 54 lo v' (n + 1) (zs ++ [x0, x1, x2, x3, x4, x5, x6, x7, x8]) w' → w.grownBy w' v.ownBlock → K (a.put o.dst v') w') : if Region.wanted o (yielded ops a.tmps) = true then Oper.wp Try.prog o a w K Q else E := by
  have hw : Region.wanted o (yielded ops a.tmps) = true := by simp [Region.wanted, hgd]
  rw [if_pos hw]
  obtain ⟨v', w', hrun, h2, h3⟩ := run_appBox w o.type lo v n zs hown hn g x0 x1 x2 x3 x4 x5 x6 x7 x8 h0 h1 h2 h3 h4 h5 h6 h7 h8
  unfold Oper.wp
  simp [execOp, ho, resolve, invoke, builtin, hs, hx, hrun, Result.andThen]
  exact h v' w' h2 h3
/- A row of structs and a row of integers lie in two blocks. -/
theorem rows_ne9 {w : World} {lo n m : Nat} {v v' : Value} {zs ys : List Int} (h : Rk 9 54 lo v n zs w) (h' : Rw lo v' m ys w) : v.ownBlock = none ∨ v'.ownBlock = none ∨ ¬ v.ownBlock = v'.ownBlock := by
  rcases h.1.2 with ⟨rfl, _⟩ | ⟨g, cap, cur, rfl, _, hg, _⟩
  · exact .inl rfl
  · rcases h'.1.2 with ⟨rfl, _⟩ | ⟨g', cap', cur', rfl, _, hg', _⟩
    · exact .inr (.inl rfl)
    · refine .inr (.inr fun e => ?_)
      have e2 : some g = some g' := e
      injection e2 with e2
      subst e2
      rw [hg] at hg'
      injection hg' with hg'
      injection hg' with _ ht _
      exact absurd ht (by decide)
theorem Rw.beside9 {w w' : World} {lo n m : Nat} {v v' : Value} {zs ys : List Int} (h' : Rw lo v' m ys w) (h : Rk 9 54 lo v n zs w) (hg : w.grownBy w' v.ownBlock) : Rw lo v' m ys w' :=
  ⟨h'.1.kept hg (by rcases rows_ne9 h h' with h1 | h1 | h1
                    · cases hv : v'.ownBlock with
                      | none => exact .inl rfl
                      | some r => rw [h1]; exact .inr (fun e => by cases e)
                    · exact .inl h1
                    · exact .inr (fun e => h1 e.symm)), Nat.le_trans h'.2 hg.size⟩
theorem Rk.beside9 {w w' : World} {lo n m : Nat} {v v' : Value} {zs ys : List Int} (h : Rk 9 54 lo v n zs w) (h' : Rw lo v' m ys w) (hg : w.grownBy w' v'.ownBlock) : Rk 9 54 lo v n zs w' :=
  ⟨h.1.kept hg (by rcases rows_ne9 h h' with h1 | h1 | h1
                   · exact .inl h1
                   · cases hv : v.ownBlock with
                     | none => exact .inl rfl
                     | some r => rw [h1]; exact .inr (fun e => by cases e)
                   · exact .inr h1), Nat.le_trans h.2 hg.size⟩
/- A whole slice of structs appended. -/
theorem wpList_allBox (w : World) {ops : Array Oper} {rest : List Oper} {o : Oper} {a : Act} {Q : Exit → Act → World → Prop} (hgd : o.guard = none) (s x : Operand)
    (ho : o.op = .call { callee := .builtin .append, args := #[s, x], argTypes := #[28, 28] })
    (lo : Nat) (v : Value) (n : Nat) (zs : List Int) (hs : a.eval s = v) (hown : Rk 9 54 lo v n zs w) (B b off m c : Nat) (ys : List Int) (hx : a.eval x = .slice (some ⟨b, off, none⟩) m c) (hr : Rd w B (some ⟨b, off, none⟩) (9 * m) ys) (hm : 0 < m) (hn : n + m ≤ 2000000)
    (h : ∀ v' w', Rk 9 54 lo v' (n + m) (zs ++ ys) w' → w.grownBy w' v.ownBlock → wpList Try.prog ops Q rest (a.put o.dst v') w') : wpList Try.prog ops Q (o :: rest) a w := by
  obtain ⟨i0, hi, hz0, hz1, hz2⟩ := info_parts info_Box
  obtain ⟨b', off', e, _, hc⟩ := hr.2 (by omega)
  injection e with e; injection e with e1 e2
  subst e1 e2
  refine wpList_append_own w hgd s x 28 ho lo 54 i0 _ 9 72 Try.underlying28 hi hz0 hz1 hz2 rfl (by decide) v n (iv zs) hs hown.1 ⟨b, off, none⟩ m c (iv ys) hx (by simp [iv, hr.1, Nat.mul_comm]) ?_ ?_ (by unfold maxLen; omega) (by omega) hown.2 ?_
  · intro j u hj
    have hj2 : j < 9 * m := by
      have := (List.getElem?_eq_some_iff.1 hj).1
      simpa [iv, hr.1] using this
    have e3 : (⟨b, off, none⟩ : Addr).add j = ⟨b, off + j, none⟩ := by
      unfold Addr.add
      split
      · rename_i h1; subst h1; rfl
      · rfl
    rw [e3, hc j hj2]
    simp only [iv, List.getElem?_map] at hj
    rw [List.getElem?_eq_getElem (by rw [hr.1]; exact hj2)] at hj
    simp at hj
    rw [← hj]
    simp [List.getD_eq_getElem?_getD, List.getElem?_eq_getElem (show j < ys.length by rw [hr.1]; exact hj2)]
  · intro u hu
    simp [iv] at hu
    obtain ⟨z, _, rfl⟩ := hu
    rfl
  · intro v' w' h1 h2 _
    exact h v' w' ⟨by simpa [iv] using h1, Nat.le_trans hown.2 h2.size⟩ h2
end Go.Proofs.Ytjaecgobgpfbdaa
