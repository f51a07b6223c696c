/- A row that is appended to beside what lay there before: nothing that a world wX had turns. -/
import Derived.Test.YtjaecgobgpfbdaaS
import Derived.Test.YtjaecgobgpfbdaaSA
import Derived.ArgAppend
import Derived.Deep.RegionLaw
namespace Go.Proofs.Ytjaecgobgpfbdaa
open Go.RowKit

theorem owns_mono {w : World} {b b' : Nat} {e : TypeId} {s n : Nat} {v : Value} {xs : List Value} (h : w.ownsRow b e s v n xs) (hb : b' ≤ b) : w.ownsRow b' e s v n xs :=
  ⟨h.1, h.2.imp id fun ⟨g, cap, cur, e1, hb1, hr⟩ => ⟨g, cap, cur, e1, Nat.le_trans hb hb1, hr⟩⟩
def Rz (wX : World) (v : Value) (n : Nat) (zs : List Int) (w : World) : Prop :=
  Below wX.heap.size wX w ∧ ((n = 0 ∧ zs = [] ∧ ∃ ad, v = .slice (some ad) 0 0) ∨ w.ownsRow wX.heap.size 3 1 v n (iv zs))
section
variable {wX w w' : World} {v : Value} {n : Nat} {zs : List Int}
theorem Rz.start (w : World) (ad : Addr) : Rz w (.slice (some ad) 0 0) 0 [] w := ⟨Below.refl _ _, .inl ⟨rfl, rfl, ad, rfl⟩⟩
theorem Rz.room (w : World) (c : Nat) (hc : c ≤ 2000000) : Rz w (.slice (some ⟨w.heap.size, 0, none⟩) 0 c) 0 [] (w.alloc (.cells (madeCells #[Value.int .i64 0] c) 3)) :=
  ⟨(Below.refl _ _).alloc (Nat.le_refl _) _, .inr (World.ownsRow_made w _ c (Nat.le_refl _) (by unfold maxLen; omega) (by rw [size_madeCells]; omega))⟩
theorem Rz.bl (h : Rz wX v n zs w) : Below wX.heap.size wX w := h.1
theorem Rz.size (h : Rz wX v n zs w) : wX.heap.size ≤ w.heap.size := h.1.size
theorem Rz.below (h : Rz wX v n zs w) (hb : Below w.heap.size w w') : Rz wX v n zs w' :=
  ⟨h.1.trans (hb.mono h.1.size), by
    rcases h.2 with h2 | h2
    · exact .inl h2
    · exact .inr (h2.kept (gb_below hb none) (by cases hv : v.ownBlock <;> simp))⟩
theorem Rz.alloc (h : Rz wX v n zs w) (o : Obj) : Rz wX v n zs (w.alloc o) := h.below ((Below.refl _ _).alloc (Nat.le_refl _) o)
theorem Rz.drewN (h : Rz wX v n zs w) (k : Nat) : Rz wX v n zs (w.drewN k) := h.below (below_drewN (Below.refl _ _) k)
theorem Rz.out (h : Rz wX v n zs w) : ∃ A c, v = .slice A n c ∧ n ≤ c ∧ c ≤ maxLen ∧ (A = none → c = 0) ∧ Wr w wX.heap.size A n zs := by
  rcases h.2 with ⟨rfl, rfl, ad, rfl⟩ | h2
  · exact ⟨some ad, 0, rfl, Nat.le_refl _, by simp [maxLen], (fun e => by cases e), Wr.nil _ _ _⟩
  · exact Rw.outN ⟨h2, h.1.size⟩
/- A step that turns a block of this row's own time alone. -/
theorem Rz.far {p : Addr} (h : Rz wX v n zs w) (u : Value) (hp : wX.heap.size ≤ p.block) (hv : ∀ r, v.ownBlock = some r → ¬ r = p.block) : Rz wX v n zs (w.setCell p u) :=
  ⟨h.1.setCell hp u, by
    rcases h.2 with h2 | h2
    · exact .inl h2
    · refine .inr (h2.kept (row := some p.block) (gb_one w p u) ?_)
      cases hv2 : v.ownBlock with
      | none => exact .inl rfl
      | some r => exact .inr (fun e => by injection e with e; exact hv r hv2 e)⟩
end
theorem wpList_appz {wX : World} (w : World) {ops : Array Oper} {rest : List Oper} {o : Oper} {a : Act} {Q : Exit → Act → World → Prop} (hgd : o.guard = none) (s x : Operand)
    (ho : o.op = .call { callee := .builtin .append, args := #[s, x], argTypes := #[33, 33] })
    (v : Value) (n : Nat) (zs : List Int) (hs : a.eval s = v) (hown : Rz wX v n zs w) (hn : n ≤ 2000000) (g : Nat) (X : Int) (hx : a.eval x = .slice (some ⟨g, 0, none⟩) 1 1) (hcell : w.cell? ⟨g, 0, none⟩ = some (.int .i64 X))
    (h : ∀ v' w', Rz wX v' (n + 1) (zs ++ [X]) w' → wpList Try.prog ops Q rest (a.put o.dst v') w') : wpList Try.prog ops Q (o :: rest) a w := by
  obtain ⟨i0, hi, hz0, hz1, hz2⟩ := info_parts int_info
  have hnew : ∀ j u, [Value.int .i64 X][j]? = some u → w.cell? ((⟨g, 0, none⟩ : Addr).add j) = some u := by
    intro j u hj
    match j, hj with
    | 0, hj => simp at hj; subst hj; simpa [Addr.add] using hcell
  have h1c : ∀ u ∈ [Value.int .i64 X], u.oneCell' = true := by intro u hu; simp at hu; subst hu; rfl
  rcases hown.2 with ⟨rfl, rfl, ad, rfl⟩ | h2
  · refine wpList_append_grows w hgd s x 33 ho 3 i0 (.int .i64 0) 1 8 Try.underlying33 hi hz0 hz1 hz2 rfl (by decide) (some ad) 0 0 [] hs (fun e => by cases e) rfl (fun b _ j u hj => by simp at hj) ⟨g, 0, none⟩ 1 1 [.int .i64 X] hx rfl hnew h1c (by omega) (by unfold maxLen; omega) (by omega) ?_
    intro v' w' h3 h4
    exact h v' w' ⟨hown.1.grown h4 hown.1.size (fun r e => by cases e), .inr (owns_mono h3 hown.1.size)⟩
  · refine wpList_append_own w hgd s x 33 ho wX.heap.size 3 i0 (.int .i64 0) 1 8 Try.underlying33 hi hz0 hz1 hz2 rfl (by decide) v n (iv zs) hs h2 ⟨g, 0, none⟩ 1 1 [.int .i64 X] hx rfl hnew h1c (by unfold maxLen; omega) (by omega) hown.1.size ?_
    intro v' w' h3 h4 _
    exact h v' w' ⟨hown.1.grown h4 hown.1.size (fun r e => (h2.lt r e).1), .inr (by simpa [iv] using h3)⟩
theorem run_appz {wX : World} (w : World) (ty : TypeId) (v : Value) (n : Nat) (zs : List Int) (hown : Rz wX v n zs w) (hn : n ≤ 2000000) (g : Nat) (X : Int) (hcell : w.cell? ⟨g, 0, none⟩ = some (.int .i64 X)) :
    ∃ v' w', (Builtin.append_ #[33, 33] ty #[v, .slice (some ⟨g, 0, none⟩) 1 1]).run Try.prog w = .ok v' w' ∧ Rz wX v' (n + 1) (zs ++ [X]) w' := by
  obtain ⟨i0, hi, hz0, hz1, hz2⟩ := info_parts int_info
  have hnew : ∀ j u, [Value.int .i64 X][j]? = some u → w.cell? ((⟨g, 0, none⟩ : Addr).add j) = some u := by
    intro j u hj
    match j, hj with
    | 0, hj => simp at hj; subst hj; simpa [Addr.add] using hcell
  have h1c : ∀ u ∈ [Value.int .i64 X], u.oneCell' = true := by intro u hu; simp at hu; subst hu; rfl
  rcases hown.2 with ⟨rfl, rfl, ad, rfl⟩ | h2
  · obtain ⟨v', w', hr, h3, h4⟩ := run_append_arg_grows (P := Try.prog) w 33 ty 3 i0 (.int .i64 0) 1 8 Try.underlying33 hi hz0 hz1 hz2 rfl (by decide) ad 0 0 [] rfl (fun j u hj => by simp at hj) ⟨g, 0, none⟩ 1 1 [.int .i64 X] rfl hnew (by omega) (by unfold maxLen; omega) (by omega)
    exact ⟨v', w', hr, hown.1.grown h4 hown.1.size (fun r e => by cases e), .inr (owns_mono h3 hown.1.size)⟩
  · obtain ⟨v', w', hr, h3, h4, _⟩ := run_append_own (P := Try.prog) w wX.heap.size 33 ty 3 i0 (.int .i64 0) 1 8 Try.underlying33 hi hz0 hz1 hz2 rfl (by decide) v n (iv zs) h2 ⟨g, 0, none⟩ 1 1 [.int .i64 X] rfl hnew h1c (by unfold maxLen; omega) (by omega) hown.1.size
    exact ⟨v', w', hr, hown.1.grown h4 hown.1.size (fun r e => (h2.lt r e).1), .inr (by simpa [iv] using h3)⟩
/- The same as one step of a region that draws its order. -/
theorem step_appz {wX : World} {ops : Array Oper} {o : Oper} {a : Act} {w : World} {K : Act → World → Prop} {Q : Exit → Act → World → Prop} {E : Prop} (hgd : o.guard = none) (s x : Operand)
    (ho : o.op = .call { callee := .builtin .append, args := #[s, x], argTypes := #[33, 33] })
    (v : Value) (n : Nat) (zs : List Int) (hs : a.eval s = v) (hown : Rz wX v n zs w) (hn : n ≤ 2000000) (g : Nat) (X : Int) (hx : a.eval x = .slice (some ⟨g, 0, none⟩) 1 1) (hcell : w.cell? ⟨g, 0, none⟩ = some (.int .i64 X))
    (h : ∀ v' w', Rz wX v' (n + 1) (zs ++ [X]) w' → K (a.put o.dst v') w') : if Region.wanted o (yielded ops a.tmps) = true then Oper.wp Try.prog o a w K Q else E := by
  have hw : Region.wanted o (yielded ops a.tmps) = true := by simp [Region.wanted, hgd]
  rw [if_pos hw]
  obtain ⟨v', w', hrun, h2⟩ := run_appz w o.type v n zs hown hn g X hcell
  unfold Oper.wp
  simp [execOp, ho, resolve, invoke, builtin, hs, hx, hrun, Result.andThen]
  exact h v' w' h2
/- One more behind a slice that is full: a new row. -/
theorem wpList_appFull (w : World) {ops : Array Oper} {rest : List Oper} {o : Oper} {a : Act} {Q : Exit → Act → World → Prop} (hgd : o.guard = none) (s x : Operand)
    (ho : o.op = .call { callee := .builtin .append, args := #[s, x], argTypes := #[33, 33] })
    (A : Option Addr) (n B : Nat) (zs : List Int) (hs : a.eval s = .slice A n n) (hr : Rd w B A n zs) (hn : n ≤ 2000000) (g : Nat) (X : Int) (hx : a.eval x = .slice (some ⟨g, 0, none⟩) 1 1) (hcell : w.cell? ⟨g, 0, none⟩ = some (.int .i64 X))
    (h : ∀ v' w', Rw w.heap.size v' (n + 1) (zs ++ [X]) w' → w.grownBy w' none → wpList Try.prog ops Q rest (a.put o.dst v') w') : wpList Try.prog ops Q (o :: rest) a w := by
  obtain ⟨i0, hi, hz0, hz1, hz2⟩ := info_parts int_info
  refine wpList_append_grows w hgd s x 33 ho 3 i0 (.int .i64 0) 1 8 Try.underlying33 hi hz0 hz1 hz2 rfl (by decide) A n n (iv zs) hs (fun e => ?_) (by simp [iv, hr.1]) (fun ad e j u hj => ?_) ⟨g, 0, none⟩ 1 1 [.int .i64 X] hx rfl ?_ ?_ (by omega) (by unfold maxLen; omega) (by omega) ?_
  · rcases Nat.eq_zero_or_pos n with h0 | h0
    · exact ⟨h0, h0⟩
    · obtain ⟨b, off, e2, _⟩ := hr.2 h0
      rw [e] at e2; cases e2
  · have hj2 : j < n := by
      have := (List.getElem?_eq_some_iff.1 hj).1
      simpa [iv, hr.1] using this
    obtain ⟨b, off, e2, _, hc⟩ := hr.2 (by omega)
    rw [e] at e2
    obtain rfl := Option.some.inj e2
    have e3 : (⟨b, off, none⟩ : Addr).add j = ⟨b, off + j, none⟩ := by
      unfold Addr.add
      split
      · rename_i h1; subst h1; rfl
      · rfl
    rw [e3, hc j hj2]
    simp only [iv, List.getElem?_map] at hj
    rw [List.getElem?_eq_getElem (by rw [hr.1]; exact hj2)] at hj
    simp at hj
    rw [← hj]
    simp [List.getD_eq_getElem?_getD, List.getElem?_eq_getElem (show j < zs.length by rw [hr.1]; exact hj2)]
  · intro j u hj
    match j, hj with
    | 0, hj => simp at hj; subst hj; simpa [Addr.add] using hcell
  · intro u hu; simp at hu; subst hu; rfl
  · intro v' w' h1 h2
    exact h v' w' ⟨by simpa [iv] using h1, h2.size⟩ h2
end Go.Proofs.Ytjaecgobgpfbdaa
