/- Rows of structs of K integers that the call owns, beside the reader. -/
import Derived.Test.YtjaecgobgpfbdaaS
namespace Go.Proofs.Ytjaecgobgpfbdaa
open Go.RowKit

def Rk (K : Nat) (t : TypeId) (lo : Nat) (v : Value) (m : Nat) (zs : List Int) (w : World) : Prop := w.ownsRow lo t K v m (iv zs) ∧ lo ≤ w.heap.size
section
variable {w w' : World} {K lo m : Nat} {t : TypeId} {v : Value} {zs : List Int}
theorem Rk.grown {row : Option Nat} (h : Rk K t lo v m zs w) (hg : w.grownBy w' row) (hr : ∀ r, row = some r → r < lo) : Rk K t lo v m zs w' :=
  ⟨h.1.kept hg (by
    cases hv : v.ownBlock with
    | none => exact .inl rfl
    | some k => exact .inr (fun e => by have h1 := (h.1.lt k hv).1; have h2 := hr k e.symm; omega)), Nat.le_trans h.2 hg.size⟩
theorem Rk.alloc (h : Rk K t lo v m zs w) (o : Obj) : Rk K t lo v m zs (w.alloc o) := h.grown (row := none) (gb_alloc (World.grownBy.refl w _) o) (fun r e => by cases e)
theorem Rk.below (h : Rk K t lo v m zs w) (hb : Below w.heap.size w w') : Rk K t lo v m zs w' := h.grown (gb_below hb none) (fun r e => by cases e)
theorem Rk.pick {g n c q : Nat} {A : Option Addr} (h : Rk K t lo v m zs w) (hp : AfterPick w g A n c q w') (hg : g < lo) : Rk K t lo v m zs w' := h.grown hp.2 (fun r e => by injection e with e; omega)
theorem Rk.empty (w : World) (K : Nat) (t : TypeId) (lo : Nat) (h : lo ≤ w.heap.size) : Rk K t lo (.slice (some ⟨w.heap.size, 0, none⟩) 0 0) 0 [] (w.alloc (.cells #[] t)) :=
  ⟨⟨by simp [iv], .inr ⟨w.heap.size, 0, #[], rfl, h, heap_alloc_new w _, Nat.le_refl _, by simp [maxLen], by simp, by simp [iv]⟩⟩, by simp; omega⟩
theorem Rk.row (h : Rk K t lo v m zs w) : ∀ r, v.ownBlock = some r → lo ≤ r := fun r e => (h.1.lt r e).1
theorem Rk.len (h : Rk K t lo v m zs w) : zs.length = K * m := by have := h.1.1; simp [iv] at this; rw [this, Nat.mul_comm]
theorem Rk.out (h : Rk K t lo v m zs w) : ∃ A c, v = .slice A m c ∧ m ≤ c ∧ c ≤ maxLen ∧ (A = none → c = 0) ∧ Wr w lo A (K * m) zs := by
  have hl := h.len
  rcases h.1.2 with ⟨rfl, rfl⟩ | ⟨g, cap, cur, rfl, hb, hg, hnc, hcm, hsz, ht⟩
  · exact ⟨none, 0, rfl, Nat.le_refl _, by simp [maxLen], fun _ => rfl, ⟨hl, fun h => absurd h (by omega)⟩⟩
  · refine ⟨_, cap, rfl, hnc, hcm, (fun e => by cases e), ⟨hl, fun hn => ⟨g, 0, rfl, hb, (Array.getElem?_eq_some_iff.1 hg).1, fun i hi => ⟨?_, by simp [World.frozen?, hg]⟩⟩⟩⟩
    rw [Nat.zero_add, cell_of_row w g i cur t (0, 0) hg]
    have h2 : (iv zs)[i]? = some (.int .i64 (zs.getD i 0)) := by
      simp only [iv, List.getElem?_map]
      rw [List.getElem?_eq_getElem (by omega)]
      simp [List.getD_eq_getElem?_getD, List.getElem?_eq_getElem (show i < zs.length by omega)]
    rw [← ht, List.getElem?_take] at h2
    split at h2
    · simpa using h2
    · cases h2
end
end Go.Proofs.Ytjaecgobgpfbdaa
