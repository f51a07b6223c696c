/- Rows of the call's own at a known block; numbers as cells. -/
import Derived.Test.YtjaecgobgpfbdaaBJ
import Derived.Test.YtjaecgobgpfbdaaPS
namespace Go.Proofs.Ytjaecgobgpfbdaa
open Go.RowKit

/- Block g holds n integers that may be written. -/
def Bk (w : World) (g n : Nat) (zs : List Int) : Prop := zs.length = n ∧ g < w.heap.size ∧ ∀ i, i < n → w.cell? ⟨g, i, none⟩ = some (.int .i64 (zs.getD i 0)) ∧ w.frozen? ⟨g, i, none⟩ = false
section
variable {w w' : World} {g n : Nat} {zs : List Int}
theorem Bk.len (h : Bk w g n zs) : zs.length = n := h.1
theorem Bk.lt (h : Bk w g n zs) : g < w.heap.size := h.2.1
theorem Bk.keep (h : Bk w g n zs) (hs : w.heap.size ≤ w'.heap.size) (hk : w'.heap[g]? = w.heap[g]?) : Bk w' g n zs :=
  ⟨h.1, by have := h.2.1; omega, fun i hi => ⟨(World.cell?_of_block hk).trans (h.2.2 i hi).1, (World.frozen?_of_block hk).trans (h.2.2 i hi).2⟩⟩
theorem Bk.alloc (h : Bk w g n zs) (o : Obj) : Bk (w.alloc o) g n zs := h.keep (by simp) (Below.heap_alloc w o g h.2.1)
theorem Bk.drew (h : Bk w g n zs) : Bk w.drew g n zs := h
theorem Bk.drewN (h : Bk w g n zs) (k : Nat) : Bk (w.drewN k) g n zs := h
theorem Bk.below (h : Bk w g n zs) (hb : Below w.heap.size w w') : Bk w' g n zs := h.keep hb.size (hb.block g h.2.1)
theorem Bk.other (h : Bk w g n zs) {p : Addr} (hp : ¬ g = p.block) (u : Value) : Bk (w.setCell p u) g n zs := h.keep (by simp [World.setCell]) (Below.heap_setCell w p u g hp)
theorem Bk.grown {row : Option Nat} (h : Bk w g n zs) (hg : w.grownBy w' row) (hr : ¬ some g = row) : Bk w' g n zs := h.keep hg.size (hg.block g h.2.1 hr)
theorem Bk.wr (h : Bk w g n zs) {lo : Nat} (hl : lo ≤ g) : Wr w lo (some ⟨g, 0, none⟩) n zs :=
  ⟨h.1, fun _ => ⟨g, 0, rfl, hl, h.2.1, fun i hi => by rw [Nat.zero_add]; exact h.2.2 i hi⟩⟩
theorem Bk.set (h : Bk w g n zs) {k : Nat} (hk : k < n) (v : Int) : Bk (w.setCell ⟨g, k, none⟩ (.int .i64 v)) g n (zs.set k v) := by
  refine ⟨by rw [List.length_set]; exact h.1, by simpa [World.setCell] using h.2.1, fun i hi => ⟨?_, ?_⟩⟩
  · have h0 := (h.2.2 k hk).1
    have h1 := (h.2.2 i hi).1
    by_cases hik : i = k
    · subst hik
      simp [go_sem, h0, List.getD_eq_getElem?_getD, show i < zs.length by rw [h.1]; exact hk]
    · rw [World.cell?_setCell_other _ _ _ _ (by intro e; injection e with _ e; omega), h1]
      congr 2
      simp [List.getD_eq_getElem?_getD, Ne.symm hik]
  · have h1 := (h.2.2 i hi).2
    simpa [go_sem] using h1
theorem Bk.setMk {f : Nat → Int} (h : Bk w g n (mk n f)) {k : Nat} (hk : k < n) (v : Int) : Bk (w.setCell ⟨g, k, none⟩ (.int .i64 v)) g n (mk n fun i => if i = k then v else f i) := by
  rw [← mk_set n f k v hk]; exact h.set hk v
theorem Bk.toMk (h : Bk w g n zs) (f : Nat → Int) (hf : ∀ i, i < n → zs.getD i 0 = f i) : Bk w g n (mk n f) := by
  have e : zs = mk n f := by
    have := eq_mk zs
    rw [h.1] at this
    rw [this]; exact mk_congr n _ _ hf
  rw [← e]; exact h
theorem Bk.mk_to {f f' : Nat → Int} (h : Bk w g n (mk n f)) (hf : ∀ i, i < n → f i = f' i) : Bk w g n (mk n f') := by rw [← mk_congr n f f' hf]; exact h
theorem Bk.made (w : World) (n : Nat) (e : TypeId) : Bk (w.alloc (.cells (madeCells #[Value.int .i64 0] n) e)) w.heap.size n (mk n fun _ => 0) := by
  refine ⟨mk_len _ _, by simp, fun i hi => ?_⟩
  rw [mk_getD _ _ _ hi]
  refine ⟨?_, by simp [go_sem]⟩
  rw [cell_of_row _ w.heap.size i _ e (0, 0) (heap_alloc_new w _)]
  simp [madeCells, hi, Nat.mod_one]
end
theorem Wr.bk {w : World} {lo n b : Nat} {zs : List Int} (h : Wr w lo (some ⟨b, 0, none⟩) n zs) (hn : 0 < n) : Bk w b n zs := by
  refine ⟨h.1, ?_, fun i hi => ?_⟩
  · obtain ⟨b', off, e, _, hb, _⟩ := h.2 hn
    injection e with e; injection e with e1 e2; omega
  · obtain ⟨b', off, e, _, hb, hc⟩ := h.2 hn
    injection e with e; injection e with e1 e2
    subst e1 e2
    have := hc i hi
    rw [Nat.zero_add] at this
    exact this
theorem Wr.at_ {w : World} {lo b off n : Nat} {zs : List Int} (h : Wr w lo (some ⟨b, off, none⟩) n zs) (hn : 0 < n) : lo ≤ b ∧ b < w.heap.size ∧ ∀ i, i < n → w.cell? ⟨b, off + i, none⟩ = some (.int .i64 (zs.getD i 0)) ∧ w.frozen? ⟨b, off + i, none⟩ = false := by
  obtain ⟨b', off', e, h1, h2, h3⟩ := h.2 hn
  injection e with e; injection e with e1 e2
  subst e1 e2
  exact ⟨h1, h2, h3⟩
/- A slice of integers of the call's own comes back. -/
def GotI (w : World) (zs : List Int) (e : Ending) (w' : World) : Prop := ∃ A n c, e = .returned (.slice A n c) ∧ n ≤ c ∧ Wr w' w.heap.size A n zs ∧ Below w.heap.size w w'
theorem GotI.nil (w : World) {w' : World} (hb : Below w.heap.size w w') : GotI w [] (.returned (.slice none 0 0)) w' := ⟨none, 0, 0, rfl, Nat.le_refl _, Wr.nil _ _ _, hb⟩
theorem GotI.bk {w w' : World} {g n : Nat} {zs : List Int} (h : Bk w' g n zs) (hl : w.heap.size ≤ g) (hb : Below w.heap.size w w') : GotI w zs (.returned (.slice (some ⟨g, 0, none⟩) n n)) w' := ⟨_, n, n, rfl, Nat.le_refl _, h.wr hl, hb⟩
/- .. one without room behind it. -/
def GotF (w : World) (zs : List Int) (e : Ending) (w' : World) : Prop := ∃ A n, e = .returned (.slice A n n) ∧ Wr w' w.heap.size A n zs ∧ Below w.heap.size w w'
theorem GotF.got {w w' : World} {zs : List Int} {e : Ending} (h : GotF w zs e w') : GotI w zs e w' := by
  obtain ⟨A, n, he, hw, hb⟩ := h
  exact ⟨A, n, n, he, Nat.le_refl _, hw, hb⟩
theorem GotF.bk {w w' : World} {g n : Nat} {zs : List Int} (h : Bk w' g n zs) (hl : w.heap.size ≤ g) (hb : Below w.heap.size w w') : GotF w zs (.returned (.slice (some ⟨g, 0, none⟩) n n)) w' := ⟨_, n, rfl, h.wr hl, hb⟩
theorem vint {a b : Int} (h : a = b) : Value.int .i64 a = .int .i64 b := by rw [h]
theorem prod_bd {a b M N : Int} (h1 : 0 ≤ a) (h2 : a ≤ M) (h3 : 0 ≤ b) (h4 : b ≤ N) : 0 ≤ a * b ∧ a * b ≤ M * N := ⟨Int.mul_nonneg h1 h3, Int.mul_le_mul h2 h4 h3 (by omega)⟩
end Go.Proofs.Ytjaecgobgpfbdaa
