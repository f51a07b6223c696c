/- The generator of lists of integers: copyInts, spoil. -/
import Derived.Test.YtpemgcpnabaojaaS
namespace Go.Proofs.Ytpemgcpnabaojaa
open Go.RowKit

theorem new_at {w : World} {o : Obj} {b : Nat} (h : w.heap.size = b) : (w.alloc o).heap[b]? = some o := h ▸ heap_alloc_new w o
def GotRw (w : World) (m : Nat) (zs : List Int) (e : Ending) (w' : World) : Prop := ∃ v, e = .returned v ∧ Rw w.heap.size v m zs w' ∧ Below w.heap.size w w'
/- A list of integers within bounds comes back, beside S. -/
def SomeInts (lo hi : Int) (N B : Nat) (S : World → Prop) (e : Ending) (w' : World) : Prop :=
  ∃ (A : Option Addr) (m c : Nat) (zs : List Int), e = .returned (.slice A m c) ∧ m ≤ N ∧ m ≤ c ∧ c ≤ maxLen ∧ (A = none → c = 0) ∧ AllB zs lo hi ∧ Wr w' B A m zs ∧ S w'
theorem AllB.snoc {zs : List Int} {lo hi x : Int} (h : AllB zs lo hi) (h1 : lo ≤ x) (h2 : x ≤ hi) : AllB (zs ++ [x]) lo hi := fun z hz => by
  rcases List.mem_append.1 hz with h3 | h3
  · exact h z h3
  · simp at h3; subst h3; exact ⟨h1, h2⟩
theorem AllB.set {zs : List Int} {lo hi x : Int} (h : AllB zs lo hi) (h1 : lo ≤ x) (h2 : x ≤ hi) (k : Nat) : AllB (zs.set k x) lo hi := fun z hz => by
  rcases List.mem_or_eq_of_mem_set hz with h3 | h3
  · exact h z h3
  · subst h3; exact ⟨h1, h2⟩
end Go.Proofs.Ytpemgcpnabaojaa
