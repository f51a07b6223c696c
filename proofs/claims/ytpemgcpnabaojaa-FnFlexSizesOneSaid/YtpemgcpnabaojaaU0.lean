/- A drawn list. -/
import Derived.Test.YtpemgcpnabaojaaT0
namespace Go.Proofs.Ytpemgcpnabaojaa
open Go.RowKit

/- A drawn list. -/
def Lst (lo hi : Int) (N B : Nat) (A : Option Addr) (m c : Nat) (zs : List Int) (w : World) : Prop :=
  m ≤ N ∧ m ≤ c ∧ c ≤ maxLen ∧ (A = none → c = 0) ∧ AllB zs lo hi ∧ Wr w B A m zs
theorem Lst.below {lo hi : Int} {N B : Nat} {A : Option Addr} {m c : Nat} {zs : List Int} {w w' : World} (h : Lst lo hi N B A m c zs w) (hb : Below w.heap.size w w') : Lst lo hi N B A m c zs w' :=
  ⟨h.1, h.2.1, h.2.2.1, h.2.2.2.1, h.2.2.2.2.1, h.2.2.2.2.2.below hb⟩
theorem Lst.low {lo hi : Int} {N B B' : Nat} {A : Option Addr} {m c : Nat} {zs : List Int} {w : World} (h : Lst lo hi N B A m c zs w) (hb : B' ≤ B) : Lst lo hi N B' A m c zs w :=
  ⟨h.1, h.2.1, h.2.2.1, h.2.2.2.1, h.2.2.2.2.1, h.2.2.2.2.2.low hb⟩
theorem Lst.grown {lo hi : Int} {N B : Nat} {A : Option Addr} {m c : Nat} {zs : List Int} {w w' : World} {row : Option Nat} (h : Lst lo hi N B A m c zs w) (hg : w.grownBy w' row) (hr : ∀ r, row = some r → r < B) : Lst lo hi N B A m c zs w' :=
  ⟨h.1, h.2.1, h.2.2.1, h.2.2.2.1, h.2.2.2.2.1, h.2.2.2.2.2.grown hg hr⟩
theorem bl_gs {w w1 w2 : World} {g : Nat} (h : Below w.heap.size w w1) (hg : w1.grownBy w2 (some g)) (h2 : w.heap.size ≤ g) : Below w.heap.size w w2 :=
  bl_gb h hg h.size (fun r e => by injection e with e; omega)
theorem Lst.rd {lo hi : Int} {N B : Nat} {A : Option Addr} {m c : Nat} {zs : List Int} {w : World} (h : Lst lo hi N B A m c zs w) : Rd w w.heap.size A m zs := h.2.2.2.2.2.rd
theorem Lst.all {lo hi : Int} {N B : Nat} {A : Option Addr} {m c : Nat} {zs : List Int} {w : World} (h : Lst lo hi N B A m c zs w) (h1 : -1000000 ≤ lo) (h2 : hi ≤ 1000000) : AllB zs (-1000000) 1000000 := h.2.2.2.2.1.mono h1 h2
end Go.Proofs.Ytpemgcpnabaojaa
