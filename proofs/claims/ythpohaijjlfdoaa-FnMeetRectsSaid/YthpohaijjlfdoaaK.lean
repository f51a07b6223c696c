/- A region that draws its order, whose operations read and whose callees may make memory, as long as each keeps a condition S on the world: one walk of the text's order serves every order. -/
import Derived.WalkKit
import Derived.Deep.QuietTactic
import Derived.BigQuiet
namespace Go.Proofs.Ythpohaijjlfdoaa
open Go.RowKit

/- The worlds that meet S. -/
def Kept (S : World → Prop) : Type := { x : World // S x }
def Kept.val {S : World → Prop} (m : Kept S) : World := Subtype.val m
theorem Kept.ok {S : World → Prop} (m : Kept S) : S m.val := Subtype.property m
def Kept.of {S : World → Prop} {w : World} (h : S w) : Kept S := ⟨w, h⟩
theorem region_keep {P : Program} {S : World → Prop} {id : Nat} {Q : Exit → Act → World → Prop} {a : Act} {w : World} {l : List Oper} (hm : P.follows .mixedOrders = true) (hB : Region.lexB .any l.toArray = true) (hS : S w.drew)
    (h : Nonempty (Kept S) → wpQuiet P l.toArray (fun w' => ∃ m : Kept S, w' = m.val) (fun a' => ∀ w', (∃ m : Kept S, w' = m.val) → Q .normal a' w') l a) : (Code.region id l.toArray true).wp P Q a w :=
  wp_region_quiet (C := fun w' => ∃ m : Kept S, w' = m.val) hm hB ⟨Kept.of hS, rfl⟩ (by simpa using h ⟨Kept.of hS⟩)
/- A callee's contract inside such a region: one value, and S is kept. -/
theorem keep_call {P : Program} {S : World → Prop} {f : FuncId} {args : Array Value} {v : Value} {w : World} {K : World → Prop} (h : Calls P f args w fun e w' => e = .returned v ∧ K w') (hk : ∀ w', K w' → S w') :
    Calls P f args w fun e w'' => e = .returned v ∧ ∃ m : Kept S, w'' = m.val :=
  h.mono fun _ w' ⟨he, hw⟩ => ⟨he, Kept.of (hk w' hw), rfl⟩
end Go.Proofs.Ythpohaijjlfdoaa
