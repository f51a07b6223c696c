/- A region that draws its order, whose operations read and whose callees may make memory, as long as each keeps a condition S on the world: one walk of the text's order serves every order. -/
import Derived.WalkKit
import Derived.Deep.QuietTactic
import Derived.BigQuiet
namespace Go.Proofs.Ytjaecgobgpfbdaa
open Go.RowKit

/- The worlds that meet S. -/
def Kept (S : World → Prop) : Type := { x : World // S x }
def Kept.val {S : World → Prop} (m : Kept S) : World := Subtype.val m
theorem Kept.ok {S : World → Prop} (m : Kept S) : S m.val := Subtype.property m
def Kept.of {S : World → Prop} {w : World} (h : S w) : Kept S := ⟨w, h⟩
theorem region_keep {P : Program} {S : World → Prop} {id : Nat} {Q : Exit → Act → World → Prop} {a : Act} {w : World} {l : List Oper} (hm : P.follows .mixedOrders = true) (hB : Region.lexB .any l.toArray = true) (hS : S w.drew)
    (h : Nonempty (Kept S) → wpQuiet P l.toArray (fun w' => ∃ m : Kept S, w' = m.val) (fun a' => ∀ w', (∃ m : Kept S, w' = m.val) → Q .normal a' w') l a) : (Code.region id l.toArray true).wp P Q a w :=
  wp_region_quiet (C := fun w' => ∃ m : Kept S, w' = m.val) hm hB ⟨Kept.of hS, rfl⟩ (by simpa using h ⟨Kept.of hS⟩)
theorem wpList_of_quiet {P : Program} {ops : Array Oper} {C : World → Prop} {Q : Exit → Act → World → Prop} : ∀ (l : List Oper) (a : Act) (w : World), C w → wpQuiet P ops C (fun a' => ∀ w', C w' → Q .normal a' w') l a → wpList P ops Q l a w
  | [], _, w, hw, h => h w hw
  | o :: l, a, w, hw, h => by
    unfold wpQuiet at h
    unfold wpList
    split
    · rename_i h1
      rw [if_pos h1] at h
      exact .inl (Oper.wp_of_quiet hw (fun a' w' hw' hk => wpList_of_quiet l a' w' hw' hk) h)
    · rename_i h1
      rw [if_neg h1] at h
      exact wpList_of_quiet l _ w hw h
/- The same for a region that draws nothing. -/
theorem region_keep0 {P : Program} {S : World → Prop} {id : Nat} {Q : Exit → Act → World → Prop} {a : Act} {w : World} {l : List Oper} (hS : S w)
    (h : Nonempty (Kept S) → wpQuiet P l.toArray (fun w' => ∃ m : Kept S, w' = m.val) (fun a' => ∀ w', (∃ m : Kept S, w' = m.val) → Q .normal a' w') l a) : (Code.region id l.toArray false).wp P Q a w :=
  wp_region_lit (wpList_of_quiet _ _ _ ⟨Kept.of hS, rfl⟩ (h ⟨Kept.of hS⟩))
/- A callee's contract inside such a region: one value, and S is kept. -/
theorem keep_call {P : Program} {S : World → Prop} {f : FuncId} {args : Array Value} {v : Value} {w : World} {K : World → Prop} (h : Calls P f args w fun e w' => e = .returned v ∧ K w') (hk : ∀ w', K w' → S w') :
    Calls P f args w fun e w'' => e = .returned v ∧ ∃ m : Kept S, w'' = m.val :=
  h.mono fun _ w' ⟨he, hw⟩ => ⟨he, Kept.of (hk w' hw), rfl⟩
end Go.Proofs.Ytjaecgobgpfbdaa
