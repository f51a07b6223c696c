/- Plain laws: where sizes begin in a space. -/
import Derived.Test.YtjaecgobgpfbdaaPT
namespace Go.Proofs.Ytjaecgobgpfbdaa

def ofLeft (zs : List Int) (sp gap : Int) : Int := max (sp - tot zs zs.length - gap * ((zs.length : Int) - 1)) 0
def ofAt (j left : Int) : Int := if j = 1 then left else if j = 2 then left / 2 else 0
def ofMore (j left : Int) (n : Nat) (i : Nat) : Int := if j = 3 ∧ 1 < n then (shr left (mk (n - 1) fun _ => 1)).getD i 0 else 0
def ofF (zs : List Int) (sp gap j : Int) (i : Nat) : Int := ofAt j (ofLeft zs sp gap) + sm (fun q => zs.getD q 0 + gap + ofMore j (ofLeft zs sp gap) zs.length q) i
def ofV (zs : List Int) (sp gap j : Int) : Bool := (((inB (zs.length : Int) 1 8 && okB zs 0 10000) && inB sp 0 200000) && inB gap 0 50) && inB j 0 3
def ofL (zs : List Int) (sp gap j : Int) : List Int := if ofV zs sp gap j = true then mk zs.length (ofF zs sp gap j) else []
theorem ofL_len (zs : List Int) (sp gap j : Int) : (ofL zs sp gap j).length ≤ zs.length := by unfold ofL; split <;> simp [mk_len]
theorem ofV_iff {zs : List Int} {sp gap j : Int} : ofV zs sp gap j = true ↔ (1 ≤ zs.length ∧ zs.length ≤ 8) ∧ AllB zs 0 10000 ∧ (0 ≤ sp ∧ sp ≤ 200000) ∧ (0 ≤ gap ∧ gap ≤ 50) ∧ 0 ≤ j ∧ j ≤ 3 := by
  unfold ofV; simp only [Bool.and_eq_true, inB_iff, okB_iff]
  constructor
  · rintro ⟨⟨⟨⟨h1, h2⟩, h3⟩, h4⟩, h5⟩; exact ⟨by omega, h2, h3, h4, h5⟩
  · rintro ⟨h1, h2, h3, h4, h5⟩; exact ⟨⟨⟨⟨by omega, h2⟩, h3⟩, h4⟩, h5⟩
theorem ones_all (n : Nat) : AllB (mk n fun _ => 1) 0 200000 := mk_AllB _ _ _ _ fun _ _ => by omega
theorem tot_ones (n : Nat) : tot (mk n fun _ => 1) n = n := by rw [tot_mk, sm_const]; omega
theorem ofMore_bd {j left : Int} (h0 : 0 ≤ left) (n i : Nat) : 0 ≤ ofMore j left n i ∧ ofMore j left n i ≤ left + 1 := by
  unfold ofMore
  split
  · rename_i h
    rcases Nat.lt_or_ge i (n - 1) with hi | hi
    · have hp : 0 < tot (mk (n - 1) fun _ => 1) (mk (n - 1) fun _ => (1 : Int)).length := by rw [mk_len, tot_ones]; omega
      rw [shr_getD _ _ _ (by rw [mk_len]; exact hi), if_neg (by omega)]
      exact shT_le h0 (ones_all _) hp _ i (by rw [mk_len]; exact hi)
    · rw [List.getD_eq_getElem?_getD, List.getElem?_eq_none (by rw [shr_len, mk_len]; omega)]
      simp; omega
  · omega
theorem ofLeft_bd {zs : List Int} {sp gap : Int} (ha : AllB zs 0 10000) (hn : 1 ≤ zs.length) (h0 : 0 ≤ sp) (h1 : sp ≤ 200000) (g0 : 0 ≤ gap) : 0 ≤ ofLeft zs sp gap ∧ ofLeft zs sp gap ≤ 200000 := by
  have h2 := (tot_ge zs 0 10000 ha zs.length (Nat.le_refl _)).1
  have h3 : 0 ≤ gap * ((zs.length : Int) - 1) := Int.mul_nonneg g0 (by omega)
  unfold ofLeft; omega
theorem ofAt_bd {j left : Int} (h0 : 0 ≤ left) : 0 ≤ ofAt j left ∧ ofAt j left ≤ left := by
  unfold ofAt; split
  · omega
  · split <;> omega
theorem ofS_bd {zs : List Int} {gap j left : Int} (ha : AllB zs 0 10000) (g0 : 0 ≤ gap) (g1 : gap ≤ 50) (h0 : 0 ≤ left) (h1 : left ≤ 200000) (n k : Nat) (hk : k ≤ zs.length) :
    0 ≤ sm (fun q => zs.getD q 0 + gap + ofMore j left n q) k ∧ sm (fun q => zs.getD q 0 + gap + ofMore j left n q) k ≤ 300000 * k := by
  constructor
  · exact sm_nonneg k fun i hi => by have := ha.getD i (by omega); have := ofMore_bd (j := j) h0 n i; omega
  · rw [← sm_const]; exact sm_le k fun i hi => by have := ha.getD i (by omega); have := ofMore_bd (j := j) h0 n i; omega
/- What stands between the sizes, as a list: for the reference. -/
theorem ofMore_list {left : Int} {n : Nat} (h : 1 < n) : shr left (mk (n - 1) fun _ => 1) ++ [0] = mk n (ofMore 3 left n) := by
  apply getD_of_getElem?
  · rw [List.length_append, shr_len, mk_len, mk_len]; simp; omega
  · intro i hi
    rw [List.length_append, shr_len, mk_len, List.length_singleton] at hi
    rw [mk_getD _ _ _ (by omega)]
    unfold ofMore
    rw [if_pos ⟨rfl, h⟩]
    rcases Nat.lt_or_ge i (n - 1) with h1 | h1
    · rw [List.getD_eq_getElem?_getD, List.getElem?_append_left (by rw [shr_len, mk_len]; exact h1), ← List.getD_eq_getElem?_getD]
    · rw [List.getD_eq_getElem?_getD, List.getD_eq_getElem?_getD, List.getElem?_append_right (by rw [shr_len, mk_len]; exact h1), List.getElem?_eq_none (l := shr _ _) (by rw [shr_len, mk_len]; exact h1)]
      rw [shr_len, mk_len, show i - (n - 1) = 0 by omega]; rfl
theorem ofMore_short {left : Int} {n : Nat} (h : 1 < n) : shr left (mk (n - 1) fun _ => 1) = mk (n - 1) (ofMore 3 left n) := by
  have e := eq_mk (shr left (mk (n - 1) fun _ => 1))
  rw [shr_len, mk_len] at e
  rw [e]
  exact mk_congr _ _ _ fun i hi => by
    unfold ofMore; rw [if_pos ⟨rfl, h⟩]
theorem ofMore_no {j left : Int} {n : Nat} (h : ¬ (j = 3 ∧ 1 < n)) (i : Nat) : ofMore j left n i = 0 := if_neg h
end Go.Proofs.Ytjaecgobgpfbdaa
