/- Plain laws on lists of integers: sums of the first k, bounds. -/
import Derived.Test.YtjaecgobgpfbdaaW
namespace Go.Proofs.Ytjaecgobgpfbdaa

/- The sum of the first k. -/
def tot : List Int → Nat → Int
  | _, 0 => 0
  | [], _ + 1 => 0
  | z :: zs, k + 1 => z + tot zs k
def AllB (zs : List Int) (lo hi : Int) : Prop := ∀ z ∈ zs, lo ≤ z ∧ z ≤ hi
def okB (zs : List Int) (lo hi : Int) : Bool := zs.all fun z => inB z lo hi
theorem okB_iff {zs : List Int} {lo hi : Int} : okB zs lo hi = true ↔ AllB zs lo hi := by
  unfold okB AllB; simp [inB_iff]
theorem AllB.getD {zs : List Int} {lo hi : Int} (h : AllB zs lo hi) (k : Nat) (hk : k < zs.length) : lo ≤ zs.getD k 0 ∧ zs.getD k 0 ≤ hi := by
  have e : zs.getD k 0 = zs[k] := by simp [List.getD_eq_getElem?_getD, List.getElem?_eq_getElem hk]
  rw [e]; exact h _ (List.getElem_mem hk)
theorem AllB.mono {zs : List Int} {lo hi lo' hi' : Int} (h : AllB zs lo hi) (h1 : lo' ≤ lo) (h2 : hi ≤ hi') : AllB zs lo' hi' := fun z hz => by have := h z hz; omega
theorem AllB.take {zs : List Int} {lo hi : Int} (h : AllB zs lo hi) (k : Nat) : AllB (zs.take k) lo hi := fun z hz => h z (List.mem_of_mem_take hz)
theorem AllB.drop {zs : List Int} {lo hi : Int} (h : AllB zs lo hi) (k : Nat) : AllB (zs.drop k) lo hi := fun z hz => h z (List.mem_of_mem_drop hz)
theorem tot_zero (zs : List Int) : tot zs 0 = 0 := by cases zs <;> rfl
theorem tot_succ (zs : List Int) (k : Nat) : tot zs (k + 1) = tot zs k + zs.getD k 0 := by
  induction zs generalizing k with
  | nil => cases k <;> simp [tot]
  | cons z zs ih =>
    cases k with
    | zero => simp [tot, tot_zero]
    | succ k =>
      show z + tot zs (k + 1) = z + tot zs k + _
      rw [ih k]
      simp [List.getD_eq_getElem?_getD]
      omega
theorem tot_ge (zs : List Int) (lo hi : Int) (h : AllB zs lo hi) (k : Nat) (hk : k ≤ zs.length) : lo * k ≤ tot zs k ∧ tot zs k ≤ hi * k := by
  induction k with
  | zero => simp [tot_zero]
  | succ k ih =>
    have := h.getD k (by omega)
    have := ih (by omega)
    rw [tot_succ]
    rw [show ((k + 1 : Nat) : Int) = (k : Int) + 1 from by omega, Int.mul_add, Int.mul_add]
    omega
theorem tot_mono (zs : List Int) (hi : Int) (h : AllB zs 0 hi) (j k : Nat) (hj : j ≤ k) (hk : k ≤ zs.length) : tot zs j ≤ tot zs k := by
  induction k with
  | zero => have : j = 0 := by omega
            subst this; exact Int.le_refl _
  | succ k ih =>
    rcases Nat.lt_or_ge j (k + 1) with h1 | h1
    · have := ih (by omega) (by omega)
      have := h.getD k (by omega)
      rw [tot_succ]; omega
    · have : j = k + 1 := by omega
      subst this; exact Int.le_refl _
theorem tot_take (zs : List Int) (m k : Nat) (h : k ≤ m) : tot (zs.take m) k = tot zs k := by
  induction zs generalizing m k with
  | nil => simp
  | cons z zs ih =>
    cases k with
    | zero => simp [tot_zero]
    | succ k =>
      cases m with
      | zero => omega
      | succ m => show z + tot (zs.take m) k = z + tot zs k; rw [ih m k (by omega)]
theorem tot_drop (zs : List Int) (m k : Nat) : tot (zs.drop m) k = tot zs (m + k) - tot zs m := by
  induction m generalizing zs with
  | zero => simp [tot_zero]
  | succ m ih =>
    cases zs with
    | nil => cases k <;> simp [tot]
    | cons z zs =>
      rw [List.drop_succ_cons, ih, show m + 1 + k = (m + k) + 1 from by omega]
      show _ = (z + tot zs (m + k)) - (z + tot zs m)
      omega
theorem tot_congr (zs ys : List Int) (k : Nat) (h : ∀ i, i < k → zs.getD i 0 = ys.getD i 0) : tot zs k = tot ys k := by
  induction k with
  | zero => simp [tot_zero]
  | succ k ih => rw [tot_succ, tot_succ, ih fun i hi => h i (by omega), h k (by omega)]
/- A list of n numbers by a function. -/
def mk (n : Nat) (f : Nat → Int) : List Int := (List.range n).map f
theorem mk_len (n : Nat) (f : Nat → Int) : (mk n f).length = n := by simp [mk]
theorem mk_getD (n : Nat) (f : Nat → Int) (i : Nat) (h : i < n) : (mk n f).getD i 0 = f i := by
  simp [mk, List.getD_eq_getElem?_getD, List.getElem?_map, List.getElem?_range h]
theorem mk_succ (n : Nat) (f : Nat → Int) : mk (n + 1) f = mk n f ++ [f n] := by simp [mk, List.range_succ]
theorem mk_congr (n : Nat) (f g : Nat → Int) (h : ∀ i, i < n → f i = g i) : mk n f = mk n g := by
  unfold mk; exact List.map_congr_left fun i hi => h i (List.mem_range.1 hi)
theorem eq_mk (zs : List Int) : zs = mk zs.length fun i => zs.getD i 0 := by
  apply List.ext_getElem?
  intro i
  rcases Nat.lt_or_ge i zs.length with h | h
  · simp [mk, List.getElem?_map, List.getElem?_range h, List.getElem?_eq_getElem h, List.getD_eq_getElem?_getD]
  · rw [List.getElem?_eq_none h, List.getElem?_eq_none (by rw [mk_len]; exact h)]
theorem mk_AllB (n : Nat) (f : Nat → Int) (lo hi : Int) (h : ∀ i, i < n → lo ≤ f i ∧ f i ≤ hi) : AllB (mk n f) lo hi := fun z hz => by
  simp [mk] at hz
  obtain ⟨i, hi, rfl⟩ := hz
  exact h i hi
theorem getD_of_getElem? {zs ys : List Int} (h : zs.length = ys.length) (hg : ∀ i, i < zs.length → zs.getD i 0 = ys.getD i 0) : zs = ys := by
  rw [eq_mk zs, eq_mk ys, h]; exact mk_congr _ _ _ fun i hi => hg i (by omega)
end Go.Proofs.Ytjaecgobgpfbdaa
