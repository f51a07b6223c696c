/- Plain laws of natural sizes: what a box needs, along and across, and a bound on it. -/
import Derived.Test.YtjaecgobgpfbdaaTA
namespace Go.Proofs.Ytjaecgobgpfbdaa

/- The sum, and the greatest, of what a function tells of a list's members. -/
def sumL (f : Nat → Int) : List Nat → Int
  | [] => 0
  | k :: l => f k + sumL f l
def maxL (f : Nat → Int) : List Nat → Int
  | [] => 0
  | k :: l => max (f k) (maxL f l)
theorem sumL_app (f : Nat → Int) (l m : List Nat) : sumL f (l ++ m) = sumL f l + sumL f m := by
  induction l with
  | nil => simp [sumL]
  | cons k l ih => simp only [List.cons_append, sumL, ih]; omega
theorem maxL_nn (f : Nat → Int) (l : List Nat) : 0 ≤ maxL f l := by
  induction l with
  | nil => exact Int.le_refl _
  | cons k l ih => simp only [maxL]; omega
theorem maxL_app (f : Nat → Int) (l m : List Nat) : maxL f (l ++ m) = max (maxL f l) (maxL f m) := by
  induction l with
  | nil => have := maxL_nn f m; simp only [List.nil_append, maxL]; omega
  | cons k l ih => simp only [List.cons_append, maxL, ih]; omega
theorem sumL_nn {f : Nat → Int} {l : List Nat} (h : ∀ k, k ∈ l → 0 ≤ f k) : 0 ≤ sumL f l := by
  induction l with
  | nil => exact Int.le_refl _
  | cons k l ih =>
    have := h k (by simp)
    have := ih fun j hj => h j (by simp [hj])
    simp only [sumL]; omega
theorem maxL_le_sumL {f : Nat → Int} {l : List Nat} (h : ∀ k, k ∈ l → 0 ≤ f k) : maxL f l ≤ sumL f l := by
  induction l with
  | nil => exact Int.le_refl _
  | cons k l ih =>
    have h1 := h k (by simp)
    have h2 := ih fun j hj => h j (by simp [hj])
    have h3 := sumL_nn (f := f) (l := l) fun j hj => h j (by simp [hj])
    simp only [sumL, maxL]; omega
theorem sumL_congr {f g : Nat → Int} {l : List Nat} (h : ∀ k, k ∈ l → f k = g k) : sumL f l = sumL g l := by
  induction l with
  | nil => rfl
  | cons k l ih => simp only [sumL]; rw [h k (by simp), ih fun j hj => h j (by simp [hj])]
theorem maxL_congr {f g : Nat → Int} {l : List Nat} (h : ∀ k, k ∈ l → f k = g k) : maxL f l = maxL g l := by
  induction l with
  | nil => rfl
  | cons k l ih => simp only [maxL]; rw [h k (by simp), ih fun j hj => h j (by simp [hj])]
theorem take_snocN {l : List Nat} {j : Nat} (h : j < l.length) : l.take (j + 1) = l.take j ++ [l.getD j 0] := by
  rw [List.take_succ_eq_append_getElem h]
  simp [List.getD_eq_getElem?_getD, List.getElem?_eq_getElem h]
theorem sumL_succ (f : Nat → Int) {l : List Nat} {j : Nat} (h : j < l.length) : sumL f (l.take (j + 1)) = sumL f (l.take j) + f (l.getD j 0) := by
  rw [take_snocN h, sumL_app]; simp [sumL]
theorem maxL_succ (f : Nat → Int) {l : List Nat} {j : Nat} (h : j < l.length) : (∀ k, k ∈ l → 0 ≤ f k) → maxL f (l.take (j + 1)) = max (maxL f (l.take j)) (f (l.getD j 0)) := fun hp => by
  have hm : l.getD j 0 ∈ l := by
    rw [List.getD_eq_getElem?_getD, List.getElem?_eq_getElem h]
    exact List.getElem_mem h
  have := hp _ hm
  have h2 := maxL_nn f (l.take j)
  rw [take_snocN h, maxL_app]
  simp only [maxL]; omega
theorem sumL_take_le {f : Nat → Int} {l : List Nat} (h : ∀ k, k ∈ l → 0 ≤ f k) (j : Nat) : 0 ≤ sumL f (l.take j) ∧ sumL f (l.take j) ≤ sumL f l := by
  refine ⟨sumL_nn fun k hk => h k (List.mem_of_mem_take hk), ?_⟩
  have e : sumL f l = sumL f (l.take j) + sumL f (l.drop j) := by rw [← sumL_app, List.take_append_drop]
  have := sumL_nn (f := f) (l := l.drop j) fun k hk => h k (List.mem_of_mem_drop hk)
  omega
theorem maxL_take_le {f : Nat → Int} {l : List Nat} (j : Nat) : maxL f (l.take j) ≤ maxL f l := by
  have e : maxL f l = max (maxL f (l.take j)) (maxL f (l.drop j)) := by rw [← maxL_app, List.take_append_drop]
  omega
theorem kdsL_gt {zs : List Int} {n i k : Nat} (h : PK zs n) (hk : k ∈ kdsL zs n (i : Int)) : i < k ∧ k < n := by
  obtain ⟨h1, h2⟩ := kdsL_mem.1 hk
  exact ⟨by have := h.lt h1; omega, h1⟩
theorem kdsL_at {zs : List Int} {n i j : Nat} (h : PK zs n) (hj : j < (kdsL zs n (i : Int)).length) : i < (kdsL zs n (i : Int)).getD j 0 ∧ (kdsL zs n (i : Int)).getD j 0 < n ∧ (kdsL zs n (i : Int)).getD j 0 ∈ kdsL zs n (i : Int) := by
  have hm : (kdsL zs n (i : Int)).getD j 0 ∈ kdsL zs n (i : Int) := by
    rw [List.getD_eq_getElem?_getD, List.getElem?_eq_getElem hj]
    exact List.getElem_mem hj
  exact ⟨(kdsL_gt h hm).1, (kdsL_gt h hm).2, hm⟩

/- What a box needs in a direction (d: its width), by fuel. -/
def ndF : Nat → List Int → Nat → Bool → Nat → Int
  | 0, _, _, _, _ => 0
  | f + 1, zs, n, d, i =>
    (if kdB zs i = 0 then (if d then wdB zs i else htB zs i)
     else if (kdB zs i == 2) = d then max 0 ((kdsL zs n i).length - 1 : Int) * gpB zs i + sumL (ndF f zs n d) (kdsL zs n i)
     else maxL (ndF f zs n d) (kdsL zs n i)) + 2 * pdB zs i
def nd (zs : List Int) (n : Nat) (d : Bool) (i : Nat) : Int := ndF (n - i) zs n d i
theorem ndF_eq {zs : List Int} {n : Nat} (h : PK zs n) (d : Bool) : ∀ (f i : Nat), i < n → n - i ≤ f → ndF f zs n d i = nd zs n d i := by
  intro f
  induction f using Nat.strongRecOn with
  | _ f ih =>
    intro i hi hf
    obtain ⟨g, rfl⟩ : ∃ g, f = g + 1 := ⟨f - 1, by omega⟩
    obtain ⟨m, hm⟩ : ∃ m, n - i = m + 1 := ⟨n - i - 1, by omega⟩
    unfold nd
    rw [hm]
    have e : ∀ k, k ∈ kdsL zs n (i : Int) → ndF g zs n d k = ndF m zs n d k := fun k hk => by
      obtain ⟨h1, h2⟩ := kdsL_gt h hk
      rw [ih g (by omega) k h2 (by omega)]
      by_cases e : m < g + 1
      · rw [ih m e k h2 (by omega)]
      · omega
    simp only [ndF]
    rw [sumL_congr e, maxL_congr e]
theorem nd_eq {zs : List Int} {n i : Nat} (h : PK zs n) (hi : i < n) (d : Bool) : nd zs n d i =
    (if kdB zs i = 0 then (if d then wdB zs i else htB zs i)
     else if (kdB zs i == 2) = d then max 0 ((kdsL zs n i).length - 1 : Int) * gpB zs i + sumL (nd zs n d) (kdsL zs n i)
     else maxL (nd zs n d) (kdsL zs n i)) + 2 * pdB zs i := by
  obtain ⟨m, hm⟩ : ∃ m, n - i = m + 1 := ⟨n - i - 1, by omega⟩
  have e : ∀ k, k ∈ kdsL zs n (i : Int) → ndF m zs n d k = nd zs n d k := fun k hk => by
    obtain ⟨h1, h2⟩ := kdsL_gt h hk
    exact ndF_eq h d m k h2 (by omega)
  conv => lhs; unfold nd
  rw [hm]
  simp only [ndF]
  rw [sumL_congr e, maxL_congr e]
structure OkB (zs : List Int) (i : Nat) : Prop where
  kd : 0 ≤ kdB zs i ∧ kdB zs i ≤ 3
  wd : 0 ≤ wdB zs i ∧ wdB zs i ≤ 100
  ht : 0 ≤ htB zs i ∧ htB zs i ≤ 100
  pd : 0 ≤ pdB zs i ∧ pdB zs i ≤ 50
  gp : 0 ≤ gpB zs i ∧ gpB zs i ≤ 50
  gw : 0 ≤ gwB zs i ∧ gwB zs i ≤ 10
  sh : 0 ≤ shB zs i ∧ shB zs i ≤ 10
  js : 0 ≤ jsB zs i ∧ jsB zs i ≤ 3
  no : ¬ kdB zs i = 0 → wdB zs i = 0 ∧ htB zs i = 0
theorem OkB.of {zs : List Int} {i : Nat} (h : bxB zs i = true) : OkB zs i := by
  unfold bxB at h
  obtain ⟨a, b, c, d, e, f, g, j⟩ := stB_iff.1 h
  by_cases h0 : kdB zs i = 0
  · rw [if_pos h0] at b c
    exact ⟨a, b, c, d, e, f, g, j, fun h => absurd h0 h⟩
  · rw [if_neg h0] at b c
    exact ⟨a, ⟨b.1, by omega⟩, ⟨c.1, by omega⟩, d, e, f, g, j, fun _ => by omega⟩
theorem VT.ok {zs : List Int} {n i : Nat} (h : VT zs n) (hi : i < n) : OkB zs i := OkB.of (h.box i hi)
/- There are no boxes in a leaf; few in any other. -/
theorem VT.leaf {zs : List Int} {n i : Nat} (h : VT zs n) (hi : i < n) (h0 : kdB zs i = 0) : kdsL zs n (i : Int) = [] := by
  have := h.on.2.2 i hi
  unfold kdOk at this
  rw [h0] at this
  simp at this
  exact this.2
theorem VT.kids8 {zs : List Int} {n i : Nat} (h : VT zs n) (hi : i < n) : (kdsL zs n (i : Int)).length ≤ 8 := by
  have := h.on.2.2 i hi
  unfold kdOk at this
  simp only [Bool.and_eq_true, decide_eq_true_eq] at this
  exact this.1
theorem nd_nn {zs : List Int} {n : Nat} (h : VT zs n) (d : Bool) : ∀ i, i < n → 0 ≤ nd zs n d i := by
  intro i hi
  suffices H : ∀ m i, i < n → n - i ≤ m → 0 ≤ nd zs n d i from H (n - i) i hi (Nat.le_refl _)
  intro m
  induction m with
  | zero => intro i hi hm; omega
  | succ m ih =>
    intro i hi hm
    have o := h.ok hi
    have hp := o.pd
    rw [nd_eq h.par hi d]
    have hk : ∀ k, k ∈ kdsL zs n (i : Int) → 0 ≤ nd zs n d k := fun k hk => by
      obtain ⟨h1, h2⟩ := kdsL_gt h.par hk
      exact ih k h2 (by omega)
    have h1 := sumL_nn hk
    have h2 := maxL_nn (nd zs n d) (kdsL zs n (i : Int))
    have h3 := o.wd
    have h4 := o.ht
    have h5 : 0 ≤ max 0 ((kdsL zs n (i : Int)).length - 1 : Int) * gpB zs i := Int.mul_nonneg (by omega) o.gp.1
    split
    · split <;> omega
    · split <;> omega
theorem filt_true (l : List Nat) : (l.filter fun _ => true) = l := by simp
/- Of the boxes from i on, those that lie in a box below i. -/
def topL (zs : List Int) (n i : Nat) : List Nat := (List.range n).filter fun j => decide (i ≤ j) && decide (parB zs j < i)
theorem sumL_filter_split (f : Nat → Int) (p q : Nat → Bool) (l : List Nat) : sumL f (l.filter p) = sumL f (l.filter fun x => p x && q x) + sumL f (l.filter fun x => p x && !q x) := by
  induction l with
  | nil => rfl
  | cons a l ih =>
    simp only [List.filter_cons]
    cases hp : p a <;> cases hq : q a <;> simp [sumL, ih] <;> omega
theorem filter_congrN {p q : Nat → Bool} {l : List Nat} (h : ∀ x, x ∈ l → p x = q x) : l.filter p = l.filter q := List.filter_congr h
theorem filter_only {n i : Nat} (hi : i < n) : (List.range n).filter (fun j => decide (j = i)) = [i] := by
  induction n with
  | zero => omega
  | succ n ih =>
    rw [List.range_succ, List.filter_append]
    by_cases e : i = n
    · subst e
      have : (List.range i).filter (fun j => decide (j = i)) = [] := by
        rw [List.filter_eq_nil_iff]
        intro a ha
        have := List.mem_range.1 ha
        simp; omega
      rw [this]; simp
    · rw [ih (by omega)]
      have : ¬ n = i := fun h => e h.symm
      simp [this]
theorem sumL_add (f : Nat → Int) (c : Int) (l : List Nat) : sumL (fun k => f k + c) l = sumL f l + l.length * c := by
  induction l with
  | nil => simp [sumL]
  | cons k l ih =>
    simp only [sumL, ih, List.length_cons]
    rw [show ((l.length + 1 : Nat) : Int) = (l.length : Int) + 1 by omega, Int.add_mul]
    omega
theorem nd_step {zs : List Int} {n i : Nat} (h : VT zs n) (d : Bool) (hi : i < n) : nd zs n d i ≤ sumL (fun k => nd zs n d k + 50) (kdsL zs n (i : Int)) + 200 := by
  have o := h.ok hi
  have hk : ∀ k, k ∈ kdsL zs n (i : Int) → 0 ≤ nd zs n d k := fun k hk => nd_nn h d k (kdsL_gt h.par hk).2
  have h1 := sumL_nn hk
  have h2 := maxL_le_sumL hk
  have hp := o.pd
  have h3 := o.wd
  have h4 := o.ht
  rw [nd_eq h.par hi d, sumL_add]
  have h5 : max 0 ((kdsL zs n (i : Int)).length - 1 : Int) * gpB zs i ≤ ((kdsL zs n (i : Int)).length : Int) * 50 := Int.mul_le_mul (by omega) o.gp.2 o.gp.1 (by omega)
  split
  · split <;> omega
  · split <;> omega
theorem top_bd {zs : List Int} {n : Nat} (h : VT zs n) (d : Bool) : ∀ m i, n - i = m → i ≤ n → sumL (fun k => nd zs n d k + 50) (topL zs n i) ≤ 250 * (m : Int) := by
  intro m
  induction m with
  | zero =>
    intro i hm hi
    have : topL zs n i = [] := by
      unfold topL
      rw [List.filter_eq_nil_iff]
      intro a ha
      have := List.mem_range.1 ha
      simp; omega
    rw [this]; simp [sumL]
  | succ m ih =>
    intro i hm hi
    have h1 := ih (i + 1) (by omega) (by omega)
    have h2 := nd_step h d (show i < n by omega)
    have e1 : (topL zs n (i + 1)).filter (fun x => true && !(parB zs x == (i : Int))) = (topL zs n i).filter (fun x => true && !decide (x = i)) := by
      unfold topL
      rw [List.filter_filter, List.filter_filter]
      refine filter_congrN fun x hx => ?_
      have hx := List.mem_range.1 hx
      have hl := h.par.lt hx
      rw [Bool.eq_iff_iff]
      simp
      omega
    have e2 : (topL zs n (i + 1)).filter (fun x => true && (parB zs x == (i : Int))) = kdsL zs n (i : Int) := by
      unfold topL kdsL
      rw [List.filter_filter]
      refine filter_congrN fun x hx => ?_
      have hx := List.mem_range.1 hx
      have hl := h.par.lt hx
      rw [Bool.eq_iff_iff]
      simp
      omega
    have e3 : (topL zs n i).filter (fun x => true && decide (x = i)) = [i] := by
      unfold topL
      rw [List.filter_filter, ← filter_only (show i < n by omega)]
      refine filter_congrN fun x hx => ?_
      have hx := List.mem_range.1 hx
      have hl := h.par.lt hx
      rw [Bool.eq_iff_iff]
      simp
      intro e
      subst e
      exact ⟨Nat.le_refl _, hl⟩
    have s1 := sumL_filter_split (fun k => nd zs n d k + 50) (fun _ => true) (fun x => parB zs x == (i : Int)) (topL zs n (i + 1))
    have s2 := sumL_filter_split (fun k => nd zs n d k + 50) (fun _ => true) (fun x => decide (x = i)) (topL zs n i)
    rw [filt_true] at s1 s2
    rw [e1, e2] at s1
    rw [e3] at s2
    simp only [sumL] at s2
    omega
theorem nd_le {zs : List Int} {n : Nat} (h : VT zs n) (d : Bool) (i : Nat) (hi : i < n) : 0 ≤ nd zs n d i ∧ nd zs n d i ≤ 4000 := by
  refine ⟨nd_nn h d i hi, ?_⟩
  have h1 := top_bd h d (n - i) i rfl (by omega)
  have s2 := sumL_filter_split (fun k => nd zs n d k + 50) (fun _ => true) (fun x => decide (x = i)) (topL zs n i)
  have e3 : (topL zs n i).filter (fun x => true && decide (x = i)) = [i] := by
    unfold topL
    rw [List.filter_filter, ← filter_only (show i < n by omega)]
    refine filter_congrN fun x hx => ?_
    have hx := List.mem_range.1 hx
    have hl := h.par.lt hx
    rw [Bool.eq_iff_iff]
    simp
    intro e
    subst e
    exact ⟨Nat.le_refl _, hl⟩
  rw [filt_true, e3] at s2
  have h3 : 0 ≤ sumL (fun k => nd zs n d k + 50) ((topL zs n i).filter fun x => true && !decide (x = i)) := sumL_nn fun k hk => by
    have h4 := (List.mem_filter.1 hk).1
    unfold topL at h4
    have := nd_nn h d k (List.mem_range.1 (List.mem_filter.1 h4).1)
    omega
  simp only [sumL] at s2
  have := h.few
  omega
/- The sums on the way. -/
theorem part_bd {zs : List Int} {n i : Nat} (h : VT zs n) (d : Bool) (_hi : i < n) (j : Nat) : 0 ≤ sumL (nd zs n d) ((kdsL zs n (i : Int)).take j) ∧ sumL (nd zs n d) ((kdsL zs n (i : Int)).take j) ≤ 4000 := by
  have hk : ∀ k, k ∈ kdsL zs n (i : Int) → 0 ≤ nd zs n d k := fun k hk => nd_nn h d k (kdsL_gt h.par hk).2
  have h1 := sumL_take_le hk j
  refine ⟨h1.1, ?_⟩
  have h2 : sumL (nd zs n d) (kdsL zs n (i : Int)) ≤ sumL (fun k => nd zs n d k + 50) (topL zs n (i + 1)) := by
    have e2 : (topL zs n (i + 1)).filter (fun x => true && (parB zs x == (i : Int))) = kdsL zs n (i : Int) := by
      unfold topL kdsL
      rw [List.filter_filter]
      refine filter_congrN fun x hx => ?_
      have hx := List.mem_range.1 hx
      have hl := h.par.lt hx
      rw [Bool.eq_iff_iff]
      simp
      omega
    have s1 := sumL_filter_split (fun k => nd zs n d k + 50) (fun _ => true) (fun x => parB zs x == (i : Int)) (topL zs n (i + 1))
    rw [filt_true, e2] at s1
    have s0 := sumL_add (nd zs n d) 50 (kdsL zs n (i : Int))
    have h3 : 0 ≤ sumL (fun k => nd zs n d k + 50) ((topL zs n (i + 1)).filter fun x => true && !(parB zs x == (i : Int))) := sumL_nn fun k hk => by
      have h4 := (List.mem_filter.1 hk).1
      unfold topL at h4
      have := nd_nn h d k (List.mem_range.1 (List.mem_filter.1 h4).1)
      omega
    omega
  have h3 := top_bd h d (n - (i + 1)) (i + 1) rfl (by omega)
  have := h.few
  omega
theorem maxp_bd {zs : List Int} {n i : Nat} (h : VT zs n) (d : Bool) (hi : i < n) (j : Nat) : 0 ≤ maxL (nd zs n d) ((kdsL zs n (i : Int)).take j) ∧ maxL (nd zs n d) ((kdsL zs n (i : Int)).take j) ≤ 4000 := by
  have hk : ∀ k, k ∈ (kdsL zs n (i : Int)).take j → 0 ≤ nd zs n d k := fun k hk => nd_nn h d k (kdsL_gt h.par (List.mem_of_mem_take hk)).2
  have h1 := maxL_le_sumL hk
  have h2 := part_bd h d hi j
  exact ⟨maxL_nn _ _, by omega⟩
end Go.Proofs.Ytjaecgobgpfbdaa
