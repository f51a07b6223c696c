/- Plain laws: a space that is split by weights; the order of the rests; the first of the greatest. -/
import Derived.Test.YtjaecgobgpfbdaaP
namespace Go.Proofs.Ytjaecgobgpfbdaa

/- Sums of a function. -/
def sm (f : Nat → Int) : Nat → Int
  | 0 => 0
  | n + 1 => sm f n + f n
theorem tot_sm (zs : List Int) (k : Nat) : tot zs k = sm (fun i => zs.getD i 0) k := by
  induction k with
  | zero => simp [tot_zero, sm]
  | succ k ih => rw [tot_succ, sm, ih]
theorem sm_congr {f g : Nat → Int} (n : Nat) (h : ∀ i, i < n → f i = g i) : sm f n = sm g n := by
  induction n with
  | zero => rfl
  | succ n ih => rw [sm, sm, ih fun i hi => h i (by omega), h n (by omega)]
theorem sm_le {f g : Nat → Int} (n : Nat) (h : ∀ i, i < n → f i ≤ g i) : sm f n ≤ sm g n := by
  induction n with
  | zero => exact Int.le_refl _
  | succ n ih =>
    have h1 := ih fun i hi => h i (by omega)
    have h2 := h n (by omega)
    simp only [sm]; omega
theorem sm_add (f g : Nat → Int) (n : Nat) : sm (fun i => f i + g i) n = sm f n + sm g n := by
  induction n with
  | zero => rfl
  | succ n ih => simp only [sm]; rw [ih]; omega
theorem sm_mul (a : Int) (f : Nat → Int) (n : Nat) : sm (fun i => a * f i) n = a * sm f n := by
  induction n with
  | zero => simp [sm]
  | succ n ih => simp only [sm]; rw [ih, Int.mul_add]
theorem sm_const (a : Int) (n : Nat) : sm (fun _ => a) n = a * n := by
  induction n with
  | zero => simp [sm]
  | succ n ih => simp only [sm]; rw [ih, show ((n + 1 : Nat) : Int) = (n : Int) + 1 from by omega, Int.mul_add, Int.mul_one]
theorem sm_nonneg {f : Nat → Int} (n : Nat) (h : ∀ i, i < n → 0 ≤ f i) : 0 ≤ sm f n := by
  have := sm_le (f := fun _ => 0) n h
  rw [sm_const] at this; omega
theorem sm_zero {f : Nat → Int} (n : Nat) (h : ∀ i, i < n → 0 ≤ f i) (h0 : sm f n = 0) : ∀ i, i < n → f i = 0 := by
  induction n with
  | zero => intro i hi; omega
  | succ n ih =>
    have h1 := sm_nonneg n fun i hi => h i (by omega)
    have h2 := h n (by omega)
    simp only [sm] at h0
    intro i hi
    rcases Nat.lt_or_ge i n with h3 | h3
    · exact ih (fun i hi => h i (by omega)) (by omega) i h3
    · obtain rfl : i = n := by omega
      omega
theorem tot_mk (n : Nat) (f : Nat → Int) : tot (mk n f) n = sm f n := by
  rw [tot_sm]; exact sm_congr n fun i hi => mk_getD n f i hi
theorem tot_mk_len (n : Nat) (f : Nat → Int) : tot (mk n f) (mk n f).length = sm f n := by rw [mk_len, tot_mk]
theorem sm_single (a n : Nat) (h : a < n) : sm (fun i => if i = a then (1 : Int) else 0) n = 1 := by
  induction n with
  | zero => omega
  | succ n ih =>
    simp only [sm]
    by_cases h1 : n = a
    · subst h1
      rw [if_pos rfl, sm_congr (g := fun _ => 0) n (fun i hi => if_neg (by omega)), sm_const]; omega
    · rw [if_neg h1, ih (by omega)]; omega
theorem sm_mem (l : List Nat) (n : Nat) (hd : l.Nodup) (hl : ∀ i ∈ l, i < n) : sm (fun i => if i ∈ l then (1 : Int) else 0) n = l.length := by
  induction l with
  | nil => rw [sm_congr (g := fun _ => 0) n (fun i _ => by simp), sm_const]; simp
  | cons a l ih =>
    rw [List.nodup_cons] at hd
    have h1 := ih hd.2 fun i hi => hl i (List.mem_cons_of_mem _ hi)
    have h2 := sm_single a n (hl a (by simp))
    rw [sm_congr (g := fun i => (if i = a then (1 : Int) else 0) + if i ∈ l then 1 else 0) n, sm_add, h1, h2]
    · simp; omega
    · intro i _
      by_cases h3 : i = a
      · subst h3; simp [hd.1]
      · simp [h3]

/- The order of the rests: greater ones first, of equal ones the first one first. -/
def ahd (r : Nat → Int) (j i : Nat) : Prop := r i < r j ∨ (r j = r i ∧ j < i)
theorem ahd_le {r : Nat → Int} {j i : Nat} (h : ahd r j i) : r i ≤ r j := by rcases h with h | h <;> omega
def ins (r : Nat → Int) (x : Nat) : List Nat → List Nat
  | [] => [x]
  | y :: ys => if r y < r x then x :: y :: ys else y :: ins r x ys
def ordOf (r : Nat → Int) : Nat → List Nat
  | 0 => []
  | n + 1 => ins r n (ordOf r n)
theorem ins_perm (r : Nat → Int) (x : Nat) (l : List Nat) : (ins r x l).Perm (x :: l) := by
  induction l with
  | nil => exact List.Perm.refl _
  | cons y ys ih =>
    simp only [ins]
    split
    · exact List.Perm.refl _
    · exact (List.Perm.cons y ih).trans (List.Perm.swap x y ys)
theorem ordOf_perm (r : Nat → Int) (n : Nat) : (ordOf r n).Perm (List.range n) := by
  induction n with
  | zero => exact List.Perm.refl _
  | succ n ih =>
    rw [List.range_succ]
    exact ((ins_perm r n _).trans (List.Perm.cons n ih)).trans (List.perm_append_comm (l₁ := [n]) (l₂ := List.range n))
theorem ordOf_mem {r : Nat → Int} {n i : Nat} : i ∈ ordOf r n ↔ i < n := by rw [(ordOf_perm r n).mem_iff, List.mem_range]
theorem ordOf_len (r : Nat → Int) (n : Nat) : (ordOf r n).length = n := by rw [(ordOf_perm r n).length_eq, List.length_range]
theorem ordOf_nodup (r : Nat → Int) (n : Nat) : (ordOf r n).Nodup := (ordOf_perm r n).nodup_iff.2 List.nodup_range
theorem ins_pw {r : Nat → Int} {x : Nat} {l : List Nat} (h : l.Pairwise (ahd r)) (hx : ∀ y ∈ l, y < x) : (ins r x l).Pairwise (ahd r) := by
  induction l with
  | nil => simp [ins]
  | cons y ys ih =>
    rw [List.pairwise_cons] at h
    simp only [ins]
    split
    · rename_i hlt
      rw [List.pairwise_cons, List.pairwise_cons]
      refine ⟨fun z hz => ?_, h⟩
      rcases List.mem_cons.1 hz with rfl | hz
      · exact .inl hlt
      · exact .inl (by have := ahd_le (h.1 z hz); omega)
    · rename_i hge
      rw [List.pairwise_cons]
      refine ⟨fun z hz => ?_, ih h.2 fun y hy => hx y (List.mem_cons_of_mem _ hy)⟩
      rcases List.mem_cons.1 ((ins_perm r x ys).mem_iff.1 hz) with rfl | hz
      · have := hx y (by simp)
        rcases Int.lt_or_eq_of_le (Int.not_lt.1 hge) with h1 | h1
        · exact .inl h1
        · exact .inr ⟨h1.symm, this⟩
      · exact h.1 z hz
theorem ordOf_pw (r : Nat → Int) (n : Nat) : (ordOf r n).Pairwise (ahd r) := by
  induction n with
  | zero => exact List.Pairwise.nil
  | succ n ih => exact ins_pw ih fun y hy => ordOf_mem.1 hy
theorem ins_split {r : Nat → Int} {x : Nat} {A B : List Nat} (hA : ∀ a ∈ A, r x ≤ r a) (hB : ∀ b ∈ B, r b < r x) : ins r x (A ++ B) = A ++ x :: B := by
  induction A with
  | nil =>
    cases B with
    | nil => rfl
    | cons b B => simp only [List.nil_append, ins]; rw [if_pos (hB b (by simp))]
  | cons a A ih =>
    simp only [List.cons_append, ins]
    rw [if_neg (by have := hA a (by simp); omega), ih fun a ha => hA a (List.mem_cons_of_mem _ ha)]
/- The step of the insertion: nothing more to pass. -/
theorem ins_stop {r : Nat → Int} {x y : Nat} {A B : List Nat} (hp : ((A ++ [y]) ++ B).Pairwise (ahd r)) (hy : r x ≤ r y) (hB : ∀ b ∈ B, r b < r x) : ins r x ((A ++ [y]) ++ B) = (A ++ [y]) ++ x :: B := by
  refine ins_split (fun a ha => ?_) hB
  rw [List.pairwise_append] at hp
  have h1 := hp.1
  rw [List.pairwise_append] at h1
  rcases List.mem_append.1 ha with h2 | h2
  · have := ahd_le (h1.2.2 a h2 y (by simp)); omega
  · simp at h2; subst h2; exact hy
theorem take_pw {R : Nat → Nat → Prop} {l : List Nat} (h : l.Pairwise R) {k i j : Nat} (hi : i ∈ l.take k) (hj : j ∈ l) (hj2 : ¬ j ∈ l.take k) : R i j := by
  rw [← List.take_append_drop k l] at h hj
  rw [List.pairwise_append] at h
  rcases List.mem_append.1 hj with h1 | h1
  · exact absurd h1 hj2
  · exact h.2.2 i hi j h1

/- The first of the greatest. -/
def fstMax (f : Nat → Int) : Nat → Nat
  | 0 => 0
  | n + 1 => if f (fstMax f n) < f n then n else fstMax f n
theorem fstMax_lt (f : Nat → Int) {n : Nat} (h : 0 < n) : fstMax f n < n := by
  induction n with
  | zero => omega
  | succ n ih =>
    rw [fstMax]
    split
    · omega
    · rcases Nat.eq_zero_or_pos n with h1 | h1
      · subst h1; simp [fstMax]
      · have := ih h1; omega
theorem fstMax_uniq {f : Nat → Int} {n m : Nat} (hm : m < n) (h1 : ∀ j, j < n → f j ≤ f m) (h2 : ∀ j, j < m → f j < f m) : fstMax f n = m := by
  have key : ∀ k, k ≤ n → (m < k → fstMax f k = m) ∧ (k ≤ m → k = 0 ∨ fstMax f k < m) := by
    intro k
    induction k with
    | zero => intro _; exact ⟨fun h => absurd h (by omega), fun _ => .inl rfl⟩
    | succ k ih =>
      intro hk
      obtain ⟨a, b⟩ := ih (by omega)
      refine ⟨fun h => ?_, fun h => .inr ?_⟩
      · rcases Nat.lt_or_ge m k with h3 | h3
        · rw [fstMax, a h3, if_neg (by have := h1 k (by omega); omega)]
        · obtain rfl : m = k := by omega
          rw [fstMax]
          rcases b (by omega) with h4 | h4
          · subst h4; simp [fstMax]
          · rw [if_pos (h2 _ h4)]
      · rw [fstMax]
        split
        · omega
        · rcases b (by omega) with h4 | h4
          · subst h4; simp [fstMax]; omega
          · exact h4
  exact (key n (Nat.le_refl _)).1 hm
/- The rests that are left behind t of the first ones. -/
def lft (r : Nat → Int) (l : List Nat) (t : Nat) (i : Nat) : Int := if i ∈ l.take t then -1 else r i
theorem lft_pick {r : Nat → Int} {n t : Nat} (ht : t < n) (h0 : ∀ i, i < n → 0 ≤ r i) : fstMax (lft r (ordOf r n) t) n = (ordOf r n).getD t 0 := by
  have hl : t < (ordOf r n).length := by rw [ordOf_len]; exact ht
  have e : (ordOf r n).getD t 0 = (ordOf r n)[t] := by simp [List.getD_eq_getElem?_getD, List.getElem?_eq_getElem hl]
  have hm : (ordOf r n)[t] < n := ordOf_mem.1 (List.getElem_mem hl)
  have hnd := ordOf_nodup r n
  have hpw := ordOf_pw r n
  have hsplit : (ordOf r n) = (ordOf r n).take t ++ (ordOf r n)[t] :: (ordOf r n).drop (t + 1) := by
    rw [← List.drop_eq_getElem_cons hl, List.take_append_drop]
  have hnot : ¬ (ordOf r n)[t] ∈ (ordOf r n).take t := by
    intro hin
    rw [hsplit, List.nodup_append] at hnd
    exact hnd.2.2 _ hin _ List.mem_cons_self rfl
  have hval : lft r (ordOf r n) t ((ordOf r n)[t]) = r ((ordOf r n)[t]) := if_neg hnot
  have hcmp : ∀ j, j < n → ¬ j ∈ (ordOf r n).take t → j = (ordOf r n)[t] ∨ ahd r ((ordOf r n)[t]) j := by
    intro j hj hjn
    have hj' : j ∈ ordOf r n := ordOf_mem.2 hj
    rw [hsplit] at hj' hpw
    rcases List.mem_append.1 hj' with h | h
    · exact absurd h hjn
    · rcases List.mem_cons.1 h with h | h
      · exact .inl h
      · rw [List.pairwise_append, List.pairwise_cons] at hpw
        exact .inr (hpw.2.1.1 j h)
  rw [e]
  refine fstMax_uniq hm (fun j hj => ?_) (fun j hj => ?_)
  · rw [hval]
    by_cases hin : j ∈ (ordOf r n).take t
    · rw [lft, if_pos hin]; have := h0 _ hm; omega
    · rw [lft, if_neg hin]
      rcases hcmp j hj hin with h | h
      · rw [← h]; exact Int.le_refl _
      · exact ahd_le h
  · rw [hval]
    by_cases hin : j ∈ (ordOf r n).take t
    · rw [lft, if_pos hin]; have := h0 _ hm; omega
    · rw [lft, if_neg hin]
      rcases hcmp j (by omega) hin with h | h
      · omega
      · rcases h with h | ⟨_, h⟩
        · exact h
        · omega
theorem take_snocN (l : List Nat) (t : Nat) (h : t < l.length) : l.take (t + 1) = l.take t ++ [l.getD t 0] := by
  rw [List.take_succ_eq_append_getElem h]; simp [List.getD_eq_getElem?_getD, List.getElem?_eq_getElem h]
theorem mem_take_succ {l : List Nat} {t i : Nat} (h : t < l.length) : i ∈ l.take (t + 1) ↔ i ∈ l.take t ∨ i = l.getD t 0 := by
  rw [take_snocN l t h]; simp
theorem getD_not_mem {r : Nat → Int} {n t : Nat} (h : t < n) : ¬ (ordOf r n).getD t 0 ∈ (ordOf r n).take t := by
  have hl : t < (ordOf r n).length := by rw [ordOf_len]; exact h
  have hnd := ordOf_nodup r n
  rw [← List.take_append_drop (t + 1) (ordOf r n), take_snocN _ _ hl, List.nodup_append, List.nodup_append] at hnd
  intro hin
  exact hnd.1.2.2 _ hin _ (List.mem_singleton.2 rfl) rfl
theorem getD_ord_lt {r : Nat → Int} {n t : Nat} (h : t < n) : (ordOf r n).getD t 0 < n := by
  have hl : t < (ordOf r n).length := by rw [ordOf_len]; exact h
  have e : (ordOf r n).getD t 0 = (ordOf r n)[t] := by simp [List.getD_eq_getElem?_getD, List.getElem?_eq_getElem hl]
  rw [e]; exact ordOf_mem.1 (List.getElem_mem hl)

/- Shares. -/
def bsW (sp : Int) (ws : List Int) (i : Nat) : Int := sp * ws.getD i 0 / tot ws ws.length
def rsW (sp : Int) (ws : List Int) (i : Nat) : Int := sp * ws.getD i 0 % tot ws ws.length
def kW (sp : Int) (ws : List Int) : Int := sp - sm (bsW sp ws) ws.length
def ordW (sp : Int) (ws : List Int) : List Nat := ordOf (rsW sp ws) ws.length
/- The shares when t of the rests are given. -/
def shT (sp : Int) (ws : List Int) (t : Nat) (i : Nat) : Int := bsW sp ws i + if i ∈ (ordW sp ws).take t then 1 else 0
def shr (sp : Int) (ws : List Int) : List Int := if tot ws ws.length = 0 then mk ws.length fun _ => 0 else mk ws.length (shT sp ws (kW sp ws).toNat)
theorem shr_len (sp : Int) (ws : List Int) : (shr sp ws).length = ws.length := by unfold shr; split <;> rw [mk_len]
section
variable {sp hi : Int} {ws : List Int}
theorem bs_rs (i : Nat) : tot ws ws.length * bsW sp ws i + rsW sp ws i = sp * ws.getD i 0 := Int.mul_ediv_add_emod _ _
theorem rsW_bd (h : 0 < tot ws ws.length) (i : Nat) : 0 ≤ rsW sp ws i ∧ rsW sp ws i < tot ws ws.length := ⟨Int.emod_nonneg _ (by omega), Int.emod_lt_of_pos _ h⟩
theorem tot_pos (hb : AllB ws 0 hi) (h0 : ¬ tot ws ws.length = 0) : 0 < tot ws ws.length := by
  have := (tot_ge ws 0 hi hb ws.length (Nat.le_refl _)).1
  omega
theorem kW_mul : tot ws ws.length * kW sp ws = sm (rsW sp ws) ws.length := by
  have h1 : sm (fun i => tot ws ws.length * bsW sp ws i + rsW sp ws i) ws.length = sp * tot ws ws.length := by
    rw [sm_congr (g := fun i => sp * ws.getD i 0) _ (fun i _ => bs_rs i), sm_mul, ← tot_sm]
  rw [sm_add, sm_mul] at h1
  unfold kW
  rw [Int.mul_sub, Int.mul_comm _ sp]
  omega
theorem kW_bd (h : 0 < tot ws ws.length) : 0 ≤ kW sp ws ∧ kW sp ws < ws.length := by
  have h1 := kW_mul (sp := sp) (ws := ws)
  have h2 := sm_nonneg ws.length fun i _ => (rsW_bd (sp := sp) h i).1
  have h3 : sm (rsW sp ws) ws.length ≤ (tot ws ws.length - 1) * ws.length := by
    rw [← sm_const]; exact sm_le _ fun i _ => by have := (rsW_bd (sp := sp) h i).2; omega
  have hn : 0 < ws.length := by
    rcases Nat.eq_zero_or_pos ws.length with h4 | h4
    · rw [h4, tot_zero] at h; omega
    · exact h4
  constructor
  · rcases Int.lt_or_le (kW sp ws) 0 with h4 | h4
    · have := Int.mul_neg_of_pos_of_neg h h4; omega
    · exact h4
  · have h5 : tot ws ws.length * kW sp ws < tot ws ws.length * ws.length := by
      rw [h1]; rw [Int.sub_mul] at h3; omega
    exact Int.lt_of_mul_lt_mul_left h5 (by omega)
theorem ordW_take_nodup (t : Nat) : ((ordW sp ws).take t).Nodup := (ordOf_nodup _ _).sublist (List.take_sublist _ _)
theorem ordW_take_len (h : 0 < tot ws ws.length) : (((ordW sp ws).take (kW sp ws).toNat).length : Int) = kW sp ws := by
  have := kW_bd (sp := sp) h
  rw [List.length_take, ordW, ordOf_len]; omega
theorem sm_taken (h : 0 < tot ws ws.length) : sm (fun i => if i ∈ (ordW sp ws).take (kW sp ws).toNat then (1 : Int) else 0) ws.length = kW sp ws := by
  rw [sm_mem _ _ (ordW_take_nodup _) (fun i hi => ordOf_mem.1 (List.mem_of_mem_take hi)), ordW_take_len h]
theorem shr_sum (h : 0 < tot ws ws.length) : sm (shT sp ws (kW sp ws).toNat) ws.length = sp := by
  show sm (fun i => bsW sp ws i + if i ∈ (ordW sp ws).take (kW sp ws).toNat then 1 else 0) ws.length = sp
  rw [sm_add, sm_taken h]; unfold kW; omega
theorem tot_shr (h : 0 < tot ws ws.length) : tot (shr sp ws) ws.length = sp := by
  unfold shr; rw [if_neg (by omega), tot_mk, shr_sum h]
theorem tot_shr0 (h : tot ws ws.length = 0) : tot (shr sp ws) ws.length = 0 := by
  unfold shr; rw [if_pos h, tot_mk, sm_const]; omega
/- Who gets one more has a rest. -/
theorem taken_pos (h : 0 < tot ws ws.length) {i : Nat} (hi : i ∈ (ordW sp ws).take (kW sp ws).toNat) : 0 < rsW sp ws i := by
  rcases Int.lt_or_le 0 (rsW sp ws i) with h1 | h1
  · exact h1
  exfalso
  have hk : 0 < kW sp ws := by
    rw [← ordW_take_len h]
    have := List.length_pos_of_mem hi
    omega
  have h2 : sm (rsW sp ws) ws.length ≤ sm (fun j => (tot ws ws.length - 1) * if j ∈ (ordW sp ws).take (kW sp ws).toNat then 1 else 0) ws.length := by
    refine sm_le _ fun j hj => ?_
    by_cases hin : j ∈ (ordW sp ws).take (kW sp ws).toNat
    · rw [if_pos hin]; have := (rsW_bd (sp := sp) h j).2; omega
    · rw [if_neg hin]
      have := ahd_le (take_pw (ordOf_pw (rsW sp ws) ws.length) hi (ordOf_mem.2 hj) hin)
      omega
  rw [sm_mul, sm_taken h, ← kW_mul, Int.sub_mul] at h2
  omega
theorem getD_le_tot (hb : AllB ws 0 hi) (i : Nat) (h : i < ws.length) : ws.getD i 0 ≤ tot ws ws.length := by
  have h1 := tot_succ ws i
  have h2 := tot_mono ws hi hb (i + 1) ws.length (by omega) (Nat.le_refl _)
  have h3 := (tot_ge ws 0 hi hb i (by omega)).1
  omega
theorem bsW_le (hs : 0 ≤ sp) (hb : AllB ws 0 hi) (h : 0 < tot ws ws.length) (i : Nat) (hi' : i < ws.length) : 0 ≤ bsW sp ws i ∧ bsW sp ws i ≤ sp := by
  have h1 := hb.getD i hi'
  have h2 : 0 ≤ sp * ws.getD i 0 := Int.mul_nonneg hs h1.1
  have h3 : sp * ws.getD i 0 ≤ sp * tot ws ws.length := Int.mul_le_mul_of_nonneg_left (getD_le_tot hb i hi') hs
  exact ⟨Int.ediv_nonneg h2 (by omega), Int.ediv_le_of_le_mul h h3⟩
theorem shT_le (hs : 0 ≤ sp) (hb : AllB ws 0 hi) (h : 0 < tot ws ws.length) (t i : Nat) (hi' : i < ws.length) : 0 ≤ shT sp ws t i ∧ shT sp ws t i ≤ sp + 1 := by
  have h4 := bsW_le hs hb h i hi'
  unfold shT; split <;> omega
theorem shT_succ {t : Nat} (h : t < ws.length) (i : Nat) : shT sp ws (t + 1) i = if i = (ordW sp ws).getD t 0 then shT sp ws t i + 1 else shT sp ws t i := by
  have hl : t < (ordW sp ws).length := by rw [ordW, ordOf_len]; exact h
  have hm := mem_take_succ (i := i) hl
  unfold shT
  by_cases he : i = (ordW sp ws).getD t 0
  · have hn : ¬ i ∈ (ordW sp ws).take t := by rw [he]; exact getD_not_mem h
    rw [if_pos he, if_pos (hm.2 (.inr he)), if_neg hn]; omega
  · rw [if_neg he]
    by_cases hin : i ∈ (ordW sp ws).take t
    · rw [if_pos hin, if_pos (hm.2 (.inl hin))]
    · rw [if_neg hin, if_neg (fun h => (hm.1 h).elim hin he)]
theorem lft_succ {r : Nat → Int} {n t : Nat} (h : t < n) (i : Nat) : lft r (ordOf r n) (t + 1) i = if i = (ordOf r n).getD t 0 then -1 else lft r (ordOf r n) t i := by
  have hl : t < (ordOf r n).length := by rw [ordOf_len]; exact h
  have hm := mem_take_succ (i := i) hl
  unfold lft
  by_cases he : i = (ordOf r n).getD t 0
  · rw [if_pos he, if_pos (hm.2 (.inr he))]
  · rw [if_neg he]
    by_cases hin : i ∈ (ordOf r n).take t
    · rw [if_pos hin, if_pos (hm.2 (.inl hin))]
    · rw [if_neg hin, if_neg (fun h => (hm.1 h).elim hin he)]
theorem shT_bd (hs : 0 ≤ sp) (hs1 : sp ≤ 200000) (hb : AllB ws 0 200000) (h : 0 < tot ws ws.length) (t i : Nat) (hi' : i < ws.length) : 0 ≤ shT sp ws t i ∧ shT sp ws t i ≤ 40000000001 := by
  have h1 := hb.getD i hi'
  have h2 : 0 ≤ sp * ws.getD i 0 := Int.mul_nonneg hs h1.1
  have h3 : sp * ws.getD i 0 ≤ 200000 * 200000 := Int.mul_le_mul hs1 h1.2 h1.1 (by omega)
  have h4 : 0 ≤ bsW sp ws i := Int.ediv_nonneg h2 (by omega)
  have h5 : bsW sp ws i ≤ sp * ws.getD i 0 := Int.ediv_le_self _ h2
  unfold shT; split <;> omega
theorem shT_nonneg (hs : 0 ≤ sp) (hb : AllB ws 0 hi) (h : 0 < tot ws ws.length) (t i : Nat) (hi' : i < ws.length) : 0 ≤ shT sp ws t i := by
  have h1 := (hb.getD i hi').1
  have : 0 ≤ bsW sp ws i := Int.ediv_nonneg (Int.mul_nonneg hs h1) (by omega)
  unfold shT; split <;> omega
end
end Go.Proofs.Ytjaecgobgpfbdaa
