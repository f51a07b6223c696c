/- Plain laws: sizes that move towards their bounds, share by share. -/
import Derived.Test.YtjaecgobgpfbdaaPS
namespace Go.Proofs.Ytjaecgobgpfbdaa

theorem shr_getD (sp : Int) (ws : List Int) (i : Nat) (hi : i < ws.length) : (shr sp ws).getD i 0 = if tot ws ws.length = 0 then 0 else shT sp ws (kW sp ws).toNat i := by
  unfold shr; split <;> rw [mk_getD _ _ _ hi]
theorem shr_nonneg {sp hi : Int} {ws : List Int} (hs : 0 ≤ sp) (hb : AllB ws 0 hi) (i : Nat) (h : i < ws.length) : 0 ≤ (shr sp ws).getD i 0 := by
  rw [shr_getD sp ws i h]
  split
  · omega
  · exact shT_nonneg hs hb (tot_pos hb (by assumption)) _ i h
/- Who has no weight gets nothing. -/
theorem shr_none {sp hi : Int} {ws : List Int} (hb : AllB ws 0 hi) (i : Nat) (h : i < ws.length) (h0 : ws.getD i 0 = 0) : (shr sp ws).getD i 0 = 0 := by
  rw [shr_getD sp ws i h]
  split
  · rfl
  · rename_i hT
    have hp := tot_pos hb hT
    have h1 : rsW sp ws i = 0 := by unfold rsW; rw [h0, Int.mul_zero, Int.zero_emod]
    have h2 : bsW sp ws i = 0 := by unfold bsW; rw [h0, Int.mul_zero, Int.zero_ediv]
    have h3 : ¬ i ∈ (ordW sp ws).take (kW sp ws).toNat := fun hin => by have := taken_pos hp hin; omega
    unfold shT; rw [if_neg h3, h2]; rfl
theorem shr_sm {sp hi : Int} {ws : List Int} (hb : AllB ws 0 hi) : sm (fun i => (shr sp ws).getD i 0) ws.length = if tot ws ws.length = 0 then 0 else sp := by
  rw [← tot_sm]
  split
  · exact tot_shr0 (by assumption)
  · exact tot_shr (tot_pos hb (by assumption))

/- n sizes, each with the way that it can go, and a weight; L to be split. -/
def wtL (n : Nat) (cap wt d : Nat → Int) : List Int := mk n fun i => if d i < cap i then wt i else 0
def dst (n : Nat) (cap wt : Nat → Int) (L : Int) : Nat → Nat → Int
  | 0 => fun _ => 0
  | k + 1 => fun i => dst n cap wt L k i + min ((shr (L - sm (dst n cap wt L k) n) (wtL n cap wt (dst n cap wt L k))).getD i 0) (cap i - dst n cap wt L k i)
/- What is left behind k rounds, and the shares of the next one. -/
def lfI (n : Nat) (cap wt : Nat → Int) (L : Int) (k : Nat) : Int := L - sm (dst n cap wt L k) n
def shI (n : Nat) (cap wt : Nat → Int) (L : Int) (k : Nat) : List Int := shr (lfI n cap wt L k) (wtL n cap wt (dst n cap wt L k))
def stp (n : Nat) (cap wt : Nat → Int) (L : Int) (k : Nat) : Prop := tot (shI n cap wt L k) n = 0
section
variable {n : Nat} {cap wt : Nat → Int} {L : Int}
theorem wtL_len (d : Nat → Int) : (wtL n cap wt d).length = n := mk_len _ _
theorem wtL_getD (d : Nat → Int) (i : Nat) (h : i < n) : (wtL n cap wt d).getD i 0 = if d i < cap i then wt i else 0 := mk_getD _ _ _ h
theorem shI_len (k : Nat) : (shI n cap wt L k).length = n := by unfold shI; rw [shr_len, wtL_len]
theorem dst_succ (k i : Nat) : dst n cap wt L (k + 1) i = dst n cap wt L k i + min ((shI n cap wt L k).getD i 0) (cap i - dst n cap wt L k i) := rfl
variable {W : Int} (hw : ∀ i, i < n → 0 ≤ wt i ∧ wt i ≤ W) (hW : 0 ≤ W) (hc : ∀ i, i < n → 0 ≤ cap i) (hL : 0 ≤ L)
include hw hW
theorem wtL_all (d : Nat → Int) : AllB (wtL n cap wt d) 0 W := mk_AllB _ _ _ _ fun i hi => by
  have := hw i hi
  split <;> omega
theorem shI_sm (k : Nat) : sm (fun i => (shI n cap wt L k).getD i 0) n = if tot (wtL n cap wt (dst n cap wt L k)) n = 0 then 0 else lfI n cap wt L k := by
  have h := shr_sm (sp := lfI n cap wt L k) (wtL_all (cap := cap) hw hW (dst n cap wt L k))
  rw [wtL_len] at h
  exact h
include hc hL
/- The bounds, and that no more is given than is there. -/
theorem dst_inv (k : Nat) : (∀ i, i < n → 0 ≤ dst n cap wt L k i ∧ dst n cap wt L k i ≤ cap i) ∧ 0 ≤ lfI n cap wt L k := by
  induction k with
  | zero => exact ⟨fun i hi => ⟨Int.le_refl _, hc i hi⟩, by unfold lfI; show 0 ≤ L - sm (fun _ => 0) n; rw [sm_const]; omega⟩
  | succ k ih =>
    obtain ⟨h1, h2⟩ := ih
    have hsh : ∀ i, i < n → 0 ≤ (shI n cap wt L k).getD i 0 := fun i hi => shr_nonneg h2 (wtL_all (cap := cap) hw hW _) i (by rw [wtL_len]; exact hi)
    refine ⟨fun i hi => ?_, ?_⟩
    · rw [dst_succ]
      have := h1 i hi
      have := hsh i hi
      omega
    · have h3 : sm (dst n cap wt L (k + 1)) n ≤ sm (dst n cap wt L k) n + sm (fun i => (shI n cap wt L k).getD i 0) n := by
        rw [← sm_add]; exact sm_le n fun i hi => by rw [dst_succ]; omega
      rw [shI_sm hw hW] at h3
      unfold lfI at h2 h3 ⊢
      split at h3 <;> omega
theorem shI_nonneg (k i : Nat) (hi : i < n) : 0 ≤ (shI n cap wt L k).getD i 0 := shr_nonneg (dst_inv hw hW hc hL k).2 (wtL_all (cap := cap) hw hW _) i (by rw [wtL_len]; exact hi)
omit hL in
theorem dst_none (k i : Nat) (hi : i < n) (h0 : wt i = 0) : dst n cap wt L k i = 0 := by
  induction k with
  | zero => rfl
  | succ k ih =>
    have h1 : (shI n cap wt L k).getD i 0 = 0 := shr_none (wtL_all (cap := cap) hw hW _) i (by rw [wtL_len]; exact hi) (by rw [wtL_getD _ _ hi, h0]; split <;> rfl)
    rw [dst_succ, ih, h1]
    have := hc i hi
    omega
/- Where nothing is given any more, it stays so. -/
theorem stp_same {k : Nat} (h : stp n cap wt L k) (i : Nat) (hi : i < n) : dst n cap wt L (k + 1) i = dst n cap wt L k i := by
  unfold stp at h
  rw [tot_sm] at h
  have := sm_zero n (fun i hi => shI_nonneg hw hW hc hL k i hi) h i hi
  have := ((dst_inv hw hW hc hL k).1 i hi).2
  rw [dst_succ]
  omega
omit hw hW hc hL in
theorem lfI_congr {k k' : Nat} (h : ∀ i, i < n → dst n cap wt L k i = dst n cap wt L k' i) : lfI n cap wt L k = lfI n cap wt L k' := by
  unfold lfI; rw [sm_congr n h]
omit hw hW hc hL in
theorem wtL_congr {d d' : Nat → Int} (h : ∀ i, i < n → d i = d' i) : wtL n cap wt d = wtL n cap wt d' := mk_congr n _ _ fun i hi => by rw [h i hi]
omit hw hW hc hL in
theorem shI_congr {k k' : Nat} (h : ∀ i, i < n → dst n cap wt L k i = dst n cap wt L k' i) : shI n cap wt L k = shI n cap wt L k' := by
  unfold shI; rw [lfI_congr h, wtL_congr h]
theorem stp_keep {k : Nat} (h : stp n cap wt L k) : stp n cap wt L (k + 1) := by
  unfold stp at h ⊢
  rw [shI_congr (k := k + 1) (k' := k) (stp_same hw hW hc hL h)]
  exact h
theorem stp_all {k : Nat} (h : stp n cap wt L k) (m : Nat) : stp n cap wt L (k + m) ∧ ∀ i, i < n → dst n cap wt L (k + m) i = dst n cap wt L k i := by
  induction m with
  | zero => exact ⟨h, fun _ _ => rfl⟩
  | succ m ih => exact ⟨stp_keep hw hW hc hL ih.1, fun i hi => (stp_same hw hW hc hL ih.1 i hi).trans (ih.2 i hi)⟩
/- Stopped: nothing is left, or nobody who may go on has a weight. -/
omit hc hL in
theorem stp_why {k : Nat} (h : stp n cap wt L k) : lfI n cap wt L k = 0 ∨ ∀ i, i < n → dst n cap wt L k i < cap i → wt i = 0 := by
  unfold stp at h
  rw [tot_sm, shI_sm hw hW] at h
  split at h
  · rename_i h0
    refine .inr fun i hi hlt => ?_
    rw [tot_sm] at h0
    have h1 := sm_zero n (fun i hi => by rw [wtL_getD _ _ hi]; have := hw i hi; split <;> omega) h0 i hi
    rw [wtL_getD _ _ hi, if_pos hlt] at h1
    exact h1
  · exact .inl h
omit hc hL in
theorem stp_of {k : Nat} (h : lfI n cap wt L k = 0) : stp n cap wt L k := by
  unfold stp
  rw [tot_sm, shI_sm hw hW, h]; split <;> rfl
omit hw hW hc hL in
/- How many may go on. -/
def act (n : Nat) (cap wt d : Nat → Int) : Int := sm (fun i => if d i < cap i ∧ 0 < wt i then (1 : Int) else 0) n
theorem act_less {k : Nat} (h1 : ¬ stp n cap wt L k) (h2 : ¬ stp n cap wt L (k + 1)) : act n cap wt (dst n cap wt L (k + 1)) + 1 ≤ act n cap wt (dst n cap wt L k) := by
  have hd := (dst_inv hw hW hc hL k).1
  have hsh := fun i hi => shI_nonneg hw hW hc hL k i hi
  have hnz : ¬ tot (wtL n cap wt (dst n cap wt L k)) n = 0 := fun h0 => h1 (by unfold stp; rw [tot_sm, shI_sm hw hW, if_pos h0])
  have hle : ∀ i, i < n → (if dst n cap wt L (k + 1) i < cap i ∧ 0 < wt i then (1 : Int) else 0) ≤ if dst n cap wt L k i < cap i ∧ 0 < wt i then (1 : Int) else 0 := by
    intro i hi
    have a1 := hd i hi
    have a2 := hsh i hi
    rw [dst_succ]
    split
    · rename_i h; rw [if_pos ⟨by omega, h.2⟩]; exact Int.le_refl _
    · split <;> omega
  -- somebody reaches the bound
  have hex : ∃ i, i < n ∧ dst n cap wt L (k + 1) i = cap i ∧ dst n cap wt L k i < cap i ∧ 0 < wt i := by
    apply Classical.byContradiction
    intro hno
    refine h2 (stp_of hw hW ?_)
    have hall : ∀ i, i < n → dst n cap wt L (k + 1) i = dst n cap wt L k i + (shI n cap wt L k).getD i 0 := by
      intro i hi
      have a1 := hd i hi
      have a2 := hsh i hi
      rw [dst_succ]
      by_cases h3 : dst n cap wt L k i < cap i ∧ 0 < wt i
      · have h4 : ¬ dst n cap wt L (k + 1) i = cap i := fun h => hno ⟨i, hi, h, h3.1, h3.2⟩
        rw [dst_succ] at h4
        omega
      · have h5 : (shI n cap wt L k).getD i 0 = 0 := shr_none (wtL_all (cap := cap) hw hW _) i (by rw [wtL_len]; exact hi) (by
          rw [wtL_getD _ _ hi]
          have := hw i hi
          split <;> omega)
        omega
    have h6 : sm (dst n cap wt L (k + 1)) n = sm (dst n cap wt L k) n + sm (fun i => (shI n cap wt L k).getD i 0) n := by
      rw [← sm_add]; exact sm_congr n hall
    rw [shI_sm hw hW, if_neg hnz] at h6
    unfold lfI at h6 ⊢
    omega
  obtain ⟨i, hi, e1, e2, e3⟩ := hex
  unfold act
  have h7 : sm (fun j => (if dst n cap wt L (k + 1) j < cap j ∧ 0 < wt j then (1 : Int) else 0) + if j = i then 1 else 0) n ≤ sm (fun j => if dst n cap wt L k j < cap j ∧ 0 < wt j then (1 : Int) else 0) n := by
    refine sm_le n fun j hj => ?_
    by_cases hji : j = i
    · subst hji
      rw [if_pos rfl, if_neg (by omega), if_pos ⟨e2, e3⟩]; omega
    · rw [if_neg hji]; have := hle j hj; omega
  rw [sm_add, sm_single i n hi] at h7
  exact h7
theorem stp_or (k : Nat) : stp n cap wt L k ∨ act n cap wt (dst n cap wt L k) + k ≤ n := by
  induction k with
  | zero =>
    right
    have h : act n cap wt (dst n cap wt L 0) ≤ sm (fun _ => 1) n := sm_le n fun i _ => by split <;> omega
    rw [sm_const] at h
    omega
  | succ k ih =>
    by_cases h2 : stp n cap wt L (k + 1)
    · exact .inl h2
    · by_cases h1 : stp n cap wt L k
      · exact absurd (stp_keep hw hW hc hL h1) h2
      · rcases ih with h | h
        · exact absurd h h1
        · right
          have := act_less hw hW hc hL h1 h2
          omega
theorem stp_end : stp n cap wt L (n + 1) := by
  rcases stp_or hw hW hc hL (n + 1) with h | h
  · exact h
  · have : 0 ≤ act n cap wt (dst n cap wt L (n + 1)) := sm_nonneg n fun i _ => by split <;> omega
    omega
/- Where it stopped is the end. -/
theorem dst_end {k : Nat} (hk : k ≤ n + 1) (h : stp n cap wt L k) (i : Nat) (hi : i < n) : dst n cap wt L (n + 1) i = dst n cap wt L k i := by
  have := (stp_all hw hW hc hL h (n + 1 - k)).2 i hi
  rwa [show k + (n + 1 - k) = n + 1 from by omega] at this
/- The sum of all ways at the end. -/
theorem sm_end : sm (dst n cap wt L (n + 1)) n = min L (sm (fun i => if wt i = 0 then 0 else cap i) n) := by
  have h1 := dst_inv hw hW hc hL (n + 1)
  have h2 : sm (dst n cap wt L (n + 1)) n ≤ sm (fun i => if wt i = 0 then 0 else cap i) n := sm_le n fun i hi => by
    by_cases h0 : wt i = 0
    · rw [if_pos h0, dst_none hw hW hc _ i hi h0]; exact Int.le_refl _
    · rw [if_neg h0]; exact (h1.1 i hi).2
  have h3 := h1.2
  rcases stp_why hw hW (stp_end hw hW hc hL) with h | h
  · unfold lfI at h h3; omega
  · have h4 : sm (dst n cap wt L (n + 1)) n = sm (fun i => if wt i = 0 then 0 else cap i) n := sm_congr n fun i hi => by
      by_cases h0 : wt i = 0
      · rw [if_pos h0, dst_none hw hW hc _ i hi h0]
      · rw [if_neg h0]
        have := (h1.1 i hi).2
        have h5 : ¬ dst n cap wt L (n + 1) i < cap i := fun hlt => h0 (h i hi hlt)
        omega
    unfold lfI at h3; omega
/- The moves of a round. -/
def mvI (n : Nat) (cap wt : Nat → Int) (L : Int) (k i : Nat) : Int := min ((shI n cap wt L k).getD i 0) (cap i - dst n cap wt L k i)
omit hw hW hc hL in
theorem dst_mv (k i : Nat) : dst n cap wt L (k + 1) i = dst n cap wt L k i + mvI n cap wt L k i := rfl
omit hw hW hc hL in
theorem lfI_mv (k : Nat) : lfI n cap wt L (k + 1) = lfI n cap wt L k - sm (mvI n cap wt L k) n := by
  unfold lfI
  rw [sm_congr (f := dst n cap wt L (k + 1)) n (fun i _ => dst_mv k i), sm_add]; omega
theorem mvI_bd (k i : Nat) (hi : i < n) : 0 ≤ mvI n cap wt L k i ∧ mvI n cap wt L k i ≤ cap i - dst n cap wt L k i := by
  have h1 := shI_nonneg hw hW hc hL k i hi
  have h2 := ((dst_inv hw hW hc hL k).1 i hi).2
  unfold mvI; omega
theorem lfI_bd (k : Nat) : 0 ≤ lfI n cap wt L k ∧ lfI n cap wt L k ≤ L := by
  have h1 := dst_inv hw hW hc hL k
  have h2 := sm_nonneg n fun i hi => (h1.1 i hi).1
  have h3 := h1.2
  unfold lfI at h3 ⊢; omega
/- Some moves' sum lies between. -/
theorem mvS_bd (k q : Nat) (hq : q ≤ n) : 0 ≤ sm (mvI n cap wt L k) q ∧ sm (mvI n cap wt L k) q ≤ lfI n cap wt L k := by
  have h1 := sm_nonneg q fun i hi => (mvI_bd hw hW hc hL k i (by omega)).1
  refine ⟨h1, ?_⟩
  have h2 : ∀ m, q ≤ m → m ≤ n → sm (mvI n cap wt L k) q ≤ sm (mvI n cap wt L k) m := by
    intro m hm hmn
    induction m with
    | zero => obtain rfl : q = 0 := by omega
              exact Int.le_refl _
    | succ m ih =>
      rcases Nat.lt_or_ge q (m + 1) with h | h
      · have := ih (by omega) (by omega)
        have := (mvI_bd hw hW hc hL k m (by omega)).1
        simp only [sm]; omega
      · obtain rfl : q = m + 1 := by omega
        exact Int.le_refl _
  have h3 := h2 n hq (Nat.le_refl _)
  have h4 := (lfI_bd hw hW hc hL (k + 1)).1
  rw [lfI_mv] at h4
  omega
theorem lfI_less {k : Nat} (h : ¬ stp n cap wt L k) : lfI n cap wt L (k + 1) < lfI n cap wt L k := by
  rw [lfI_mv]
  have h0 := fun i hi => (mvI_bd hw hW hc hL k i hi).1
  have h1 := sm_nonneg n h0
  rcases Int.lt_or_eq_of_le h1 with h2 | h2
  · omega
  · exfalso
    have h3 := sm_zero n h0 h2.symm
    refine h ?_
    unfold stp
    rw [tot_sm, sm_congr (g := fun _ => 0) n (fun i hi => ?_), sm_const]
    · omega
    · have h4 := h3 i hi
      have h5 := shI_nonneg hw hW hc hL k i hi
      have h6 := ((dst_inv hw hW hc hL k).1 i hi).2
      by_cases h7 : dst n cap wt L k i < cap i
      · unfold mvI at h4; omega
      · exact shr_none (wtL_all (cap := cap) hw hW _) i (by rw [wtL_len]; exact hi) (by rw [wtL_getD _ _ hi, if_neg h7])
/- The first stop is the end. -/
theorem dst_first {k : Nat} (h : ∀ j, j < k → ¬ stp n cap wt L j) (hs : stp n cap wt L k) (i : Nat) (hi : i < n) : dst n cap wt L k i = dst n cap wt L (n + 1) i := by
  have hk : k ≤ n + 1 := by
    rcases Nat.lt_or_ge (n + 1) k with h1 | h1
    · exact absurd (stp_end hw hW hc hL) (h _ h1)
    · exact h1
  exact (dst_end hw hW hc hL hk hs i hi).symm
end
end Go.Proofs.Ytjaecgobgpfbdaa
