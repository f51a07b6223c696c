/- Plain laws of trees: paths, the boxes in a box, valid trees. A tree of n boxes is a flat list of 9 n integers. -/
import Init
namespace Go.Proofs.Ytjaecgobgpfbdaa

def parB (zs : List Int) (i : Nat) : Int := zs.getD (9 * i) 0
def kdB (zs : List Int) (i : Nat) : Int := zs.getD (9 * i + 1) 0
def wdB (zs : List Int) (i : Nat) : Int := zs.getD (9 * i + 2) 0
def htB (zs : List Int) (i : Nat) : Int := zs.getD (9 * i + 3) 0
def pdB (zs : List Int) (i : Nat) : Int := zs.getD (9 * i + 4) 0
def gpB (zs : List Int) (i : Nat) : Int := zs.getD (9 * i + 5) 0
def gwB (zs : List Int) (i : Nat) : Int := zs.getD (9 * i + 6) 0
def shB (zs : List Int) (i : Nat) : Int := zs.getD (9 * i + 7) 0
def jsB (zs : List Int) (i : Nat) : Int := zs.getD (9 * i + 8) 0

/- A valid box, but for its parent. -/
def stB (k w h p g a b j : Int) : Bool :=
  decide (0 ≤ k) && decide (k ≤ 3) && decide (0 ≤ w) && decide (w ≤ if k = 0 then 100 else 0) && decide (0 ≤ h) && decide (h ≤ if k = 0 then 100 else 0) && decide (0 ≤ p) && decide (p ≤ 50) && decide (0 ≤ g) && decide (g ≤ 50) && decide (0 ≤ a) && decide (a ≤ 10) && decide (0 ≤ b) && decide (b ≤ 10) && decide (0 ≤ j) && decide (j ≤ 3)
theorem stB_iff {k w h p g a b j : Int} : stB k w h p g a b j = true ↔ (0 ≤ k ∧ k ≤ 3) ∧ (0 ≤ w ∧ w ≤ if k = 0 then 100 else 0) ∧ (0 ≤ h ∧ h ≤ if k = 0 then 100 else 0) ∧ (0 ≤ p ∧ p ≤ 50) ∧ (0 ≤ g ∧ g ≤ 50) ∧ (0 ≤ a ∧ a ≤ 10) ∧ (0 ≤ b ∧ b ≤ 10) ∧ 0 ≤ j ∧ j ≤ 3 := by
  unfold stB
  simp only [Bool.and_eq_true, decide_eq_true_eq, and_assoc]
def bxB (zs : List Int) (i : Nat) : Bool := stB (kdB zs i) (wdB zs i) (htB zs i) (pdB zs i) (gpB zs i) (gwB zs i) (shB zs i) (jsB zs i)

/- The parents of the first n boxes. -/
def PK (zs : List Int) (n : Nat) : Prop := ∀ i, i < n → (i = 0 → parB zs i = -1) ∧ (0 < i → 0 ≤ parB zs i ∧ parB zs i ≤ (i : Int) - 1)
theorem PK.mono {zs : List Int} {n m : Nat} (h : PK zs n) (hm : m ≤ n) : PK zs m := fun i hi => h i (Nat.lt_of_lt_of_le hi hm)
theorem PK.lt {zs : List Int} {n i : Nat} (h : PK zs n) (hi : i < n) : parB zs i < i := by
  rcases Nat.eq_zero_or_pos i with h0 | h0
  · have := (h i hi).1 h0; omega
  · have := (h i hi).2 h0; omega
theorem PK.ge {zs : List Int} {n i : Nat} (h : PK zs n) (hi : i < n) : -1 ≤ parB zs i := by
  rcases Nat.eq_zero_or_pos i with h0 | h0
  · have := (h i hi).1 h0; omega
  · have := (h i hi).2 h0; omega
theorem PK.up {zs : List Int} {n i : Nat} (h : PK zs n) (hi : i < n) (h0 : 0 ≤ parB zs i) : ∃ p : Nat, parB zs i = p ∧ p < i ∧ p < n :=
  ⟨(parB zs i).toNat, by omega, by have := h.lt hi; omega, by have := h.lt hi; omega⟩

/- The path to a box. -/
def pthF : Nat → List Int → Nat → List Nat
  | 0, _, i => [i]
  | f + 1, zs, i => if 0 ≤ parB zs i then pthF f zs (parB zs i).toNat ++ [i] else [i]
def pth (zs : List Int) (i : Nat) : List Nat := pthF i zs i
theorem pthF_eq {zs : List Int} {n : Nat} (h : PK zs n) : ∀ (f i : Nat), i < n → i ≤ f → pthF f zs i = pth zs i := by
  intro f
  induction f using Nat.strongRecOn with
  | _ f ih =>
    intro i hi hf
    rcases f with _ | f
    · obtain rfl : i = 0 := by omega
      rfl
    · unfold pth
      rcases i with _ | i
      · have h0 : ¬ 0 ≤ parB zs 0 := by have := (h 0 hi).1 rfl; omega
        show (if 0 ≤ parB zs 0 then _ else _) = [0]
        rw [if_neg h0]
      · show (if 0 ≤ parB zs (i + 1) then _ else _) = (if 0 ≤ parB zs (i + 1) then _ else _)
        by_cases h0 : 0 ≤ parB zs (i + 1)
        · rw [if_pos h0, if_pos h0]
          obtain ⟨p, hp, hlt, hn⟩ := h.up hi h0
          rw [hp, Int.toNat_natCast, ih f (by omega) p hn (by omega)]
          by_cases e : i = f
          · subst e; rw [ih i (by omega) p hn (by omega)]
          · rw [ih i (by omega) p hn (by omega)]
        · rw [if_neg h0, if_neg h0]
theorem pth_zero {zs : List Int} {n : Nat} (_h : PK zs n) (_hn : 0 < n) : pth zs 0 = [0] := rfl
theorem pth_up {zs : List Int} {n i p : Nat} (h : PK zs n) (hi : i < n) (hp : parB zs i = (p : Int)) : pth zs i = pth zs p ++ [i] := by
  have hlt := h.lt hi
  rcases i with _ | i
  · omega
  · show (if 0 ≤ parB zs (i + 1) then _ else _) = _
    rw [if_pos (by omega), hp, Int.toNat_natCast, pthF_eq h i p (by omega) (by omega)]
theorem pth_top {zs : List Int} {n i : Nat} (h : PK zs n) (hi : i < n) (hp : parB zs i < 0) : pth zs i = [i] ∧ i = 0 := by
  rcases Nat.eq_zero_or_pos i with h0 | h0
  · subst h0; exact ⟨rfl, rfl⟩
  · have := (h i hi).2 h0; omega
theorem pth_pos (zs : List Int) (i : Nat) : 0 < (pth zs i).length := by
  unfold pth
  cases i
  · exact Nat.one_pos
  · show 0 < (if _ then _ else _ : List Nat).length
    split <;> simp
theorem pth_mem_le {zs : List Int} {n : Nat} (h : PK zs n) : ∀ i, i < n → ∀ x, x ∈ pth zs i → x ≤ i := by
  intro i
  induction i using Nat.strongRecOn with
  | _ i ih =>
    intro hi x hx
    by_cases h0 : 0 ≤ parB zs i
    · obtain ⟨p, hp, hlt, hn⟩ := h.up hi h0
      rw [pth_up h hi hp] at hx
      rcases List.mem_append.1 hx with hx | hx
      · have := ih p hlt hn x hx; omega
      · have := List.mem_singleton.1 hx; omega
    · obtain ⟨e, _⟩ := pth_top h hi (by omega)
      rw [e] at hx
      have := List.mem_singleton.1 hx; omega
theorem pth_self {zs : List Int} {n i : Nat} (h : PK zs n) (hi : i < n) : i ∈ pth zs i := by
  by_cases h0 : 0 ≤ parB zs i
  · obtain ⟨p, hp, _, _⟩ := h.up hi h0
    rw [pth_up h hi hp]; simp
  · rw [(pth_top h hi (by omega)).1]; simp
theorem pth_len {zs : List Int} {n : Nat} (h : PK zs n) : ∀ i, i < n → (pth zs i).length ≤ i + 1 := by
  intro i
  induction i using Nat.strongRecOn with
  | _ i ih =>
    intro hi
    by_cases h0 : 0 ≤ parB zs i
    · obtain ⟨p, hp, hlt, hn⟩ := h.up hi h0
      rw [pth_up h hi hp]
      have := ih p hlt hn
      simp; omega
    · rw [(pth_top h hi (by omega)).1]; simp

/- The boxes in a box: of those from a on, below n. -/
def kdsL (zs : List Int) (n : Nat) (at_ : Int) : List Nat := (List.range n).filter fun i => parB zs i == at_
theorem kdsL_succ (zs : List Int) (k : Nat) (a : Int) : kdsL zs (k + 1) a = kdsL zs k a ++ (if parB zs k = a then [k] else []) := by
  unfold kdsL
  rw [List.range_succ, List.filter_append]
  congr 1
  by_cases h : parB zs k = a
  · simp [h]
  · simp [h]
theorem kdsL_mem {zs : List Int} {n i : Nat} {a : Int} : i ∈ kdsL zs n a ↔ i < n ∧ parB zs i = a := by
  unfold kdsL
  rw [List.mem_filter, List.mem_range]
  simp
theorem kdsL_low {zs : List Int} {n : Nat} (h : PK zs n) {a : Nat} (ha : a < n) : ∀ k, k ≤ a + 1 → kdsL zs k a = [] := by
  intro k hk
  induction k with
  | zero => rfl
  | succ k ih =>
    rw [kdsL_succ, ih (by omega), if_neg (by have := h.lt (show k < n by omega); omega)]
    rfl
theorem kdsL_len (zs : List Int) (n : Nat) (a : Int) : (kdsL zs n a).length ≤ n := by
  have := List.length_filter_le (fun i => parB zs i == a) (List.range n)
  rw [List.length_range] at this
  exact this

/- The spec's test of one box; its path; the whole. -/
def parOk (zs : List Int) (i : Nat) : Bool := if i = 0 then parB zs i == -1 else decide (0 ≤ parB zs i) && decide (parB zs i ≤ (i : Int) - 1)
theorem parOk_iff {zs : List Int} {i : Nat} : parOk zs i = true ↔ (i = 0 → parB zs i = -1) ∧ (0 < i → 0 ≤ parB zs i ∧ parB zs i ≤ (i : Int) - 1) := by
  unfold parOk
  by_cases h : i = 0
  · rw [if_pos h]
    constructor
    · intro e; exact ⟨fun _ => by simpa using e, fun h' => by omega⟩
    · intro e; simpa using e.1 h
  · rw [if_neg h]
    constructor
    · intro e; exact ⟨fun h' => absurd h' h, fun _ => by simpa using e⟩
    · intro e; have := e.2 (by omega); simpa using this
theorem PK_iff {zs : List Int} {n : Nat} : PK zs n ↔ ∀ i, i < n → parOk zs i = true := ⟨fun h i hi => parOk_iff.2 (h i hi), fun h i hi => parOk_iff.1 (h i hi)⟩
/- What both ask of box i beyond its own fields. -/
def upOk (zs : List Int) (n i : Nat) : Bool := decide (i = 0) || (!(kdB zs (parB zs i).toNat == 0) && decide ((kdsL zs n (parB zs i)).length ≤ 8) && decide ((pth zs i).length ≤ 6))
def inOk (zs : List Int) (i : Nat) : Bool := decide (i = 0) || (pth zs (i - 1)).contains (parB zs i).toNat
def vtB (zs : List Int) (n : Nat) : Bool :=
  (List.range n).all (fun i => bxB zs i && parOk zs i && upOk zs n i) && decide (1 ≤ n) && decide (n ≤ 16) && (List.range n).all (fun i => inOk zs i)
structure VT (zs : List Int) (n : Nat) : Prop where
  box : ∀ i, i < n → bxB zs i = true
  par : PK zs n
  up : ∀ i, i < n → upOk zs n i = true
  one : 1 ≤ n
  few : n ≤ 16
  inn : ∀ i, i < n → inOk zs i = true
theorem vtB_iff {zs : List Int} {n : Nat} : vtB zs n = true ↔ VT zs n := by
  unfold vtB
  simp only [Bool.and_eq_true, List.all_eq_true, List.mem_range, decide_eq_true_eq]
  constructor
  · rintro ⟨⟨⟨h1, h2⟩, h3⟩, h4⟩
    exact ⟨fun i hi => (h1 i hi).1.1, PK_iff.2 fun i hi => (h1 i hi).1.2, fun i hi => (h1 i hi).2, h2, h3, h4⟩
  · rintro ⟨a, b, c, d, e, f⟩
    exact ⟨⟨⟨fun i hi => ⟨⟨a i hi, PK_iff.1 b i hi⟩, c i hi⟩, d⟩, e⟩, f⟩
theorem vtB_false {zs : List Int} {n : Nat} (h : ¬ VT zs n) : vtB zs n = false := by
  cases e : vtB zs n
  · rfl
  · exact absurd (vtB_iff.1 e) h

/- The program's two rounds of tests. -/
def onOk (zs : List Int) (i : Nat) : Bool := bxB zs i && (decide (i = 0) || (decide (0 ≤ parB zs i) && decide (parB zs i ≤ (i : Int) - 1) && (pth zs (i - 1)).contains (parB zs i).toNat)) && decide ((pth zs i).length ≤ 6)
def kdOk (zs : List Int) (n i : Nat) : Bool := decide ((kdsL zs n i).length ≤ 8) && (!(kdB zs i == 0) || decide ((kdsL zs n i).length = 0))
theorem onOk_par {zs : List Int} {n : Nat} (h0 : parB zs 0 = -1) (h : ∀ i, i < n → onOk zs i = true) : PK zs n := fun i hi => by
  refine ⟨fun e => by rw [e]; exact h0, fun hp => ?_⟩
  have := h i hi
  unfold onOk at this
  have e : decide (i = 0) = false := by simp; omega
  rw [e] at this
  simp only [Bool.and_eq_true, Bool.false_or, decide_eq_true_eq] at this
  exact this.1.2.1
theorem VT.of {zs : List Int} {n : Nat} (h1 : 1 ≤ n) (h16 : n ≤ 16) (h0 : parB zs 0 = -1) (h : ∀ i, i < n → onOk zs i = true) (hk : ∀ i, i < n → kdOk zs n i = true) : VT zs n := by
  have hp := onOk_par h0 h
  refine ⟨fun i hi => ?_, hp, fun i hi => ?_, h1, h16, fun i hi => ?_⟩
  · have := h i hi
    unfold onOk at this
    simp only [Bool.and_eq_true] at this
    exact this.1.1
  · unfold upOk
    rcases Nat.eq_zero_or_pos i with h0 | h0
    · simp [h0]
    · obtain ⟨p, e, hlt, hn⟩ := hp.up hi ((hp i hi).2 h0).1
      have e1 : decide (i = 0) = false := by simp; omega
      have h2 := h i hi
      have h3 := hk p hn
      unfold onOk at h2
      unfold kdOk at h3
      rw [e1] at h2
      simp only [Bool.and_eq_true, Bool.false_or, decide_eq_true_eq, Bool.or_eq_true] at h2 h3
      have hm : i ∈ kdsL zs n p := kdsL_mem.2 ⟨hi, e⟩
      have hl : 0 < (kdsL zs n p).length := List.length_pos_of_mem hm
      rw [e1, e, Int.toNat_natCast]
      simp only [Bool.and_eq_true, Bool.false_or, decide_eq_true_eq]
      exact ⟨⟨by rcases h3.2 with h4 | h4; exact h4; omega, h3.1⟩, h2.2⟩
  · unfold inOk
    rcases Nat.eq_zero_or_pos i with h0 | h0
    · simp [h0]
    · have e1 : decide (i = 0) = false := by simp; omega
      have h2 := h i hi
      unfold onOk at h2
      rw [e1] at h2
      simp only [Bool.and_eq_true, Bool.false_or] at h2
      rw [e1, Bool.false_or]
      exact h2.1.2.2
theorem VT.on {zs : List Int} {n : Nat} (h : VT zs n) : parB zs 0 = -1 ∧ (∀ i, i < n → onOk zs i = true) ∧ ∀ i, i < n → kdOk zs n i = true := by
  refine ⟨(h.par 0 h.one).1 rfl, fun i hi => ?_, fun i hi => ?_⟩
  · unfold onOk
    have h1 := h.up i hi
    have h2 := h.inn i hi
    unfold upOk at h1
    unfold inOk at h2
    rw [h.box i hi]
    rcases Nat.eq_zero_or_pos i with h0 | h0
    · subst h0
      simp only [Bool.true_and, decide_true, Bool.true_or, decide_eq_true_eq]
      rw [pth_zero h.par h.one]
      decide
    · have e1 : decide (i = 0) = false := by simp; omega
      rw [e1] at h1 h2 ⊢
      rw [Bool.false_or] at h1 h2
      simp only [Bool.and_eq_true, decide_eq_true_eq] at h1
      simp only [Bool.true_and, Bool.false_or, Bool.and_eq_true, decide_eq_true_eq]
      exact ⟨⟨(h.par i hi).2 h0, h2⟩, h1.2⟩
  · unfold kdOk
    by_cases hl : (kdsL zs n i).length = 0
    · rw [hl]; simp
    · obtain ⟨k, hk⟩ := List.exists_mem_of_length_pos (show 0 < (kdsL zs n i).length by omega)
      obtain ⟨hk1, hk2⟩ := kdsL_mem.1 hk
      have h1 := h.up k hk1
      unfold upOk at h1
      have e1 : decide (k = 0) = false := by
        simp
        intro e
        subst e
        have := (h.par 0 hk1).1 rfl
        omega
      rw [e1, Bool.false_or, hk2, Int.toNat_natCast] at h1
      simp only [Bool.and_eq_true] at h1
      rw [h1.1.2, h1.1.1]
      rfl
end Go.Proofs.Ytjaecgobgpfbdaa
