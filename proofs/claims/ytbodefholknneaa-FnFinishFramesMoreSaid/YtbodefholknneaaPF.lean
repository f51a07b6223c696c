/- Plain laws of frames: what is left of jobs, the frame in which each is done. -/
import Derived.Test.YtbodefholknneaaP
namespace Go.Proofs.Ytbodefholknneaa

/- What is left of job k, when H is what all frames do. -/
def wl (zs : List Int) (H : Int) (k : Nat) : Int := zs.getD k 0 - min (zs.getD k 0) (max (H - tot zs k) 0)
def workList (zs : List Int) (H : Int) : List Int := mk zs.length (wl zs H)
theorem workList_len (zs : List Int) (H : Int) : (workList zs H).length = zs.length := mk_len _ _
theorem workList_getD (zs : List Int) (H : Int) (k : Nat) (h : k < zs.length) : (workList zs H).getD k 0 = wl zs H k := mk_getD _ _ _ h
theorem wl_bd {zs : List Int} {hi : Int} (h : AllB zs 0 hi) (H : Int) (k : Nat) (hk : k < zs.length) : 0 ≤ wl zs H k ∧ wl zs H k ≤ hi := by
  have := h.getD k hk
  unfold wl; omega
theorem workList_AllB {zs : List Int} {hi : Int} (h : AllB zs 0 hi) (H : Int) : AllB (workList zs H) 0 hi := mk_AllB _ _ _ _ fun i hi' => wl_bd h H i hi'
/- The sum of the first k of what is left. -/
theorem tot_work {zs : List Int} {hi : Int} (h : AllB zs 0 hi) {H : Int} (hH : 0 ≤ H) (k : Nat) (hk : k ≤ zs.length) : tot (workList zs H) k = max (tot zs k - H) 0 := by
  induction k with
  | zero => rw [tot_zero, tot_zero]; omega
  | succ k ih =>
    have h1 := ih (by omega)
    have h2 := h.getD k (by omega)
    have h3 := (tot_ge zs 0 hi h k (by omega)).1
    rw [tot_succ, tot_succ, h1, workList_getD _ _ _ (by omega)]
    unfold wl
    omega
theorem work_work {zs : List Int} {hi : Int} (h : AllB zs 0 hi) {H K : Int} (hH : 0 ≤ H) (hK : 0 ≤ K) : workList (workList zs H) K = workList zs (H + K) := by
  unfold workList
  rw [mk_len]
  apply mk_congr
  intro i hi'
  have h1 := tot_work h hH i (by omega)
  have h2 := workList_getD zs H i hi'
  have h3 := (tot_ge zs 0 hi h i (by omega)).1
  have h4 := h.getD i hi'
  unfold workList at h1 h2
  unfold wl at h2 ⊢
  unfold wl at h1
  rw [h1, h2]
  omega
/- The state behind m frames: the first frame with which need is done, or -1. -/
def frm (bs : List Int) (need : Int) : Nat → Int
  | 0 => -1
  | m + 1 => if 0 ≤ frm bs need m then frm bs need m else if need ≤ tot bs (m + 1) then (m : Int) else -1
theorem frm_bd (bs : List Int) (need : Int) (m : Nat) : -1 ≤ frm bs need m ∧ frm bs need m < m := by
  induction m with
  | zero => simp [frm]
  | succ m ih => unfold frm; split <;> (try split) <;> omega
theorem frm_no {bs : List Int} {need : Int} {m : Nat} (h : frm bs need m < 0) : ∀ j, j < m → ¬ need ≤ tot bs (j + 1) := by
  induction m with
  | zero => intro j hj; omega
  | succ m ih =>
    by_cases h0 : 0 ≤ frm bs need m
    · rw [frm, if_pos h0] at h; omega
    · by_cases h1 : need ≤ tot bs (m + 1)
      · rw [frm, if_neg h0, if_pos h1] at h; omega
      · intro j hj
        rcases Nat.lt_or_ge j m with h4 | h4
        · exact ih (by omega) j h4
        · have : j = m := by omega
          subst this; exact h1
theorem frm_yes {bs : List Int} {need : Int} {m : Nat} (h : 0 ≤ frm bs need m) : need ≤ tot bs ((frm bs need m).toNat + 1) ∧ ∀ j : Nat, (j : Int) < frm bs need m → ¬ need ≤ tot bs (j + 1) := by
  induction m with
  | zero => simp [frm] at h
  | succ m ih =>
    by_cases h0 : 0 ≤ frm bs need m
    · have e : frm bs need (m + 1) = frm bs need m := by rw [frm, if_pos h0]
      rw [e]; exact ih h0
    · by_cases h1 : need ≤ tot bs (m + 1)
      · have e : frm bs need (m + 1) = (m : Int) := by rw [frm, if_neg h0, if_pos h1]
        rw [e]
        exact ⟨by simpa using h1, fun j hj => frm_no (m := m) (by omega) j (by omega)⟩
      · rw [frm, if_neg h0, if_neg h1] at h; omega
theorem frm_of {bs : List Int} {need : Int} {m k : Nat} (hk : k < m) (h1 : need ≤ tot bs (k + 1)) : 0 ≤ frm bs need m ∧ frm bs need m ≤ k := by
  have h0 : 0 ≤ frm bs need m := Decidable.byContradiction fun h => frm_no (m := m) (by omega) k hk h1
  refine ⟨h0, Decidable.byContradiction fun h => ?_⟩
  exact (frm_yes h0).2 k (by omega) h1
/- Less need is done no later. -/
theorem frm_mono {bs : List Int} {a b : Int} {m : Nat} (h : a ≤ b) (hb : 0 ≤ frm bs b m) : 0 ≤ frm bs a m ∧ frm bs a m ≤ frm bs b m := by
  have h1 := (frm_yes hb).1
  have h2 := (frm_bd bs b m).2
  have h3 := frm_of (bs := bs) (need := a) (m := m) (k := (frm bs b m).toNat) (by omega) (by omega)
  omega
/- With larger sums it is done no later. -/
theorem frm_more {bs cs : List Int} {a : Int} {m : Nat} (h : ∀ k, tot bs (k + 1) ≤ tot cs (k + 1)) (hb : 0 ≤ frm bs a m) : 0 ≤ frm cs a m ∧ frm cs a m ≤ frm bs a m := by
  have h1 := (frm_yes hb).1
  have h2 := (frm_bd bs a m).2
  have h4 := h (frm bs a m).toNat
  have h3 := frm_of (bs := cs) (need := a) (m := m) (k := (frm bs a m).toNat) (by omega) (by omega)
  omega
theorem frm_stop {bs : List Int} {need : Int} {m m' : Nat} (h : 0 ≤ frm bs need m) (hm : m ≤ m') : frm bs need m' = frm bs need m := by
  induction m' with
  | zero => have : m = 0 := by omega
            subst this; rfl
  | succ m' ih =>
    rcases Nat.lt_or_ge m (m' + 1) with h1 | h1
    · have h2 := ih (by omega)
      rw [frm, if_pos (by omega), h2]
    · have : m = m' + 1 := by omega
      subst this; rfl
def finList (zs bs : List Int) : List Int := mk zs.length fun k => frm bs (tot zs (k + 1)) bs.length
theorem finList_len (zs bs : List Int) : (finList zs bs).length = zs.length := mk_len _ _
theorem finList_getD (zs bs : List Int) (k : Nat) (h : k < zs.length) : (finList zs bs).getD k 0 = frm bs (tot zs (k + 1)) bs.length := mk_getD _ _ _ h
end Go.Proofs.Ytbodefholknneaa
