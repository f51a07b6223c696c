/- Plain laws on offsets. -/
import Derived.Test.YtlijbopcllanfaaPO
namespace Go.Proofs.Ytlijbopcllanfaa

section
variable {zs : List Int} {sp gap j : Int}
theorem ofF_succ (i : Nat) : ofF zs sp gap j (i + 1) = ofF zs sp gap j i + (zs.getD i 0 + gap + ofMore j (ofLeft zs sp gap) zs.length i) := by unfold ofF; rw [sm]; omega
theorem ofF_zero : ofF zs sp gap j 0 = ofAt j (ofLeft zs sp gap) := by unfold ofF; simp [sm]
theorem ofF_step (h0 : 0 ≤ ofLeft zs sp gap) (i : Nat) : ofF zs sp gap j i + zs.getD i 0 + gap ≤ ofF zs sp gap j (i + 1) := by
  rw [ofF_succ]; have := (ofMore_bd (j := j) h0 zs.length i).1; omega
theorem ofF_gap (i : Nat) : ofF zs sp (gap + 1) 0 i = ofF zs sp gap 0 i + i := by
  induction i with
  | zero => rw [ofF_zero, ofF_zero]; simp [ofAt]
  | succ i ih => rw [ofF_succ, ofF_succ, ih, ofMore_no (by omega), ofMore_no (by omega)]; omega
theorem sm_zs (n : Nat) : sm (fun q => zs.getD q 0 + gap + ofMore j (ofLeft zs sp gap) zs.length q) n = tot zs n + gap * n + sm (ofMore j (ofLeft zs sp gap) zs.length) n := by
  rw [sm_add, sm_add, ← tot_sm, sm_const]
theorem sm_more (h : 1 < zs.length) : sm (ofMore 3 (ofLeft zs sp gap) zs.length) (zs.length - 1) = ofLeft zs sp gap := by
  have h1 := tot_shr (sp := ofLeft zs sp gap) (ws := mk (zs.length - 1) fun _ => 1) (by rw [mk_len, tot_ones]; omega)
  rw [mk_len, ofMore_short h, tot_mk] at h1
  exact h1
/- Where the last size ends. -/
theorem of_end {n : Nat} : ofF zs sp gap j n + zs.getD n 0 = ofAt j (ofLeft zs sp gap) + (tot zs (n + 1) + gap * n) + sm (ofMore j (ofLeft zs sp gap) zs.length) n := by
  unfold ofF; rw [sm_zs, tot_succ]; omega
theorem of_left {n : Nat} (hn : zs.length = n + 1) (hr : tot zs (n + 1) + gap * n ≤ sp) : ofLeft zs sp gap = sp - (tot zs (n + 1) + gap * n) := by
  unfold ofLeft
  rw [hn, show ((n + 1 : Nat) : Int) - 1 = n by omega]
  omega
theorem sm_none {k : Nat} (h : ¬ (j = 3 ∧ 1 < zs.length)) : sm (ofMore j (ofLeft zs sp gap) zs.length) k = 0 := by
  rw [sm_congr (g := fun _ => 0) k (fun i _ => ofMore_no h i), sm_const]; omega
theorem shr_of_zero {ws : List Int} (i : Nat) (h : i < ws.length) : (shr 0 ws).getD i 0 = 0 := by
  rw [shr_getD 0 ws i h]
  split
  · rfl
  · have hb : ∀ i, bsW 0 ws i = 0 := fun i => by unfold bsW; rw [Int.zero_mul, Int.zero_ediv]
    have hk : kW 0 ws = 0 := by unfold kW; rw [sm_congr (g := fun _ => 0) _ (fun i _ => hb i), sm_const]; omega
    unfold shT
    rw [hb i, hk]
    simp
/- A full space has one order. -/
theorem of_full {n : Nat} (hn : zs.length = n + 1) (i : Nat) : ofF zs (tot zs (n + 1) + gap * n) gap j i = ofF zs (tot zs (n + 1) + gap * n) gap 0 i := by
  have hl : ofLeft zs (tot zs (n + 1) + gap * n) gap = 0 := by rw [of_left hn (Int.le_refl _)]; omega
  unfold ofF
  rw [hl]
  have ha : ofAt j 0 = ofAt 0 0 := by unfold ofAt; split <;> (try split) <;> simp
  rw [ha, sm_congr i fun q _ => ?_]
  have h1 : ofMore j 0 zs.length q = 0 := by
    unfold ofMore
    split
    · rcases Nat.lt_or_ge q (zs.length - 1) with h | h
      · exact shr_of_zero q (by rw [mk_len]; exact h)
      · rw [List.getD_eq_getElem?_getD, List.getElem?_eq_none (by rw [shr_len, mk_len]; exact h)]; rfl
    · rfl
  rw [h1, ofMore_no (by omega)]
end
end Go.Proofs.Ytlijbopcllanfaa
