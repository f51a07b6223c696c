/- Plain laws on flexible sizes: the sum; who does not move; filled spaces; more space. -/
import Derived.Test.YtpemgcpnabaojaaPG
namespace Go.Proofs.Ytpemgcpnabaojaa

section
variable {zs : List Int} {n : Nat} (h : okS zs n)
include h
/- The sums of all ways that may be gone. -/
def CG (zs : List Int) (n : Nat) : Int := sm (fun i => if grF zs i = 0 then 0 else capG zs i) n
def CS (zs : List Int) (n : Nat) : Int := sm (fun i => if skF zs i = 0 then 0 else capS zs i) n
theorem CG_nn : 0 ≤ CG zs n := sm_nonneg n fun i hi => by have := capG_nn h i hi; split <;> omega
theorem CS_nn : 0 ≤ CS zs n := sm_nonneg n fun i hi => by have := capS_nn h i hi; split <;> omega
theorem fl_sum (sp : Int) : sm (flI zs n sp) n = if flT zs n ≤ sp then flT zs n + min (sp - flT zs n) (CG zs n) else flT zs n - min (flT zs n - sp) (CS zs n) := by
  split
  · rename_i hle
    rw [sm_congr (g := fun i => bsF zs i + dst n (capG zs) (grF zs) (sp - flT zs n) (n + 1) i) n (fun i _ => by unfold flI; rw [if_pos hle]; rfl), sm_add, sm_end (grF_bd h) (by omega) (capG_nn h) (by omega)]
    rfl
  · rename_i hle
    have e := sm_add (fun i => flI zs n sp i) (fun i => dst n (capS zs) (skF zs) (flT zs n - sp) (n + 1) i) n
    rw [sm_congr (f := fun i => flI zs n sp i + dst n (capS zs) (skF zs) (flT zs n - sp) (n + 1) i) (g := bsF zs) n (fun i _ => by unfold flI; rw [if_neg hle]; unfold skI; omega)] at e
    have e2 := sm_end (skF_bd h) (by omega) (capS_nn h) (show 0 ≤ flT zs n - sp by omega)
    have e3 : sm (bsF zs) n = flT zs n := rfl
    have e4 : sm (dst n (capS zs) (skF zs) (flT zs n - sp) (n + 1)) n = sm (fun i => dst n (capS zs) (skF zs) (flT zs n - sp) (n + 1) i) n := rfl
    have e5 : sm (fun i => if skF zs i = 0 then 0 else capS zs i) n = CS zs n := rfl
    have e6 : sm (fun i => flI zs n sp i) n = sm (flI zs n sp) n := rfl
    rw [e4, e5] at e2
    omega
theorem fl_more (sp : Int) : sm (flI zs n sp) n ≤ sm (flI zs n (sp + 1)) n := by
  rw [fl_sum h, fl_sum h]
  have h1 := CG_nn h
  have h2 := CS_nn h
  split <;> split <;> omega
theorem fl_up {sp : Int} (hle : flT zs n ≤ sp) {i : Nat} (hi : i < n) : bsF zs i ≤ flI zs n sp i := by
  unfold flI; rw [if_pos hle]
  exact (gwI_bd h (by omega) (n + 1) hi).1
theorem fl_down {sp : Int} (hle : ¬ flT zs n ≤ sp) {i : Nat} (hi : i < n) : flI zs n sp i ≤ bsF zs i := by
  unfold flI; rw [if_neg hle]
  exact (skI_bd h (by omega) (n + 1) hi).2
theorem fl_nogrow {sp : Int} {i : Nat} (hi : i < n) (hg : grF zs i = 0) : flI zs n sp i ≤ bsF zs i := by
  by_cases hle : flT zs n ≤ sp
  · unfold flI gwI
    rw [if_pos hle, dst_none (grF_bd h) (by omega) (capG_nn h) (n + 1) i hi hg]; omega
  · exact fl_down h hle hi
theorem fl_noshrink {sp : Int} {i : Nat} (hi : i < n) (hg : skF zs i = 0) : bsF zs i ≤ flI zs n sp i := by
  by_cases hle : flT zs n ≤ sp
  · exact fl_up h hle hi
  · unfold flI skI
    rw [if_neg hle, dst_none (skF_bd h) (by omega) (capS_nn h) (n + 1) i hi hg]; omega
/- What is left is left because nobody may take it. -/
theorem fl_fill_up {sp : Int} (hs : sm (flI zs n sp) n < sp) {i : Nat} (hi : i < n) (hg : 0 < grF zs i) : mxF zs i ≤ flI zs n sp i := by
  have h1 := CS_nn h
  by_cases hle : flT zs n ≤ sp
  · have hw := stp_why (grF_bd h) (by omega) (stp_end (grF_bd h) (by omega) (capG_nn h) (show 0 ≤ sp - flT zs n by omega))
    have e : sm (flI zs n sp) n = flT zs n + sm (dst n (capG zs) (grF zs) (sp - flT zs n) (n + 1)) n := by
      rw [sm_congr (g := fun i => bsF zs i + dst n (capG zs) (grF zs) (sp - flT zs n) (n + 1) i) n (fun i _ => by unfold flI; rw [if_pos hle]; rfl), sm_add]; rfl
    rcases hw with hw | hw
    · unfold lfI at hw; omega
    · have h2 : ¬ dst n (capG zs) (grF zs) (sp - flT zs n) (n + 1) i < capG zs i := fun hlt => by have := hw i hi hlt; omega
      unfold flI gwI; rw [if_pos hle]; unfold capG at h2 ⊢; omega
  · rw [fl_sum h, if_neg hle] at hs; omega
theorem fl_fill_down {sp : Int} (hs : sp < sm (flI zs n sp) n) {i : Nat} (hi : i < n) (hg : 0 < skF zs i) : flI zs n sp i ≤ mnF zs i := by
  have h1 := CG_nn h
  by_cases hle : flT zs n ≤ sp
  · rw [fl_sum h, if_pos hle] at hs; omega
  · have hw := stp_why (skF_bd h) (by omega) (stp_end (skF_bd h) (by omega) (capS_nn h) (show 0 ≤ flT zs n - sp by omega))
    have e := fl_sum h sp
    rw [if_neg hle] at e
    rcases hw with hw | hw
    · have e2 := sm_end (skF_bd h) (by omega) (capS_nn h) (show 0 ≤ flT zs n - sp by omega)
      have e5 : sm (fun i => if skF zs i = 0 then 0 else capS zs i) n = CS zs n := rfl
      rw [e5] at e2
      unfold lfI at hw; omega
    · have h2 : ¬ dst n (capS zs) (skF zs) (flT zs n - sp) (n + 1) i < capS zs i := fun hlt => by have := hw i hi hlt; omega
      unfold flI skI; rw [if_neg hle]; unfold capS at h2 ⊢; omega
/- Enough is enough. -/
theorem fl_base {i : Nat} (hi : i < n) : flI zs n (flT zs n) i = bsF zs i := by
  unfold flI gwI
  rw [if_pos (Int.le_refl _), Int.sub_self]
  have h1 := dst_inv (grF_bd h) (by omega) (capG_nn h) (Int.le_refl 0) (n + 1)
  have h2 := h1.2
  unfold lfI at h2
  have h3 := sm_nonneg n fun i hi => (h1.1 i hi).1
  have h4 := sm_zero n (fun i hi => (h1.1 i hi).1) (by omega) i hi
  omega
end
end Go.Proofs.Ytpemgcpnabaojaa
