/- Plain laws: flexible sizes. -/
import Derived.Test.YtjaecgobgpfbdaaPX
import Derived.Test.YtjaecgobgpfbdaaFB
namespace Go.Proofs.Ytjaecgobgpfbdaa

def bsF (zs : List Int) (i : Nat) : Int := zs.getD (5 * i) 0
def mnF (zs : List Int) (i : Nat) : Int := zs.getD (5 * i + 1) 0
def mxF (zs : List Int) (i : Nat) : Int := zs.getD (5 * i + 2) 0
def grF (zs : List Int) (i : Nat) : Int := zs.getD (5 * i + 3) 0
def skF (zs : List Int) (i : Nat) : Int := zs.getD (5 * i + 4) 0
def capG (zs : List Int) (i : Nat) : Int := mxF zs i - bsF zs i
def capS (zs : List Int) (i : Nat) : Int := bsF zs i - mnF zs i
def flT (zs : List Int) (n : Nat) : Int := sm (bsF zs) n
def gwI (zs : List Int) (n : Nat) (L : Int) (k i : Nat) : Int := bsF zs i + dst n (capG zs) (grF zs) L k i
def skI (zs : List Int) (n : Nat) (L : Int) (k i : Nat) : Int := bsF zs i - dst n (capS zs) (skF zs) L k i
def flI (zs : List Int) (n : Nat) (sp : Int) (i : Nat) : Int := if flT zs n ≤ sp then gwI zs n (sp - flT zs n) (n + 1) i else skI zs n (flT zs n - sp) (n + 1) i
def flL (zs : List Int) (n : Nat) (sp : Int) : List Int := mk n (flI zs n sp)
/- Each size is valid. -/
def okS (zs : List Int) (n : Nat) : Prop := ∀ i, i < n → fx zs i = true
theorem okS.at_ {zs : List Int} {n : Nat} (h : okS zs n) {i : Nat} (hi : i < n) : 0 ≤ mnF zs i ∧ mnF zs i ≤ bsF zs i ∧ bsF zs i ≤ mxF zs i ∧ mxF zs i ≤ 10000 ∧ (0 ≤ grF zs i ∧ grF zs i ≤ 10) ∧ 0 ≤ skF zs i ∧ skF zs i ≤ 10 := fxB_iff.1 (h i hi)
section
variable {zs : List Int} {n : Nat} {L : Int} (h : okS zs n)
include h
theorem capG_nn : ∀ i, i < n → 0 ≤ capG zs i := fun i hi => by have := h.at_ hi; unfold capG; omega
theorem capS_nn : ∀ i, i < n → 0 ≤ capS zs i := fun i hi => by have := h.at_ hi; unfold capS; omega
theorem grF_bd : ∀ i, i < n → 0 ≤ grF zs i ∧ grF zs i ≤ 10 := fun _ hi => (h.at_ hi).2.2.2.2.1
theorem skF_bd : ∀ i, i < n → 0 ≤ skF zs i ∧ skF zs i ≤ 10 := fun _ hi => (h.at_ hi).2.2.2.2.2
theorem flT_bd : 0 ≤ flT zs n ∧ flT zs n ≤ 10000 * n := by
  constructor
  · exact sm_nonneg n fun i hi => by have := h.at_ hi; omega
  · unfold flT; rw [← sm_const]; exact sm_le n fun i hi => by have := h.at_ hi; omega
theorem gwI_bd (hL : 0 ≤ L) (k : Nat) {i : Nat} (hi : i < n) : bsF zs i ≤ gwI zs n L k i ∧ gwI zs n L k i ≤ mxF zs i := by
  have := (dst_inv (grF_bd h) (by omega) (capG_nn h) hL k).1 i hi
  unfold gwI; unfold capG at this ⊢; omega
theorem skI_bd (hL : 0 ≤ L) (k : Nat) {i : Nat} (hi : i < n) : mnF zs i ≤ skI zs n L k i ∧ skI zs n L k i ≤ bsF zs i := by
  have := (dst_inv (skF_bd h) (by omega) (capS_nn h) hL k).1 i hi
  unfold skI; unfold capS at this ⊢; omega
theorem flI_bd {sp : Int} {i : Nat} (hi : i < n) : mnF zs i ≤ flI zs n sp i ∧ flI zs n sp i ≤ mxF zs i := by
  have h1 := h.at_ hi
  unfold flI
  split
  · have := gwI_bd h (L := sp - flT zs n) (by omega) (n + 1) hi; omega
  · have := skI_bd h (L := flT zs n - sp) (by omega) (n + 1) hi; omega
omit h in
/- The shares of a round lie between 0 and what is left, and one more. -/
theorem shI_all {cap wt : Nat → Int} (hw : ∀ i, i < n → 0 ≤ wt i ∧ wt i ≤ 10) (hc : ∀ i, i < n → 0 ≤ cap i) (hL : 0 ≤ L) (hL1 : L ≤ 200000) (k : Nat) : AllB (shI n cap wt L k) 0 200001 := by
  have hb := wtL_all (cap := cap) hw (by omega) (dst n cap wt L k)
  have hl := lfI_bd hw (by omega) hc hL k
  unfold shI shr
  split
  · exact mk_AllB _ _ _ _ fun i _ => by omega
  · rename_i h
    exact mk_AllB _ _ _ _ fun i hi => by have := shT_le hl.1 hb (tot_pos hb h) (kW (lfI n cap wt L k) (wtL n cap wt (dst n cap wt L k))).toNat i hi; omega
end
end Go.Proofs.Ytjaecgobgpfbdaa
