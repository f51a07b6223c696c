/- Plain laws: stiff sizes; a size that takes all; one size. -/
import Derived.Test.YtpemgcpnabaojaaPH
namespace Go.Proofs.Ytpemgcpnabaojaa

/- The sizes without weights. -/
def stG (zs : List Int) (q : Nat) : Int := if q % 5 = 0 then bsF zs (q / 5) else if q % 5 = 1 then mnF zs (q / 5) else if q % 5 = 2 then mxF zs (q / 5) else 0
def stL (zs : List Int) (n : Nat) : List Int := mk (5 * n) (stG zs)
theorem stG_at (zs : List Int) (k : Nat) : stG zs (5 * k) = bsF zs k ∧ stG zs (5 * k + 1) = mnF zs k ∧ stG zs (5 * k + 2) = mxF zs k ∧ stG zs (5 * k + 3) = 0 ∧ stG zs (5 * k + 4) = 0 := by
  refine ⟨?_, ?_, ?_, ?_, ?_⟩
  · unfold stG; rw [if_pos (by omega), show 5 * k / 5 = k by omega]
  · unfold stG; rw [if_neg (by omega), if_pos (by omega), show (5 * k + 1) / 5 = k by omega]
  · unfold stG; rw [if_neg (by omega), if_neg (by omega), if_pos (by omega), show (5 * k + 2) / 5 = k by omega]
  · unfold stG; rw [if_neg (by omega), if_neg (by omega), if_neg (by omega)]
  · unfold stG; rw [if_neg (by omega), if_neg (by omega), if_neg (by omega)]
theorem stL_succ (zs : List Int) (k : Nat) : stL zs (k + 1) = stL zs k ++ [bsF zs k, mnF zs k, mxF zs k, 0, 0] := by
  unfold stL
  rw [show 5 * (k + 1) = 5 * k + 1 + 1 + 1 + 1 + 1 by omega, mk_succ, mk_succ, mk_succ, mk_succ, mk_succ]
  obtain ⟨h0, h1, h2, h3, h4⟩ := stG_at zs k
  rw [h0, show 5 * k + 1 + 1 = 5 * k + 2 by omega, show 5 * k + 2 + 1 = 5 * k + 3 by omega, show 5 * k + 3 + 1 = 5 * k + 4 by omega, h1, h2, h3, h4]
  simp
theorem stL_at {zs : List Int} {n k : Nat} (hk : k < n) : bsF (stL zs n) k = bsF zs k ∧ mnF (stL zs n) k = mnF zs k ∧ mxF (stL zs n) k = mxF zs k ∧ grF (stL zs n) k = 0 ∧ skF (stL zs n) k = 0 := by
  obtain ⟨h0, h1, h2, h3, h4⟩ := stG_at zs k
  unfold bsF mnF mxF grF skF at *
  unfold stL
  exact ⟨by rw [mk_getD _ _ _ (by omega), h0], by rw [mk_getD _ _ _ (by omega), h1], by rw [mk_getD _ _ _ (by omega), h2], by rw [mk_getD _ _ _ (by omega), h3], by rw [mk_getD _ _ _ (by omega), h4]⟩
theorem okS_of {zs : List Int} {n : Nat} (h : ∀ i, i < n → 0 ≤ mnF zs i ∧ mnF zs i ≤ bsF zs i ∧ bsF zs i ≤ mxF zs i ∧ mxF zs i ≤ 10000 ∧ (0 ≤ grF zs i ∧ grF zs i ≤ 10) ∧ 0 ≤ skF zs i ∧ skF zs i ≤ 10) : okS zs n := fun i hi => fxB_iff.2 (h i hi)
theorem stL_ok {zs : List Int} {n : Nat} (h : okS zs n) : okS (stL zs n) n := okS_of fun i hi => by
  obtain ⟨h0, h1, h2, h3, h4⟩ := stL_at (zs := zs) hi
  have := h.at_ hi
  omega
theorem st_same {zs : List Int} {n : Nat} (h : okS zs n) (sp : Int) : flL (stL zs n) n sp = mk n (bsF zs) := by
  unfold flL
  refine mk_congr _ _ _ fun i hi => ?_
  obtain ⟨h0, h1, h2, h3, h4⟩ := stL_at (zs := zs) hi
  have a := fl_nogrow (stL_ok h) (sp := sp) hi h3
  have b := fl_noshrink (stL_ok h) (sp := sp) hi h4
  omega
/- One more size, which takes all. -/
theorem more_at {zs ys : List Int} {n k : Nat} (hl : zs.length = 5 * n) (hk : k < n) : bsF (zs ++ ys) k = bsF zs k ∧ mnF (zs ++ ys) k = mnF zs k ∧ mxF (zs ++ ys) k = mxF zs k ∧ grF (zs ++ ys) k = grF zs k ∧ skF (zs ++ ys) k = skF zs k := by
  have e : ∀ q, q < 5 * n → (zs ++ ys).getD q 0 = zs.getD q 0 := fun q hq => by
    rw [List.getD_eq_getElem?_getD, List.getElem?_append_left (by omega), ← List.getD_eq_getElem?_getD]
  exact ⟨e _ (by omega), e _ (by omega), e _ (by omega), e _ (by omega), e _ (by omega)⟩
theorem more_last {zs : List Int} {n : Nat} {a b c d e : Int} (hl : zs.length = 5 * n) : bsF (zs ++ [a, b, c, d, e]) n = a ∧ mnF (zs ++ [a, b, c, d, e]) n = b ∧ mxF (zs ++ [a, b, c, d, e]) n = c ∧ grF (zs ++ [a, b, c, d, e]) n = d ∧ skF (zs ++ [a, b, c, d, e]) n = e := by
  have h : ∀ q, (zs ++ [a, b, c, d, e]).getD (5 * n + q) 0 = [a, b, c, d, e].getD q 0 := fun q => by
    rw [List.getD_eq_getElem?_getD, List.getElem?_append_right (by omega), ← List.getD_eq_getElem?_getD, show 5 * n + q - zs.length = q by omega]
  exact ⟨h 0, h 1, h 2, h 3, h 4⟩
theorem more_ok {zs : List Int} {n : Nat} (hl : zs.length = 5 * n) (h : okS zs n) : okS (zs ++ [0, 0, 10000, 1, 0]) (n + 1) := okS_of fun i hi => by
  rcases Nat.lt_or_ge i n with h1 | h1
  · obtain ⟨e0, e1, e2, e3, e4⟩ := more_at (ys := [0, 0, 10000, 1, 0]) hl h1
    have := h.at_ h1
    omega
  · obtain rfl : i = n := by omega
    obtain ⟨e0, e1, e2, e3, e4⟩ := more_last (a := 0) (b := 0) (c := 10000) (d := 1) (e := 0) hl
    omega
theorem more_takes {zs : List Int} {n : Nat} (hl : zs.length = 5 * n) (h : okS zs n) {sp : Int} (hs : sp ≤ 10000) : sp ≤ sm (flI (zs ++ [0, 0, 10000, 1, 0]) (n + 1) sp) (n + 1) := by
  rcases Int.lt_or_le (sm (flI (zs ++ [0, 0, 10000, 1, 0]) (n + 1) sp) (n + 1)) sp with h1 | h1
  · exfalso
    have hk := more_ok hl h
    obtain ⟨e0, e1, e2, e3, e4⟩ := more_last (a := 0) (b := 0) (c := 10000) (d := 1) (e := 0) hl
    have h2 := fl_fill_up hk h1 (show n < n + 1 by omega) (by omega)
    have h3 := sm_nonneg (f := flI (zs ++ [0, 0, 10000, 1, 0]) (n + 1) sp) n fun i hi => by
      have h4 := (flI_bd hk (sp := sp) (show i < n + 1 by omega)).1
      have h5 := hk.at_ (show i < n + 1 by omega)
      omega
    simp only [sm] at h1
    omega
  · exact h1
theorem one_size {a b c : Int} (h : okS [a, b, c, 1, 1] 1) (sp : Int) : flL [a, b, c, 1, 1] 1 sp = [max b (min c sp)] := by
  have e : flL [a, b, c, 1, 1] 1 sp = [flI [a, b, c, 1, 1] 1 sp 0] := rfl
  rw [e]
  congr 1
  have h1 := fl_sum h sp
  have h2 := h.at_ (show 0 < 1 by omega)
  have e0 : bsF [a, b, c, 1, 1] 0 = a := rfl
  have e1 : mnF [a, b, c, 1, 1] 0 = b := rfl
  have e2 : mxF [a, b, c, 1, 1] 0 = c := rfl
  have e3 : grF [a, b, c, 1, 1] 0 = 1 := rfl
  have e4 : skF [a, b, c, 1, 1] 0 = 1 := rfl
  rw [e0, e1, e2] at h2
  have t : flT [a, b, c, 1, 1] 1 = a := by unfold flT; simp only [sm]; rw [e0]; omega
  have g : CG [a, b, c, 1, 1] 1 = c - a := by unfold CG; simp only [sm]; rw [e3, if_neg (by omega)]; unfold capG; rw [e0, e2]; omega
  have s : CS [a, b, c, 1, 1] 1 = a - b := by unfold CS; simp only [sm]; rw [e4, if_neg (by omega)]; unfold capS; rw [e0, e1]; omega
  rw [t, g, s] at h1
  simp only [sm] at h1
  split at h1 <;> omega
end Go.Proofs.Ytpemgcpnabaojaa
