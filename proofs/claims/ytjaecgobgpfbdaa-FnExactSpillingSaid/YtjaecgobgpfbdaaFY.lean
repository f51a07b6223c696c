/- FlexSizes and LeftOver, by the reference. -/
import Derived.Test.YtjaecgobgpfbdaaFX
namespace Go.Proofs.Ytjaecgobgpfbdaa
open Go.RowKit

def fsV (zs : List Int) (n : Nat) (sp : Int) : Bool := vF zs n && inB sp 0 200000
def fsL (zs : List Int) (n : Nat) (sp : Int) : List Int := if fsV zs n sp = true then flL zs n sp else []
def loV (zs : List Int) (n : Nat) (sp : Int) : Int := if fsV zs n sp = true then sp - sm (flI zs n sp) n else 0
theorem fsV_iff {zs : List Int} {n : Nat} {sp : Int} : fsV zs n sp = true ↔ (1 ≤ n ∧ n ≤ 8) ∧ okS zs n ∧ 0 ≤ sp ∧ sp ≤ 200000 := by
  unfold fsV; rw [Bool.and_eq_true, vF_iff, inB_iff]
  constructor
  · rintro ⟨⟨h1, h2⟩, h3⟩; exact ⟨h1, h2, h3⟩
  · rintro ⟨h1, h2, h3⟩; exact ⟨⟨h1, h2⟩, h3⟩
theorem fsL_len (zs : List Int) (n : Nat) (sp : Int) : (fsL zs n sp).length ≤ n := by unfold fsL; split <;> simp [flL, mk_len]
theorem flL_all {zs : List Int} {n : Nat} (h : okS zs n) (sp : Int) : AllB (flL zs n sp) 0 10000 := mk_AllB _ _ _ _ fun i hi => by
  have h1 := flI_bd h (sp := sp) hi
  have h2 := h.at_ hi
  omega
theorem bases_all {zs : List Int} {n : Nat} (h : okS zs n) : AllB (mk n (bsF zs)) (-1000000) 1000000 := mk_AllB _ _ _ _ fun i hi => by
  have h2 := h.at_ hi
  omega
set_option maxHeartbeats 2000000 in
theorem sflex_any (A : Option Addr) (n c : Nat) (zs : List Int) (sp : Int) (w : World) (h : Rd w w.heap.size A (5 * n) zs) (hn1 : 1 ≤ n) (hn : n ≤ 8) (hv : okS zs n) (s0 : 0 ≤ sp) (s1 : sp ≤ 200000) :
    Calls Try.prog 88 #[.slice A n c, .int .i64 sp] w (GotI w (flL zs n sp)) := by
  have H := Lib.hid h
  have HV := Lib.hid hv
  have hT := flT_bd hv
  clear h hv
  obtain ⟨T, hT'⟩ : ∃ T, Hid (flT zs n = T) := ⟨_, rfl⟩
  rw [hT'.out] at hT
  obtain ⟨T0, T1⟩ := hT
  go_enter Try.func88, Try.ntmps88
  go_wp2_with fail
  refine (bases_any A n c zs w H.out (by omega)).mono ?_
  rintro e w1 ⟨A1, n1, c1, rfl, hc1, hw1, hb1⟩
  obtain rfl : n = n1 := by have h5 := hw1.1; rw [mk_len] at h5; exact h5
  obtain ⟨bo, oo, rfl, hlb, hbw, _⟩ := hw1.2 (by omega)
  have HW := Lib.hid hw1
  have HB := Lib.hid hb1
  have HR := Lib.hid hw1.rd
  clear hw1 hb1
  go_wp2_with fail
  refine (ssum_any _ n c1 (mk n (bsF zs)) _ w1 HR.out (by omega) (bases_all HV.out)).mono ?_
  rintro e w' ⟨rfl, rfl⟩
  rw [tot_mk, show sm (bsF zs) n = T from hT'.out]
  by_cases hle : T ≤ sp
  · have HE : Hid (flL zs n sp = mk n (gwI zs n (sp - T) (n + 1))) := by
      show _ = _
      unfold flL
      exact mk_congr _ _ _ fun i _ => by unfold flI; rw [hT'.out, if_pos hle]
    go_wp2_with fail
    refine (ssum_any _ n c1 (mk n (bsF zs)) _ w1 HR.out (by omega) (bases_all HV.out)).mono ?_
    rintro e w' ⟨rfl, rfl⟩
    rw [tot_mk, show sm (bsF zs) n = T from hT'.out]
    go_wp2_with fail
    refine (grow_any A n c bo oo c1 zs (sp - T) w.heap.size w1 (H.out.below HB.out) HB.out.size hn1 hn HV.out (by omega) (by omega) HW.out).mono ?_
    rintro e w2 ⟨rfl, hm⟩
    have HM := Lib.hid hm
    clear hm
    go_wp2
    go_ret
    rw [HE.out]
    exact ⟨_, n, c1, rfl, hc1, HM.out.1, bl_gb HB.out HM.out.2 HB.out.size (fun r e => by injection e with e; omega)⟩
  · have HE : Hid (flL zs n sp = mk n (skI zs n (T - sp) (n + 1))) := by
      show _ = _
      unfold flL
      exact mk_congr _ _ _ fun i _ => by unfold flI; rw [hT'.out, if_neg hle]
    go_wp2_with fail
    refine (ssum_any _ n c1 (mk n (bsF zs)) _ w1 HR.out (by omega) (bases_all HV.out)).mono ?_
    rintro e w' ⟨rfl, rfl⟩
    rw [tot_mk, show sm (bsF zs) n = T from hT'.out]
    go_wp2_with fail
    refine (shrink_any A n c bo oo c1 zs (T - sp) w.heap.size w1 (H.out.below HB.out) HB.out.size hn1 hn HV.out (by omega) (by omega) HW.out).mono ?_
    rintro e w2 ⟨rfl, hm⟩
    have HM := Lib.hid hm
    clear hm
    go_wp2
    go_ret
    rw [HE.out]
    exact ⟨_, n, c1, rfl, hc1, HM.out.1, bl_gb HB.out HM.out.2 HB.out.size (fun r e => by injection e with e; omega)⟩
end Go.Proofs.Ytjaecgobgpfbdaa
