/- FlexSizes and LeftOver, by the reference. -/
import Derived.Test.YtpemgcpnabaojaaFX
namespace Go.Proofs.Ytpemgcpnabaojaa
open Go.RowKit

def fsV (zs : List Int) (n : Nat) (sp : Int) : Bool := vF zs n && inB sp 0 200000
def fsL (zs : List Int) (n : Nat) (sp : Int) : List Int := if fsV zs n sp = true then flL zs n sp else []
def loV (zs : List Int) (n : Nat) (sp : Int) : Int := if fsV zs n sp = true then sp - sm (flI zs n sp) n else 0
theorem fsV_iff {zs : List Int} {n : Nat} {sp : Int} : fsV zs n sp = true ↔ (1 ≤ n ∧ n ≤ 8) ∧ okS zs n ∧ 0 ≤ sp ∧ sp ≤ 200000 := by
  unfold fsV; rw [Bool.and_eq_true, vF_iff, inB_iff]
  constructor
  · rintro ⟨⟨h1, h2⟩, h3⟩; exact ⟨h1, h2, h3⟩
  · rintro ⟨h1, h2, h3⟩; exact ⟨⟨h1, h2⟩, h3⟩
theorem fsL_len (zs : List Int) (n : Nat) (sp : Int) : (fsL zs n sp).length ≤ n := by unfold fsL; split <;> simp [flL, mk_len]
theorem flL_all {zs : List Int} {n : Nat} (h : okS zs n) (sp : Int) : AllB (flL zs n sp) 0 10000 := mk_AllB _ _ _ _ fun i hi => by
  have h1 := flI_bd h (sp := sp) hi
  have h2 := h.at_ hi
  omega
theorem bases_all {zs : List Int} {n : Nat} (h : okS zs n) : AllB (mk n (bsF zs)) (-1000000) 1000000 := mk_AllB _ _ _ _ fun i hi => by
  have h2 := h.at_ hi
  omega
set_option maxHeartbeats 2000000 in
theorem sflex_any (A : Option Addr) (n c : Nat) (zs : List Int) (sp : Int) (w : World) (h : Rd w w.heap.size A (5 * n) zs) (hn1 : 1 ≤ n) (hn : n ≤ 8) (hv : okS zs n) (s0 : 0 ≤ sp) (s1 : sp ≤ 200000) :
    Calls Try.prog 35 #[.slice A n c, .int .i64 sp] w (GotI w (flL zs n sp)) := by
  have H := Lib.hid h
  have HV := Lib.hid hv
  have hT := flT_bd hv
  clear h hv
  obtain ⟨T, hT'⟩ : ∃ T, Hid (flT zs n = T) := ⟨_, rfl⟩
  rw [hT'.out] at hT
  obtain ⟨T0, T1⟩ := hT
  go_enter Try.func35, Try.ntmps35
  go_wp2_with fail
  refine (bases_any A n c zs w H.out (by omega)).mono ?_
  rintro e w1 ⟨A1, n1, c1, rfl, hc1, hw1, hb1⟩
  obtain rfl : n = n1 := by have h5 := hw1.1; rw [mk_len] at h5; exact h5
  obtain ⟨bo, oo, rfl, hlb, hbw, _⟩ := hw1.2 (by omega)
  have HW := Lib.hid hw1
  have HB := Lib.hid hb1
  have HR := Lib.hid hw1.rd
  clear hw1 hb1
  go_wp2_with fail
  refine (ssum_any _ n c1 (mk n (bsF zs)) _ w1 HR.out (by omega) (bases_all HV.out)).mono ?_
  rintro e w' ⟨rfl, rfl⟩
  rw [tot_mk, show sm (bsF zs) n = T from hT'.out]
  by_cases hle : T ≤ sp
  · have HE : Hid (flL zs n sp = mk n (gwI zs n (sp - T) (n + 1))) := by
      show _ = _
      unfold flL
      exact mk_congr _ _ _ fun i _ => by unfold flI; rw [hT'.out, if_pos hle]
    go_wp2_with fail
    refine (ssum_any _ n c1 (mk n (bsF zs)) _ w1 HR.out (by omega) (bases_all HV.out)).mono ?_
    rintro e w' ⟨rfl, rfl⟩
    rw [tot_mk, show sm (bsF zs) n = T from hT'.out]
    go_wp2_with fail
    refine (grow_any A n c bo oo c1 zs (sp - T) w.heap.size w1 (H.out.below HB.out) HB.out.size hn1 hn HV.out (by omega) (by omega) HW.out).mono ?_
    rintro e w2 ⟨rfl, hm⟩
    have HM := Lib.hid hm
    clear hm
    go_wp2
    go_ret
    rw [HE.out]
    exact ⟨_, n, c1, rfl, hc1, HM.out.1, bl_gb HB.out HM.out.2 HB.out.size (fun r e => by injection e with e; omega)⟩
  · have HE : Hid (flL zs n sp = mk n (skI zs n (T - sp) (n + 1))) := by
      show _ = _
      unfold flL
      exact mk_congr _ _ _ fun i _ => by unfold flI; rw [hT'.out, if_neg hle]
    go_wp2_with fail
    refine (ssum_any _ n c1 (mk n (bsF zs)) _ w1 HR.out (by omega) (bases_all HV.out)).mono ?_
    rintro e w' ⟨rfl, rfl⟩
    rw [tot_mk, show sm (bsF zs) n = T from hT'.out]
    go_wp2_with fail
    refine (shrink_any A n c bo oo c1 zs (T - sp) w.heap.size w1 (H.out.below HB.out) HB.out.size hn1 hn HV.out (by omega) (by omega) HW.out).mono ?_
    rintro e w2 ⟨rfl, hm⟩
    have HM := Lib.hid hm
    clear hm
    go_wp2
    go_ret
    rw [HE.out]
    exact ⟨_, n, c1, rfl, hc1, HM.out.1, bl_gb HB.out HM.out.2 HB.out.size (fun r e => by injection e with e; omega)⟩
set_option maxHeartbeats 2000000 in
theorem sFlexSizes_any (A : Option Addr) (n c : Nat) (zs : List Int) (sp : Int) (w : World) (h : Rd w w.heap.size A (5 * n) zs) (hn : n ≤ 2000000) :
    Calls Try.prog 23 #[.slice A n c, .int .i64 sp] w (GotI w (fsL zs n sp)) := by
  have H := Lib.hid h
  clear h
  obtain ⟨V, hV⟩ : ∃ V, Hid (vF zs n = V) := ⟨_, rfl⟩
  go_enter Try.func23, Try.ntmps23
  go_wp2_with fail
  refine (svalidFlexes_any A n c zs w H.out hn).mono ?_
  rintro e w1 ⟨rfl, hb⟩
  rw [hV.out]
  have B1 := Lib.hid hb
  clear hb
  cases V
  · go_wp2
    go_ret
    have e : fsL zs n sp = [] := by unfold fsL; rw [if_neg (by simp [fsV, hV.out])]
    rw [e]
    exact GotI.nil w B1.out
  · cases h2 : inB sp 0 200000
    · go_wp2_with (go_at_call 33; ((with_reducible refine (inRange_any _ _ _ _).mono ?_); rintro e w' ⟨rfl, rfl⟩))
      go_ret
      have e : fsL zs n sp = [] := by unfold fsL; rw [if_neg (by simp [fsV, h2])]
      rw [e]
      exact GotI.nil w B1.out
    · have hfs : fsV zs n sp = true := by simp [fsV, hV.out, h2]
      obtain ⟨⟨m0, m1⟩, ho, s0, s1⟩ := fsV_iff.1 hfs
      have HO := Lib.hid ho
      clear ho
      go_wp2_with (first
        | (go_at_call 33; ((with_reducible refine (inRange_any _ _ _ _).mono ?_); rintro e w' ⟨rfl, rfl⟩))
        | (go_at_call 35; ((with_reducible refine (sflex_any A n c zs sp _ ((H.out.below B1.out).more B1.out.size) m0 m1 HO.out s0 s1).mono ?_); rintro e w2 ⟨A1, n1, c1, rfl, hc1, hw1, hb1⟩)))
      go_ret
      have e : fsL zs n sp = flL zs n sp := by unfold fsL; rw [if_pos hfs]
      rw [e]
      exact ⟨A1, n1, c1, rfl, hc1, hw1.low B1.out.size, B1.out.trans (hb1.mono B1.out.size)⟩
set_option maxHeartbeats 2000000 in
theorem sLeftOver_any (A : Option Addr) (n c : Nat) (zs : List Int) (sp : Int) (w : World) (h : Rd w w.heap.size A (5 * n) zs) (hn : n ≤ 2000000) :
    Calls Try.prog 15 #[.slice A n c, .int .i64 sp] w fun e w' => e = .returned (.int .i64 (loV zs n sp)) ∧ Below w.heap.size w w' := by
  have H := Lib.hid h
  clear h
  obtain ⟨V, hV⟩ : ∃ V, Hid (vF zs n = V) := ⟨_, rfl⟩
  go_enter Try.func15, Try.ntmps15
  go_wp2_with fail
  refine (svalidFlexes_any A n c zs w H.out hn).mono ?_
  rintro e w1 ⟨rfl, hb⟩
  rw [hV.out]
  have B1 := Lib.hid hb
  clear hb
  cases V
  · go_wp2
    go_ret
    exact ⟨ret_int (by unfold loV; rw [if_neg (by simp [fsV, hV.out])]), B1.out⟩
  · cases h2 : inB sp 0 200000
    · go_wp2_with (go_at_call 33; ((with_reducible refine (inRange_any _ _ _ _).mono ?_); rintro e w' ⟨rfl, rfl⟩))
      go_ret
      exact ⟨ret_int (by unfold loV; rw [if_neg (by simp [fsV, h2])]), B1.out⟩
    · have hfs : fsV zs n sp = true := by simp [fsV, hV.out, h2]
      obtain ⟨⟨m0, m1⟩, ho, s0, s1⟩ := fsV_iff.1 hfs
      have HO := Lib.hid ho
      clear ho
      have hsum := tot_ge (flL zs n sp) 0 10000 (flL_all HO.out sp) n (by unfold flL; rw [mk_len]; omega)
      obtain ⟨S, hS⟩ : ∃ S, Hid (tot (flL zs n sp) n = S) := ⟨_, rfl⟩
      rw [hS.out] at hsum
      obtain ⟨S0, S1⟩ := hsum
      go_wp2_with (first
        | (go_at_call 33; ((with_reducible refine (inRange_any _ _ _ _).mono ?_); rintro e w' ⟨rfl, rfl⟩))
        | (go_at_call 35; ((with_reducible refine (sflex_any A n c zs sp _ ((H.out.below B1.out).more B1.out.size) m0 m1 HO.out s0 s1).mono ?_); rintro e w2 ⟨A1, n1, c1, rfl, hc1, hw1, hb1⟩; obtain rfl : n = n1 := (by have h5 := hw1.1; unfold flL at h5; rw [mk_len] at h5; exact h5); have HW1 := Lib.hid hw1; have HB1 := Lib.hid hb1; clear hw1 hb1))
        | (go_at_call 34; ((with_reducible refine (ssum_any A1 n c1 (flL zs n sp) _ _ HW1.out.rd (by omega) ((flL_all HO.out sp).mono (by omega) (by omega))).mono ?_); rintro e w' ⟨rfl, rfl⟩; rw [hS.out])))
      go_ret
      exact ⟨ret_int (by unfold loV; rw [if_pos hfs, ← hS.out]; unfold flL; rw [tot_mk]), B1.out.trans (HB1.out.mono B1.out.size)⟩
end Go.Proofs.Ytpemgcpnabaojaa
