/- FlexSizes and LeftOver, by the program. -/
import Derived.Test.YtpemgcpnabaojaaFY
import Derived.Test.YtpemgcpnabaojaaFZ
namespace Go.Proofs.Ytpemgcpnabaojaa
open Go.RowKit

set_option maxHeartbeats 400000 in
theorem sizeOkF_any (n : Int) (w : World) : Calls Try.prog 29 #[.int .i64 n] w fun e w' => e = .returned (.bool (inB n 0 200000)) ∧ w = w' := by
  go_enter Try.func29, Try.ntmps29
  go_wp2_with (go_at_call 36; refine (within_any _ _ _ _).mono ?_; rintro e w' ⟨rfl, rfl⟩)
  go_ret
  exact ⟨rfl, rfl⟩
set_option maxHeartbeats 2000000 in
theorem iFlexSizes_any (A : Option Addr) (n c : Nat) (zs : List Int) (sp : Int) (w : World) (h : Rd w w.heap.size A (5 * n) zs) (hn : n ≤ 2000000) :
    Calls Try.prog 21 #[.slice A n c, .int .i64 sp] w (GotI w (fsL zs n sp)) := by
  have H := Lib.hid h
  clear h
  obtain ⟨V, hV⟩ : ∃ V, Hid (vF zs n = V) := ⟨_, rfl⟩
  go_enter Try.func21, Try.ntmps21
  go_wp2_with fail
  refine (iValidFlexes_any A n c zs w H.out hn).mono ?_
  rintro e w1 ⟨rfl, hb⟩
  rw [hV.out]
  have B1 := Lib.hid hb
  clear hb
  cases V
  · go_wp2
    go_ret
    have e : fsL zs n sp = [] := by unfold fsL; rw [if_neg (by simp [fsV, hV.out])]
    rw [e]
    exact GotI.nil w B1.out
  · cases h2 : inB sp 0 200000
    · go_wp2_with (go_at_call 29; ((with_reducible refine (sizeOkF_any _ _).mono ?_); rintro e w' ⟨rfl, rfl⟩))
      go_ret
      have e : fsL zs n sp = [] := by unfold fsL; rw [if_neg (by simp [fsV, h2])]
      rw [e]
      exact GotI.nil w B1.out
    · have hfs : fsV zs n sp = true := by simp [fsV, hV.out, h2]
      obtain ⟨⟨m0, m1⟩, ho, s0, s1⟩ := fsV_iff.1 hfs
      have HO := Lib.hid ho
      clear ho
      go_wp2_with (first
        | (go_at_call 29; ((with_reducible refine (sizeOkF_any _ _).mono ?_); rintro e w' ⟨rfl, rfl⟩))
        | (go_at_call 31; ((with_reducible refine (flexed_any A n c zs sp _ ((H.out.below B1.out).more B1.out.size) m0 m1 HO.out s0 s1).mono ?_); rintro e w2 ⟨A1, n1, c1, rfl, hc1, hw1, hb1⟩)))
      go_ret
      have e : fsL zs n sp = flL zs n sp := by unfold fsL; rw [if_pos hfs]
      rw [e]
      exact ⟨A1, n1, c1, rfl, hc1, hw1.low B1.out.size, B1.out.trans (hb1.mono B1.out.size)⟩
set_option maxHeartbeats 2000000 in
theorem iLeftOver_any (A : Option Addr) (n c : Nat) (zs : List Int) (sp : Int) (w : World) (h : Rd w w.heap.size A (5 * n) zs) (hn : n ≤ 2000000) :
    Calls Try.prog 14 #[.slice A n c, .int .i64 sp] w fun e w' => e = .returned (.int .i64 (loV zs n sp)) ∧ Below w.heap.size w w' := by
  have H := Lib.hid h
  clear h
  obtain ⟨V, hV⟩ : ∃ V, Hid (vF zs n = V) := ⟨_, rfl⟩
  go_enter Try.func14, Try.ntmps14
  go_wp2_with fail
  refine (iValidFlexes_any A n c zs w H.out hn).mono ?_
  rintro e w1 ⟨rfl, hb⟩
  rw [hV.out]
  have B1 := Lib.hid hb
  clear hb
  cases V
  · go_wp2
    go_ret
    exact ⟨ret_int (by unfold loV; rw [if_neg (by simp [fsV, hV.out])]), B1.out⟩
  · cases h2 : inB sp 0 200000
    · go_wp2_with (go_at_call 29; ((with_reducible refine (sizeOkF_any _ _).mono ?_); rintro e w' ⟨rfl, rfl⟩))
      go_ret
      exact ⟨ret_int (by unfold loV; rw [if_neg (by simp [fsV, h2])]), B1.out⟩
    · have hfs : fsV zs n sp = true := by simp [fsV, hV.out, h2]
      obtain ⟨⟨m0, m1⟩, ho, s0, s1⟩ := fsV_iff.1 hfs
      have HO := Lib.hid ho
      clear ho
      have hsum := tot_ge (flL zs n sp) 0 10000 (flL_all HO.out sp) n (by unfold flL; rw [mk_len]; omega)
      obtain ⟨S, hS⟩ : ∃ S, Hid (tot (flL zs n sp) n = S) := ⟨_, rfl⟩
      rw [hS.out] at hsum
      obtain ⟨S0, S1⟩ := hsum
      go_wp2_with (first
        | (go_at_call 29; ((with_reducible refine (sizeOkF_any _ _).mono ?_); rintro e w' ⟨rfl, rfl⟩))
        | (go_at_call 31; ((with_reducible refine (flexed_any A n c zs sp _ ((H.out.below B1.out).more B1.out.size) m0 m1 HO.out s0 s1).mono ?_); rintro e w2 ⟨A1, n1, c1, rfl, hc1, hw1, hb1⟩; obtain rfl : n = n1 := (by have h5 := hw1.1; unfold flL at h5; rw [mk_len] at h5; exact h5); have HW1 := Lib.hid hw1; have HB1 := Lib.hid hb1; clear hw1 hb1))
        | (go_at_call 30; ((with_reducible refine (total_any A1 n c1 (flL zs n sp) _ _ HW1.out.rd (by omega) ((flL_all HO.out sp).mono (by omega) (by omega))).mono ?_); rintro e w' ⟨rfl, rfl⟩; rw [hS.out])))
      go_ret
      exact ⟨ret_int (by unfold loV; rw [if_pos hfs, ← hS.out]; unfold flL; rw [tot_mk]), B1.out.trans (HB1.out.mono B1.out.size)⟩
end Go.Proofs.Ytpemgcpnabaojaa
