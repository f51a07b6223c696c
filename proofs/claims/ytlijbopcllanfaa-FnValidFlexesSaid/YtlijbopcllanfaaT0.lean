/- The generator of lists of integers: copyInts, spoil. -/
import Derived.Test.YtlijbopcllanfaaS
namespace Go.Proofs.Ytlijbopcllanfaa
open Go.RowKit

theorem new_at {w : World} {o : Obj} {b : Nat} (h : w.heap.size = b) : (w.alloc o).heap[b]? = some o := h ▸ heap_alloc_new w o
def GotRw (w : World) (m : Nat) (zs : List Int) (e : Ending) (w' : World) : Prop := ∃ v, e = .returned v ∧ Rw w.heap.size v m zs w' ∧ Below w.heap.size w w'
set_option maxHeartbeats 1000000 in
theorem copyInts_any (A : Option Addr) (m c : Nat) (zs : List Int) (w : World) (h : Rd w w.heap.size A m zs) (hA : A = none → c = 0) (hm : m ≤ 1000000) :
    Calls Try.prog 67 #[.slice A m c] w (GotRw w m zs) := by
  have H := Lib.hid h
  have HA := Lib.hid hA
  clear h hA
  go_enter Try.func67, Try.ntmps67
  go_wp2_with (at_builtin; refine wpList_appAll _ rfl _ _ rfl w.heap.size _ _ _ rfl (Rw.empty w w.heap.size (Nat.le_refl _)) w.heap.size A m c zs rfl (H.out.alloc (Nat.le_refl _) _) HA.out (by omega) ?_; intro v' w1 how hg; have HO := Lib.hid how; have HG := Lib.hid hg; clear how hg)
  go_ret
  exact ⟨v', rfl, by simpa using HO.out, bl_gb ((Below.refl _ _).alloc (Nat.le_refl _) _) HG.out (by simp) (fun r e => by have e2 : some w.heap.size = some r := e; injection e2 with e2; omega)⟩
/- A list of integers within bounds comes back, beside S. -/
def SomeInts (lo hi : Int) (N B : Nat) (S : World → Prop) (e : Ending) (w' : World) : Prop :=
  ∃ (A : Option Addr) (m c : Nat) (zs : List Int), e = .returned (.slice A m c) ∧ m ≤ N ∧ m ≤ c ∧ c ≤ maxLen ∧ (A = none → c = 0) ∧ AllB zs lo hi ∧ Wr w' B A m zs ∧ S w'
theorem AllB.snoc {zs : List Int} {lo hi x : Int} (h : AllB zs lo hi) (h1 : lo ≤ x) (h2 : x ≤ hi) : AllB (zs ++ [x]) lo hi := fun z hz => by
  rcases List.mem_append.1 hz with h3 | h3
  · exact h z h3
  · simp at h3; subst h3; exact ⟨h1, h2⟩
theorem AllB.set {zs : List Int} {lo hi x : Int} (h : AllB zs lo hi) (h1 : lo ≤ x) (h2 : x ≤ hi) (k : Nat) : AllB (zs.set k x) lo hi := fun z hz => by
  rcases List.mem_or_eq_of_mem_set hz with h3 | h3
  · exact h z h3
  · subst h3; exact ⟨h1, h2⟩
set_option maxHeartbeats 4000000 in
theorem spoil_any (g : Nat) (A : Option Addr) (n c K : Nat) (A1 : Option Addr) (m c1 : Nat) (zs : List Int) (x lo hi : Int) (w : World) (hr : Rdr w g A n c K) (hK : K ≤ 1000) (h1 : Rd w w.heap.size A1 m zs) (hA1 : A1 = none → c1 = 0) (hm : m ≤ 1000) (hb : AllB zs lo hi) (hlo : lo ≤ -1) (hhi : 1 ≤ hi) (hx1 : lo ≤ x) (hx2 : x ≤ hi) :
    Calls Try.prog 50 #[.pointer (some ⟨g, 0, none⟩), .slice A1 m c1, .int .i64 x] w (SomeInts lo hi (m + 1) w.heap.size (AfterPick w g A n c (K + 3))) := by
  have G0 := Lib.hid (Gs.start hr)
  have hg := hr.lt
  have H1 := Lib.hid h1
  have HA1 := Lib.hid hA1
  have HB := Lib.hid hb
  clear hr h1 hA1 hb
  go_enter Try.func50, Try.ntmps50
  go_wp2_with fail
  refine (copyInts_any A1 m c1 zs w H1.out HA1.out (by omega)).mono ?_
  rintro e w1 ⟨v, rfl, hw, hb1⟩
  have R1 := Lib.hid hw
  have G1 := Lib.hid (G0.out.below hb1)
  clear hw hb1
  go_wp2_with fail
  refine (pick_any g A n c K 20 w1 G1.out.rd (by omega) (by omega) (by omega)).mono ?_
  rintro e w2 ⟨q, rfl, q0, q1, hp⟩
  have R2 := Lib.hid (R1.out.pick hp hg)
  have G2 := Lib.hid (G1.out.pick hp)
  clear hp
  obtain ⟨A2, c2, rfl, hc2, hm2, hA2, hW2⟩ := R2.out.outN
  have HA2 := Lib.hid hA2
  have HW2 := Lib.hid hW2
  have HM2 := Lib.hid hm2
  unfold maxLen at hm2
  clear hA2 hW2
  by_cases e0 : q = 0
  · subst e0
    go_wp2_with (at_builtin; refine wpList_app2 _ rfl _ _ rfl w.heap.size _ _ _ rfl (R2.out.alloc _) (by omega) w2.heap.size x rfl (by simp [go_sem]) ?_; intro v' w3 how hg; have HO := Lib.hid how; have HG := Lib.hid hg; clear how hg)
    go_ret
    obtain ⟨A3, c3, rfl, hc3, hm3, hA3, hW3⟩ := HO.out.outN
    exact ⟨A3, m + 1, c3, _, rfl, Nat.le_refl _, hc3, hm3, hA3, HB.out.snoc hx1 hx2, hW3, ((G2.out.alloc _).grown HG.out (fun r e => R2.out.row r e)).after.1.mono (by omega), ((G2.out.alloc _).grown HG.out (fun r e => R2.out.row r e)).gb⟩
  · have f0 : (q == 0) = false := beq_eq_false_iff_ne.2 e0
    by_cases e1 : q = 1
    · subst e1
      by_cases hm0 : m = 0
      · subst hm0
        go_wp2
        go_ret
        exact ⟨A2, 0, c2, zs, rfl, by omega, hc2, HM2.out, HA2.out, HB.out, HW2.out, G2.out.after.1.mono (by omega), G2.out.gb⟩
      · have hm1 : 0 < m := by omega
        have hcc : (1 : Int) ≤ (c2 : Int) := by omega
        obtain ⟨b, off, rfl, _⟩ := HW2.out.2 hm1
        have hcut := Lib.hid (HW2.out.cut (k := 1) (cap := c2) (by omega) hc2)
        by_cases hc1 : c2 = 1
        · subst hc1
          obtain rfl : m = 1 := by omega
          go_wp2
          go_ret
          exact ⟨some ⟨b, off, none⟩, 0, 0, [], rfl, by omega, by omega, by simp [maxLen], (fun e => by cases e), (fun z hz => by cases hz), Wr.nil _ _ _, G2.out.after.1.mono (by omega), G2.out.gb⟩
        · have hc1' : ¬ (c2 = 1) := hc1
          go_wp2
          go_ret
          have h := hcut.out
          rw [if_neg hc1'] at h
          exact ⟨some ⟨b, off + 1, none⟩, m - 1, c2 - 1, zs.drop 1, rfl, by omega, by omega, by have := HM2.out; omega, (fun e => by cases e), HB.out.drop 1, h, G2.out.after.1.mono (by omega), G2.out.gb⟩
    · have f1 : (q == 1) = false := beq_eq_false_iff_ne.2 e1
      by_cases e2 : q = 2
      · subst e2
        by_cases hm0 : m = 0
        · subst hm0
          go_wp2
          go_ret
          exact ⟨A2, 0, c2, zs, rfl, by omega, hc2, HM2.out, HA2.out, HB.out, HW2.out, G2.out.after.1.mono (by omega), G2.out.gb⟩
        · have hm1 : 0 < m := by omega
          go_wp2_with fail
          refine (pick_any g A n c (K + 1) m w2 G2.out.rd (by omega) (by omega) (by omega)).mono ?_
          rintro e w3 ⟨i, rfl, i0, i1, hp⟩
          have R3 := Lib.hid (R2.out.pick hp hg)
          have G3 := Lib.hid (G2.out.pick hp)
          clear hp
          obtain ⟨k, rfl⟩ := Int.eq_ofNat_of_zero_le i0
          go_wp2_with fail
          refine (one_any g A n c (K + 1 + 1) _ 4 _ lo hi _ (G3.out.rd.alloc _) (by omega) (heap_alloc_new _ _) G3.out.ne rfl (by omega) (by omega) (by repeat (first | exact allIn_nil _ _ | refine allIn_cons (by omega) (by omega) ?_))).mono ?_
          rintro e w4 ⟨y, rfl, y0, y1, hp⟩
          have R4 := Lib.hid ((R3.out.alloc _).pick hp hg)
          have G4 := Lib.hid ((G3.out.alloc _).pick hp)
          clear hp
          have HW4 : Hid (Wr w4 w.heap.size A2 m zs) := by
            obtain ⟨A', c', e, _, _, _, hW⟩ := R4.out.outN
            injection e with e _ _
            subst e
            exact hW
          obtain ⟨b, off, rfl, hl, hbl, hc4⟩ := HW4.out.2 hm1
          obtain ⟨u, hu⟩ : ∃ u, Hid (zs.getD k 0 = u) := ⟨_, rfl⟩
          have hkm : k < m := by omega
          have hcell := (hc4 k hkm).1
          have hfz := (hc4 k hkm).2
          rw [hu.out] at hcell
          clear hc4
          go_wp2
          go_ret
          exact ⟨_, m, c2, zs.set k y, rfl, by omega, hc2, HM2.out, HA2.out, HB.out.set y0 y1 k, HW4.out.set hkm y, (G4.out.grown (gb_one _ _ _) (fun r e => by injection e with e; subst e; exact hl)).after.1.mono (by omega), (G4.out.grown (gb_one _ _ _) (fun r e => by injection e with e; subst e; exact hl)).gb⟩
      · have f2 : (q == 2) = false := beq_eq_false_iff_ne.2 e2
        go_wp2
        go_ret
        exact ⟨A2, m, c2, zs, rfl, by omega, hc2, HM2.out, HA2.out, HB.out, HW2.out, G2.out.after.1.mono (by omega), G2.out.gb⟩
end Go.Proofs.Ytlijbopcllanfaa
