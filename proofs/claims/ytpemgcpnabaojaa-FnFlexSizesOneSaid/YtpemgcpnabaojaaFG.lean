/- Drawn flexible sizes. -/
import Derived.Test.YtpemgcpnabaojaaFR
import Derived.Test.YtpemgcpnabaojaaU0
namespace Go.Proofs.Ytpemgcpnabaojaa
open Go.RowKit

def SomeFx (S : World → Prop) (e : Ending) (w' : World) : Prop := ∃ x0 x1 x2 x3 x4 : Int, e = .returned (.agg #[.int .i64 x0, .int .i64 x1, .int .i64 x2, .int .i64 x3, .int .i64 x4]) ∧ S w'
set_option maxHeartbeats 4000000 in
theorem someFlex_any (g : Nat) (A : Option Addr) (n c K : Nat) (w : World) (hr : Rdr w g A n c K) (hK : K ≤ 90000) :
    Calls Try.prog 54 #[.pointer (some ⟨g, 0, none⟩)] w (SomeFx (AfterPick w g A n c (K + 5))) := by
  have hg := hr.lt
  have G00 := Lib.hid (Gs.start hr)
  have G0 := Lib.hid (Gs.start (hr.alloc (.cells #[.int .i64 0, .int .i64 0, .int .i64 0, .int .i64 0, .int .i64 0] 29)))
  clear hr
  go_enter Try.func54, Try.ntmps54
  go_wp2_with fail
  refine (one_any g A n c (K) _ 5 _ 0 100 _ (G0.out.rd.alloc _) (by omega) (new_at (by simp)) (by have := G0.out.ne; simp at this ⊢; omega) rfl (by omega) (by omega) (by repeat (first | exact allIn_nil _ _ | refine allIn_cons (by omega) (by omega) ?_))).mono ?_
  rintro e w1 ⟨v0, rfl, a0, b0, hp⟩
  have G1 := Lib.hid ((G0.out.alloc _).pick hp)
  clear hp
  go_wp2_with fail
  refine (one_any g A n c (K + 1) _ 5 _ 0 300 _ (G1.out.rd.alloc _) (by omega) (new_at (by simp)) (by have := G1.out.ne; simp at this ⊢; omega) rfl (by omega) (by omega) (by repeat (first | exact allIn_nil _ _ | refine allIn_cons (by omega) (by omega) ?_))).mono ?_
  rintro e w2 ⟨v1, rfl, a1, b1, hp⟩
  have G2 := Lib.hid ((G1.out.alloc _).pick hp)
  clear hp
  go_wp2_with fail
  refine (one_any g A n c (K + 1 + 1) _ 5 _ 0 5000 _ (G2.out.rd.alloc _) (by omega) (new_at (by simp)) (by have := G2.out.ne; simp at this ⊢; omega) rfl (by omega) (by omega) (by repeat (first | exact allIn_nil _ _ | refine allIn_cons (by omega) (by omega) ?_))).mono ?_
  rintro e w3 ⟨v2, rfl, a2, b2, hp⟩
  have G3 := Lib.hid ((G2.out.alloc _).pick hp)
  clear hp
  go_wp2_with fail
  refine (one_any g A n c (K + 1 + 1 + 1) _ 5 _ 0 10 _ (G3.out.rd.alloc _) (by omega) (new_at (by simp)) (by have := G3.out.ne; simp at this ⊢; omega) rfl (by omega) (by omega) (by repeat (first | exact allIn_nil _ _ | refine allIn_cons (by omega) (by omega) ?_))).mono ?_
  rintro e w4 ⟨v3, rfl, a3, b3, hp⟩
  have G4 := Lib.hid ((G3.out.alloc _).pick hp)
  clear hp
  go_wp2_with fail
  refine (one_any g A n c (K + 1 + 1 + 1 + 1) _ 5 _ 0 10 _ (G4.out.rd.alloc _) (by omega) (new_at (by simp)) (by have := G4.out.ne; simp at this ⊢; omega) rfl (by omega) (by omega) (by repeat (first | exact allIn_nil _ _ | refine allIn_cons (by omega) (by omega) ?_))).mono ?_
  rintro e w5 ⟨v4, rfl, a4, b4, hp⟩
  have G5 := Lib.hid ((G4.out.alloc _).pick hp)
  clear hp
  have hne : ¬ w.heap.size = g := by omega
  have hgb := G5.out.gb
  have hblk : w5.heap[w.heap.size]? = some (.cells #[.int .i64 0, .int .i64 0, .int .i64 0, .int .i64 0, .int .i64 0] 29 (0, 0)) := by
    rw [hgb.block w.heap.size (by simp) (fun e => hne (by injection e))]; exact heap_alloc_new w _

  have c0 : w5.cell? ⟨w.heap.size, 0, none⟩ = some (.int .i64 0) := by rw [cell_of_row w5 w.heap.size 0 _ _ (0, 0) hblk]; rfl
  have f0 : w5.frozen? ⟨w.heap.size, 0, none⟩ = false := by simp [World.frozen?, hblk]
  have c1 : w5.cell? ⟨w.heap.size, 1, none⟩ = some (.int .i64 0) := by rw [cell_of_row w5 w.heap.size 1 _ _ (0, 0) hblk]; rfl
  have f1 : w5.frozen? ⟨w.heap.size, 1, none⟩ = false := by simp [World.frozen?, hblk]
  have c2 : w5.cell? ⟨w.heap.size, 2, none⟩ = some (.int .i64 0) := by rw [cell_of_row w5 w.heap.size 2 _ _ (0, 0) hblk]; rfl
  have f2 : w5.frozen? ⟨w.heap.size, 2, none⟩ = false := by simp [World.frozen?, hblk]
  have c3 : w5.cell? ⟨w.heap.size, 3, none⟩ = some (.int .i64 0) := by rw [cell_of_row w5 w.heap.size 3 _ _ (0, 0) hblk]; rfl
  have f3 : w5.frozen? ⟨w.heap.size, 3, none⟩ = false := by simp [World.frozen?, hblk]
  have c4 : w5.cell? ⟨w.heap.size, 4, none⟩ = some (.int .i64 0) := by rw [cell_of_row w5 w.heap.size 4 _ _ (0, 0) hblk]; rfl
  have f4 : w5.frozen? ⟨w.heap.size, 4, none⟩ = false := by simp [World.frozen?, hblk]
  clear hblk hgb
  have HG5 : Hid (w.grownBy w5 (some g)) := gb_trans (gb_alloc (World.grownBy.refl w _) _) G5.out.gb
  go_wp2
  refine bodyPost_ret (v := .agg #[.int .i64 (v0 + v1), .int .i64 v0, .int .i64 (v0 + v1 + v2), .int .i64 v3, .int .i64 v4]) (by simp [results, Try.results54, go_sem, c0, c1, c2, c3, c4]) rfl ⟨_, _, _, _, _, rfl, ?_, ?_⟩
  · exact (((((G5.out.rd.far hg (G00.out.2.2.2) (Nat.le_refl _) _).far hg (G00.out.2.2.2) (Nat.le_refl _) _).far hg (G00.out.2.2.2) (Nat.le_refl _) _).far hg (G00.out.2.2.2) (Nat.le_refl _) _).far hg (G00.out.2.2.2) (Nat.le_refl _) _)
  · exact gb_set (gb_set (gb_set (gb_set (gb_set HG5.out (.inr (Nat.le_refl _)) _) (.inr (Nat.le_refl _)) _) (.inr (Nat.le_refl _)) _) (.inr (Nat.le_refl _)) _) (.inr (Nat.le_refl _)) _
/- A drawn list of structs of K integers. -/
def LstK (K N B : Nat) (A : Option Addr) (m c : Nat) (zs : List Int) (w : World) : Prop := m ≤ N ∧ m ≤ c ∧ c ≤ maxLen ∧ (A = none → c = 0) ∧ Wr w B A (K * m) zs
def SomeRows (K N B : Nat) (S : World → Prop) (e : Ending) (w' : World) : Prop := ∃ (A : Option Addr) (m c : Nat) (zs : List Int), e = .returned (.slice A m c) ∧ LstK K N B A m c zs w' ∧ S w'
set_option maxHeartbeats 8000000 in
theorem anyFlexes_any (g : Nat) (A : Option Addr) (n c K : Nat) (w : World) (hr : Rdr w g A n c K) (hK : K ≤ 900) :
    Calls Try.prog 43 #[.pointer (some ⟨g, 0, none⟩)] w (SomeRows 5 9 w.heap.size (AfterPick w g A n c (K + 60))) := by
  have G0 := Lib.hid (Gs.start hr)
  have hg := hr.lt
  clear hr
  go_enter Try.func43, Try.ntmps43
  go_wp2_with fail
  have R0 := Lib.hid (Rk.empty w 5 29 w.heap.size (Nat.le_refl _))
  have G0' := Lib.hid (G0.out.alloc (.cells #[] 29))
  refine (one_any g A n c K _ 7 _ 0 9 _ (G0'.out.rd.alloc _) (by omega) (new_at (by simp)) (by omega) rfl (by omega) (by omega) (by repeat (first | exact allIn_nil _ _ | refine allIn_cons (by omega) (by omega) ?_))).mono ?_
  rintro e w1 ⟨q, rfl, q0, q1, hp⟩
  have R1 := Lib.hid ((R0.out.alloc _).pick hp hg)
  have G1 := Lib.hid ((G0'.out.alloc _).pick hp)
  clear hp R0 G0' G0
  obtain ⟨l, rfl⟩ := Int.eq_ofNat_of_zero_le q0
  go_wp2_with fail
  go_loopw [3, 4] (fun v i wr => ∃ (k r : Nat) (zs : List Int), k + r = l ∧ i = .int .i64 r ∧ Hid (Rk 5 29 w.heap.size v k zs wr ∧ Gs w g A n c (K + 1 + 5 * k) wr)) (fun _ i _ => (intOf i).toNat)
  case atStart => exact ⟨0, l, [], by omega, rfl, R1.out, G1.out⟩
  case round =>
    obtain ⟨k, r, zs, hkr, rfl, hS⟩ := hrel
    by_cases hr0 : 0 < r
    · go_wp2_with fail
      refine (someFlex_any g A n c (K + 1 + 5 * k) _ hS.out.2.rd (by omega)).mono ?_
      rintro e w2 ⟨x0, x1, x2, x3, x4, rfl, hp⟩
      have R2 := Lib.hid (hS.out.1.pick hp hg)
      have G2 := Lib.hid (hS.out.2.pick hp)
      clear hp
      go_wp2_with (at_builtin; refine wpList_appFlex _ rfl _ _ rfl w.heap.size _ _ _ rfl (R2.out.alloc _) (by omega) w2.heap.size x0 x1 x2 x3 x4 rfl (by simp [go_sem]) (by simp [go_sem]) (by simp [go_sem]) (by simp [go_sem]) (by simp [go_sem]) ?_; intro v' w3 how hg3; have HO := Lib.hid how; have HG := Lib.hid hg3; clear how hg3)
      go_roundw
      case rel => exact ⟨k + 1, r - 1, _, by omega, by go_num, HO.out, ((G2.out.alloc _).grown HG.out (fun r e => R2.out.row r e)).mono (by omega)⟩
      case measure => simp [intOf]; omega
    · obtain rfl : r = 0 := by omega
      obtain ⟨A2, c2, rfl, hc2, hm2, hA2, hW2⟩ := hS.out.1.out
      have HA2 := Lib.hid hA2
      have HM2 := Lib.hid hm2
      unfold maxLen at hm2
      have hmc : (k : Int) ≤ 9223372036854775807 := by omega
      clear hA2 hW2
      have hk9 : k ≤ 9 := by omega
      by_cases hk0 : k = 0
      · have hd0 : decide (0 < k) = false := by simp; omega
        have HW := Lib.hid hS.out.1
        go_wp2
        go_ret
        obtain ⟨A3, c3, e3, _, _, _, hW3⟩ := hS.out.1.out
        injection e3 with e3 e4 e5
        subst e3 e5
        exact ⟨A2, k, c2, zs, rfl, ⟨hk9, hc2, HM2.out, HA2.out, hW3⟩, hS.out.2.after.1.mono (by omega), hS.out.2.gb⟩
      · have hk1 : 0 < k := by omega
        have hd1 : decide (0 < k) = true := by simp; omega
        go_wp2_with fail
        refine (pick_any g A n c (K + 1 + 5 * k) 16 wr hS.out.2.rd (by omega) (by omega) (by omega)).mono ?_
        rintro e w2 ⟨p, rfl, p0, p1, hp⟩
        have R2 := Lib.hid (hS.out.1.pick hp hg)
        have G2 := Lib.hid (hS.out.2.pick hp)
        clear hp
        by_cases hp0 : p = 0
        · have hp0' : (p == 0) = true := by simp [hp0]
          clear hp0
          go_wp2_with fail
          refine (pick_any g A n c (K + 1 + 5 * k + 1) k w2 G2.out.rd (by omega) (by omega) (by omega)).mono ?_
          rintro e w3 ⟨i, rfl, i0, i1, hp⟩
          have R3 := Lib.hid (R2.out.pick hp hg)
          have G3 := Lib.hid (G2.out.pick hp)
          clear hp
          obtain ⟨d, rfl⟩ := Int.eq_ofNat_of_zero_le i0
          go_wp2_with fail
          refine (one_any g A n c (K + 1 + 5 * k + 1 + 1) _ 2 _ 0 10001 _ (G3.out.rd.alloc _) (by omega) (heap_alloc_new _ _) G3.out.ne rfl (by omega) (by omega) (by repeat (first | exact allIn_nil _ _ | refine allIn_cons (by omega) (by omega) ?_))).mono ?_
          rintro e w4 ⟨y0, rfl, _, _, hp⟩
          have R4 := Lib.hid ((R3.out.alloc _).pick hp hg)
          have G4 := Lib.hid ((G3.out.alloc _).pick hp)
          clear hp
          go_wp2_with fail
          refine (one_any g A n c (K + 1 + 5 * k + 1 + 1 + 1) _ 3 _ (-1) 10001 _ (G4.out.rd.alloc _) (by omega) (heap_alloc_new _ _) G4.out.ne rfl (by omega) (by omega) (by repeat (first | exact allIn_nil _ _ | refine allIn_cons (by omega) (by omega) ?_))).mono ?_
          rintro e w5 ⟨y1, rfl, _, _, hp⟩
          have R5 := Lib.hid ((R4.out.alloc _).pick hp hg)
          have G5 := Lib.hid ((G4.out.alloc _).pick hp)
          clear hp
          go_wp2_with fail
          refine (one_any g A n c (K + 1 + 5 * k + 1 + 1 + 1 + 1) _ 2 _ 0 10001 _ (G5.out.rd.alloc _) (by omega) (heap_alloc_new _ _) G5.out.ne rfl (by omega) (by omega) (by repeat (first | exact allIn_nil _ _ | refine allIn_cons (by omega) (by omega) ?_))).mono ?_
          rintro e w6 ⟨y3, rfl, _, _, hp⟩
          have R6 := Lib.hid ((R5.out.alloc _).pick hp hg)
          have G6 := Lib.hid ((G5.out.alloc _).pick hp)
          clear hp
          have HW6 : Hid (Wr w6 w.heap.size A2 (5 * k) zs) := by
            obtain ⟨A', c', e, _, _, _, hW⟩ := R6.out.out
            injection e with e _ _
            subst e
            exact hW
          obtain ⟨b, off, rfl, hl, hbl, _⟩ := HW6.out.2 (by omega)
          have hdk : d < k := by omega
          obtain ⟨_, _, ⟨c0, f0⟩, ⟨c1, f1⟩, ⟨c2', f2⟩, ⟨c3, f3⟩, ⟨c4, f4⟩⟩ := HW6.out.at_5 hdk
          obtain ⟨u0, h0⟩ : ∃ u, Hid (zs.getD (5 * d) 0 = u) := ⟨_, rfl⟩
          obtain ⟨u1, h1⟩ : ∃ u, Hid (zs.getD (5 * d + 1) 0 = u) := ⟨_, rfl⟩
          obtain ⟨u2, h2⟩ : ∃ u, Hid (zs.getD (5 * d + 2) 0 = u) := ⟨_, rfl⟩
          obtain ⟨u3, h3⟩ : ∃ u, Hid (zs.getD (5 * d + 3) 0 = u) := ⟨_, rfl⟩
          obtain ⟨u4, h4⟩ : ∃ u, Hid (zs.getD (5 * d + 4) 0 = u) := ⟨_, rfl⟩
          rw [h0.out] at c0
          rw [h1.out] at c1
          rw [h2.out] at c2'
          rw [h3.out] at c3
          rw [h4.out] at c4
          obtain ⟨ys, hys⟩ := HW6.out.put5 hdk y0 y1 10000 y3 0
          have HY := Lib.hid hys
          clear hys
          go_wp2
          go_ret
          have hgs := gb_set (gb_set (gb_set (gb_set (gb_set (World.grownBy.refl w6 (some b)) (.inl rfl) (.int .i64 y0) (p := ⟨b, off + d * 5, none⟩)) (.inl rfl) (.int .i64 y1) (p := ⟨b, off + d * 5 + 1, none⟩)) (.inl rfl) (.int .i64 10000) (p := ⟨b, off + d * 5 + 2, none⟩)) (.inl rfl) (.int .i64 y3) (p := ⟨b, off + d * 5 + 3, none⟩)) (.inl rfl) (.int .i64 0) (p := ⟨b, off + d * 5 + 4, none⟩)
          have hend := G6.out.grown hgs (fun r e => by injection e with e; omega)
          exact ⟨some ⟨b, off, none⟩, k, c2, ys, rfl, ⟨hk9, hc2, HM2.out, HA2.out, HY.out⟩, hend.after.1.mono (by omega), hend.gb⟩
        · have hp0' : (p == 0) = false := by simp [hp0]
          clear hp0
          go_wp2
          go_ret
          obtain ⟨A3, c3, e3, _, _, _, hW3⟩ := R2.out.out
          injection e3 with e3 e4 e5
          subst e3 e5
          exact ⟨A2, k, c2, zs, rfl, ⟨hk9, hc2, HM2.out, HA2.out, hW3⟩, G2.out.after.1.mono (by omega), G2.out.gb⟩
end Go.Proofs.Ytpemgcpnabaojaa
