/- The drawn arguments of OffsetsOf. -/
import Derived.Test.YtlijbopcllanfaaU0
namespace Go.Proofs.Ytlijbopcllanfaa
open Go.RowKit

set_option maxHeartbeats 2000000 in
theorem someSpace_any (g : Nat) (A : Option Addr) (n c K : Nat) (w : World) (hr : Rdr w g A n c K) (hK : K ≤ 90000) :
    Calls Try.prog 55 #[.pointer (some ⟨g, 0, none⟩)] w (SomeInt (-1) 200001 (AfterPick w g A n c (K + 2))) := by
  have G0 := Lib.hid (Gs.start hr)
  clear hr
  go_enter Try.func55, Try.ntmps55
  go_wp2_with fail
  refine (pick_any g A n c K 250 w G0.out.rd (by omega) (by omega) (by omega)).mono ?_
  rintro e w1 ⟨q, rfl, q0, q1, hp⟩
  have G1 := Lib.hid (G0.out.pick hp)
  clear hp
  go_wp2_with fail
  refine (one_any g A n c (K + 1) _ 10 _ (-1) 200001 _ (G1.out.rd.alloc _) (by omega) (heap_alloc_new _ _) G1.out.ne rfl (by omega) (by omega) (by repeat (first | exact allIn_nil _ _ | refine allIn_cons (by omega) (by omega) ?_))).mono ?_
  rintro e w2 ⟨v, rfl, v0, v1, hp⟩
  have G2 := Lib.hid ((G1.out.alloc _).pick hp)
  clear hp
  go_wp2
  go_ret
  exact ⟨v, rfl, v0, v1, G2.out.after⟩
set_option maxHeartbeats 2000000 in
theorem someGap_any (g : Nat) (A : Option Addr) (n c K : Nat) (w : World) (hr : Rdr w g A n c K) (hK : K ≤ 90000) :
    Calls Try.prog 56 #[.pointer (some ⟨g, 0, none⟩)] w (SomeInt (-1) 51 (AfterPick w g A n c (K + 1))) := by
  have G0 := Lib.hid (Gs.start hr)
  clear hr
  go_enter Try.func56, Try.ntmps56
  go_wp2_with fail
  refine (one_any g A n c K _ 8 _ (-1) 51 _ (G0.out.rd.alloc _) (by omega) (heap_alloc_new _ _) G0.out.ne rfl (by omega) (by omega) (by repeat (first | exact allIn_nil _ _ | refine allIn_cons (by omega) (by omega) ?_))).mono ?_
  rintro e w2 ⟨v, rfl, v0, v1, hp⟩
  have G2 := Lib.hid ((G0.out.alloc _).pick hp)
  clear hp
  go_wp2
  go_ret
  exact ⟨v, rfl, v0, v1, G2.out.after⟩
def DrawO (w : World) (e : Ending) (w' : World) : Prop :=
  ∃ (A : Option Addr) (m c : Nat) (zs : List Int) (sp gap j : Int), e = .returned (.tuple #[.slice A m c, .int .i64 sp, .int .i64 gap, .int .i64 j]) ∧ (-1 ≤ sp ∧ sp ≤ 200001) ∧ (-1 ≤ gap ∧ gap ≤ 51) ∧ (-1 ≤ j ∧ j ≤ 4) ∧ Lst (-1) 10001 11 w.heap.size A m c zs w' ∧ Below w.heap.size w w'
set_option maxHeartbeats 8000000 in
theorem DrawOffsetsOf_any (A : Option Addr) (n c : Nat) (zs : List Int) (w : World) (h : IsRow .u8 w A n c zs) :
    Calls Try.prog 32 #[.slice A n c] w (DrawO w) := by
  have H := Lib.hid h
  clear h
  go_enter Try.func32, Try.ntmps32
  go_wp2_with fail
  refine (newReader_of A n c zs _ H.out).mono ?_
  rintro e w1 ⟨n', c', hn', rfl, rd1, hb1⟩
  have G1 := Lib.hid (Gs.start rd1)
  have B1 := Lib.hid hb1
  have hg1 := rd1.lt
  clear rd1 hb1
  go_wp2_with fail
  have R0 := Lib.hid (Rw.empty w1 w1.heap.size G1.out.size)
  have G3' := Lib.hid (G1.out.alloc (.cells #[] 3))
  refine (one_any w.heap.size A n' c' 0 _ 7 _ 0 9 _ (G3'.out.rd.alloc _) (by omega) (new_at (by simp)) (by have := G1.out.ne; have := G1.out.size; omega) rfl (by omega) (by omega) (by repeat (first | exact allIn_nil _ _ | refine allIn_cons (by omega) (by omega) ?_))).mono ?_
  rintro e w4 ⟨q', rfl, q0', q1', hp⟩
  have R1 := Lib.hid ((R0.out.alloc _).pick hp hg1)
  have G4 := Lib.hid ((G3'.out.alloc _).pick hp)
  clear hp R0 G3'
  obtain ⟨l, rfl⟩ := Int.eq_ofNat_of_zero_le q0'
  go_wp2_with fail
  go_loopw [7, 8] (fun v i wr => ∃ (k r : Nat) (zs : List Int), k + r = l ∧ i = .int .i64 r ∧ Hid (Rw w1.heap.size v k zs wr ∧ AllB zs (-1) 10001 ∧ Gs w1 w.heap.size A n' c' (0 + 1 + k) wr)) (fun _ i _ => (intOf i).toNat)
  case atStart => exact ⟨0, l, [], by omega, rfl, R1.out, (fun z hz => by cases hz), G4.out⟩
  case round =>
    obtain ⟨k, r, zs, hkr, rfl, hS⟩ := hrel
    by_cases hr0 : 0 < r
    · go_wp2_with fail
      refine (one_any w.heap.size A n' c' (0 + 1 + k) _ 5 _ 0 100 _ (hS.out.2.2.rd.alloc _) (by omega) (heap_alloc_new _ _) hS.out.2.2.ne rfl (by omega) (by omega) (by repeat (first | exact allIn_nil _ _ | refine allIn_cons (by omega) (by omega) ?_))).mono ?_
      rintro e w5 ⟨y, rfl, y0, y1, hp⟩
      have R2 := Lib.hid ((hS.out.1.alloc _).pick hp hg1)
      have G5 := Lib.hid ((hS.out.2.2.alloc _).pick hp)
      clear hp
      go_wp2_with (at_builtin; refine wpList_app2 _ rfl _ _ rfl w1.heap.size _ _ _ rfl (R2.out.alloc _) (by omega) w5.heap.size y rfl (by simp [go_sem]) ?_; intro v' w6 how hg3; have HO := Lib.hid how; have HG := Lib.hid hg3; clear how hg3)
      go_roundw
      case rel => exact ⟨k + 1, r - 1, zs ++ [y], by omega, by go_num, HO.out, hS.out.2.1.snoc (by omega) (by omega), (G5.out.alloc _).grown HG.out (fun r e => R2.out.row r e)⟩
      case measure => simp [intOf]; omega
    · obtain rfl : r = 0 := by omega
      go_wp2_with fail
      refine (someSpace_any w.heap.size A n' c' (0 + 1 + k) wr hS.out.2.2.rd (by omega)).mono ?_
      rintro e w6 ⟨sp, rfl, s0, s1, hp⟩
      have R6 := Lib.hid (hS.out.1.pick hp hg1)
      have G6 := Lib.hid (hS.out.2.2.pick hp)
      clear hp
      go_wp2_with fail
      refine (someGap_any w.heap.size A n' c' (0 + 1 + k + 2) w6 G6.out.rd (by omega)).mono ?_
      rintro e w7 ⟨gap, rfl, g0, g1, hp⟩
      have R7 := Lib.hid (R6.out.pick hp hg1)
      have G7 := Lib.hid (G6.out.pick hp)
      clear hp R6 G6
      obtain ⟨A2, c2, rfl, hc2, hm2, hA2, hW2⟩ := R7.out.outN
      have HA2 := Lib.hid hA2
      have HW2 := Lib.hid hW2
      clear hA2 hW2 hm2 hc2
      go_wp2_with fail
      refine (spoil_any w.heap.size A n' c' (0 + 1 + k + 2 + 1) A2 k c2 zs 10001 (-1) 10001 w7 G7.out.rd (by omega) HW2.out.rd HA2.out (by omega) hS.out.2.1 (by omega) (by omega) (by omega) (by omega)).mono ?_
      rintro e w8 ⟨A3, m3, c3, ys, rfl, h1, h2, h3, h4, h5, h6, hp⟩
      have G8 := Lib.hid (G7.out.pick hp)
      have HL8 := Lib.hid (show Lst (-1) 10001 (k + 1) w7.heap.size A3 m3 c3 ys w8 from ⟨h1, h2, h3, h4, h5, h6⟩)
      have hs7 := Lib.hid hp.2.size
      clear h1 h2 h3 h4 h5 h6 hp
      go_wp2_with fail
      refine (one_any w.heap.size A n' c' (0 + 1 + k + 2 + 1 + 3) _ 7 _ (-1) 4 _ (G8.out.rd.alloc _) (by omega) (heap_alloc_new _ _) G8.out.ne rfl (by omega) (by omega) (by repeat (first | exact allIn_nil _ _ | refine allIn_cons (by omega) (by omega) ?_))).mono ?_
      rintro e w9 ⟨j, rfl, j0, j1, hp⟩
      have G9 := Lib.hid ((G8.out.alloc _).pick hp)
      have HL9 : Hid (Lst (-1) 10001 (k + 1) w7.heap.size A3 m3 c3 ys w9) := (HL8.out.below ((Below.refl w8.heap.size w8).alloc (Nat.le_refl _) _)).grown hp.2 (fun r e => by injection e with e; have := G7.out.size; omega)
      have HE : Hid (DrawO w (.returned (.tuple #[.slice A3 m3 c3, .int .i64 sp, .int .i64 gap, .int .i64 j])) w9) :=
        ⟨A3, m3, c3, ys, sp, gap, j, rfl, ⟨s0, s1⟩, ⟨g0, g1⟩, ⟨j0, j1⟩, ⟨by have := HL9.out.1; omega, HL9.out.2.1, HL9.out.2.2.1, HL9.out.2.2.2.1, HL9.out.2.2.2.2.1, HL9.out.2.2.2.2.2.low (by have := G7.out.size; have := B1.out.size; omega)⟩, bl_gs B1.out G9.out.gb (Nat.le_refl _)⟩
      clear hp
      go_wp2
      exact bodyPost_ret (v := .tuple #[.slice A3 m3 c3, .int .i64 sp, .int .i64 gap, .int .i64 j]) (by simp [results, Try.results32, go_sem]) rfl HE.out
end Go.Proofs.Ytlijbopcllanfaa
