/- The drawn arguments of ShareSpace. -/
import Derived.Test.YtlijbopcllanfaaU0
namespace Go.Proofs.Ytlijbopcllanfaa
open Go.RowKit

def DrawS (w : World) (e : Ending) (w' : World) : Prop :=
  ∃ (sp : Int) (A : Option Addr) (m c : Nat) (zs : List Int), e = .returned (.tuple #[.int .i64 sp, .slice A m c]) ∧ (-1 ≤ sp ∧ sp ≤ 200001) ∧ Lst (-1) 200001 11 w.heap.size A m c zs w' ∧ Below w.heap.size w w'
set_option maxHeartbeats 4000000 in
theorem DrawShareSpace_any (A : Option Addr) (n c : Nat) (zs : List Int) (w : World) (h : IsRow .u8 w A n c zs) :
    Calls Try.prog 27 #[.slice A n c] w (DrawS w) := by
  have H := Lib.hid h
  clear h
  go_enter Try.func27, Try.ntmps27
  go_wp2_with fail
  refine (newReader_of A n c zs _ H.out).mono ?_
  rintro e w1 ⟨n', c', hn', rfl, rd1, hb1⟩
  have G1 := Lib.hid (Gs.start rd1)
  have B1 := Lib.hid hb1
  have hg1 := rd1.lt
  clear rd1 hb1
  go_wp2_with fail
  refine (pick_any w.heap.size A n' c' 0 250 w1 G1.out.rd (by omega) (by omega) (by omega)).mono ?_
  rintro e w2 ⟨q, rfl, q0, q1, hp⟩
  have G2 := Lib.hid (G1.out.pick hp)
  clear hp
  go_wp2_with fail
  refine (one_any w.heap.size A n' c' (0 + 1) _ 8 _ (-1) 200001 _ (G2.out.rd.alloc _) (by omega) (heap_alloc_new _ _) G2.out.ne rfl (by omega) (by omega) (by repeat (first | exact allIn_nil _ _ | refine allIn_cons (by omega) (by omega) ?_))).mono ?_
  rintro e w3 ⟨sp, rfl, s0, s1, hp⟩
  have G3 := Lib.hid ((G2.out.alloc _).pick hp)
  clear hp
  go_wp2_with fail
  have R0 := Lib.hid (Rw.empty w3 w1.heap.size G3.out.size)
  have G3' := Lib.hid (G3.out.alloc (.cells #[] 3))
  refine (one_any w.heap.size A n' c' (0 + 1 + 1) _ 7 _ 0 9 _ (G3'.out.rd.alloc _) (by omega) (new_at (by simp)) (by have := G3.out.ne; have := G3.out.size; omega) rfl (by omega) (by omega) (by repeat (first | exact allIn_nil _ _ | refine allIn_cons (by omega) (by omega) ?_))).mono ?_
  rintro e w4 ⟨q', rfl, q0', q1', hp⟩
  have R1 := Lib.hid ((R0.out.alloc _).pick hp hg1)
  have G4 := Lib.hid ((G3'.out.alloc _).pick hp)
  clear hp R0 G3'
  obtain ⟨l, rfl⟩ := Int.eq_ofNat_of_zero_le q0'
  go_wp2_with fail
  go_loopw [6, 7] (fun v i wr => ∃ (k r : Nat) (zs : List Int), k + r = l ∧ i = .int .i64 r ∧ Hid (Rw w1.heap.size v k zs wr ∧ AllB zs (-1) 200001 ∧ Gs w1 w.heap.size A n' c' (0 + 1 + 1 + 1 + k) wr)) (fun _ i _ => (intOf i).toNat)
  case atStart => exact ⟨0, l, [], by omega, rfl, R1.out, (fun z hz => by cases hz), G4.out⟩
  case round =>
    obtain ⟨k, r, zs, hkr, rfl, hS⟩ := hrel
    by_cases hr0 : 0 < r
    · go_wp2_with fail
      refine (one_any w.heap.size A n' c' (0 + 1 + 1 + 1 + k) _ 6 _ 0 333 _ (hS.out.2.2.rd.alloc _) (by omega) (heap_alloc_new _ _) hS.out.2.2.ne rfl (by omega) (by omega) (by repeat (first | exact allIn_nil _ _ | refine allIn_cons (by omega) (by omega) ?_))).mono ?_
      rintro e w5 ⟨y, rfl, y0, y1, hp⟩
      have R2 := Lib.hid ((hS.out.1.alloc _).pick hp hg1)
      have G5 := Lib.hid ((hS.out.2.2.alloc _).pick hp)
      clear hp
      go_wp2_with (at_builtin; refine wpList_app2 _ rfl _ _ rfl w1.heap.size _ _ _ rfl (R2.out.alloc _) (by omega) w5.heap.size y rfl (by simp [go_sem]) ?_; intro v' w6 how hg3; have HO := Lib.hid how; have HG := Lib.hid hg3; clear how hg3)
      go_roundw
      case rel => exact ⟨k + 1, r - 1, zs ++ [y], by omega, by go_num, HO.out, hS.out.2.1.snoc (by omega) (by omega), (G5.out.alloc _).grown HG.out (fun r e => R2.out.row r e)⟩
      case measure => simp [intOf]; omega
    · obtain rfl : r = 0 := by omega
      obtain ⟨A2, c2, rfl, hc2, hm2, hA2, hW2⟩ := hS.out.1.outN
      have HA2 := Lib.hid hA2
      have HW2 := Lib.hid hW2
      clear hA2 hW2 hm2 hc2
      go_wp2_with fail
      refine (spoil_any w.heap.size A n' c' (0 + 1 + 1 + 1 + k) A2 k c2 zs 200001 (-1) 200001 wr hS.out.2.2.rd (by omega) HW2.out.rd HA2.out (by omega) hS.out.2.1 (by omega) (by omega) (by omega) (by omega)).mono ?_
      rintro e w6 ⟨A3, m3, c3, ys, rfl, h1, h2, h3, h4, h5, h6, hp⟩
      have HE : Hid (DrawS w (.returned (.tuple #[.int .i64 sp, .slice A3 m3 c3])) w6) :=
        ⟨sp, A3, m3, c3, ys, rfl, ⟨s0, s1⟩, ⟨by omega, h2, h3, h4, h5, h6.low (by have := hS.out.2.2.size; have := B1.out.size; omega)⟩, bl_gs B1.out (hS.out.2.2.pick hp).gb (Nat.le_refl _)⟩
      clear h1 h2 h3 h4 h5 h6 hp
      go_wp2
      go_ret2
      exact HE.out
end Go.Proofs.Ytlijbopcllanfaa
