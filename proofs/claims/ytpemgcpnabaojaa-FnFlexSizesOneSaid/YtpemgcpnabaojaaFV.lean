/- The drawn arguments of FlexSizes and LeftOver. -/
import Derived.Test.YtpemgcpnabaojaaFG
import Derived.Test.YtpemgcpnabaojaaOG
namespace Go.Proofs.Ytpemgcpnabaojaa
open Go.RowKit

def DrawFS (w : World) (e : Ending) (w' : World) : Prop := ∃ (A : Option Addr) (m c : Nat) (zs : List Int) (sp : Int), e = .returned (.tuple #[.slice A m c, .int .i64 sp]) ∧ (-1 ≤ sp ∧ sp ≤ 200001) ∧ LstK 5 9 w.heap.size A m c zs w' ∧ Below w.heap.size w w'
set_option maxHeartbeats 2000000 in
theorem DrawFlexSizes_any (A : Option Addr) (n c : Nat) (zs : List Int) (w : World) (h : IsRow .u8 w A n c zs) :
    Calls Try.prog 20 #[.slice A n c] w (DrawFS w) := by
  have H := Lib.hid h
  clear h
  go_enter Try.func20, Try.ntmps20
  go_wp2_with fail
  refine (newReader_of A n c zs _ H.out).mono ?_
  rintro e w1 ⟨n', c', hn', rfl, rd1, hb1⟩
  have G1 := Lib.hid rd1
  have B1 := Lib.hid hb1
  clear rd1 hb1
  go_wp2_with fail
  refine (anyFlexes_any w.heap.size A n' c' 0 w1 G1.out (by omega)).mono ?_
  rintro e w2 ⟨A2, m, c2, zs2, rfl, hL, hp⟩
  have HL := Lib.hid hL
  have HP := Lib.hid hp
  clear hL hp
  go_wp2_with fail
  refine (someSpace_any w.heap.size A n' c' (0 + 60) w2 HP.out.1 (by omega)).mono ?_
  rintro e w3 ⟨sp, rfl, s0, s1, hp⟩
  have HP3 := Lib.hid hp
  clear hp
  go_wp2
  go_ret2
  have z1 := G1.out.lt
  exact ⟨A2, m, c2, zs2, sp, rfl, ⟨s0, s1⟩, ⟨HL.out.1, HL.out.2.1, HL.out.2.2.1, HL.out.2.2.2.1, (HL.out.2.2.2.2.grown HP3.out.2 (fun r e => by injection e with e; omega)).low B1.out.size⟩, bl_gs (bl_gs B1.out HP.out.2 (Nat.le_refl _)) HP3.out.2 (Nat.le_refl _)⟩
set_option maxHeartbeats 1000000 in
theorem DrawLeftOver_any (A : Option Addr) (n c : Nat) (zs : List Int) (w : World) (h : IsRow .u8 w A n c zs) :
    Calls Try.prog 13 #[.slice A n c] w (DrawFS w) := by
  have H := Lib.hid h
  clear h
  go_enter Try.func13, Try.ntmps13
  go_wp2_with fail
  refine (DrawFlexSizes_any A n c zs _ H.out).mono ?_
  rintro e w1 ⟨A2, m, c2, zs2, sp, rfl, h1⟩
  have HD := Lib.hid h1
  clear h1
  go_wp2
  go_ret2
  exact ⟨A2, m, c2, zs2, sp, rfl, HD.out⟩
end Go.Proofs.Ytpemgcpnabaojaa
