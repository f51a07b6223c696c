/- The drawn arguments of OffsetsOf. -/
import Derived.Test.YtpemgcpnabaojaaU0
namespace Go.Proofs.Ytpemgcpnabaojaa
open Go.RowKit

set_option maxHeartbeats 2000000 in
theorem someSpace_any (g : Nat) (A : Option Addr) (n c K : Nat) (w : World) (hr : Rdr w g A n c K) (hK : K ≤ 90000) :
    Calls Try.prog 44 #[.pointer (some ⟨g, 0, none⟩)] w (SomeInt (-1) 200001 (AfterPick w g A n c (K + 2))) := by
  have G0 := Lib.hid (Gs.start hr)
  clear hr
  go_enter Try.func44, Try.ntmps44
  go_wp2_with fail
  refine (pick_any g A n c K 250 w G0.out.rd (by omega) (by omega) (by omega)).mono ?_
  rintro e w1 ⟨q, rfl, q0, q1, hp⟩
  have G1 := Lib.hid (G0.out.pick hp)
  clear hp
  go_wp2_with fail
  refine (one_any g A n c (K + 1) _ 10 _ (-1) 200001 _ (G1.out.rd.alloc _) (by omega) (heap_alloc_new _ _) G1.out.ne rfl (by omega) (by omega) (by repeat (first | exact allIn_nil _ _ | refine allIn_cons (by omega) (by omega) ?_))).mono ?_
  rintro e w2 ⟨v, rfl, v0, v1, hp⟩
  have G2 := Lib.hid ((G1.out.alloc _).pick hp)
  clear hp
  go_wp2
  go_ret
  exact ⟨v, rfl, v0, v1, G2.out.after⟩
end Go.Proofs.Ytpemgcpnabaojaa
