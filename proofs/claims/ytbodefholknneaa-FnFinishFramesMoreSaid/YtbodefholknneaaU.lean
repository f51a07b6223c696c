/- The drawn costs and budgets. -/
import Derived.Test.YtbodefholknneaaT
namespace Go.Proofs.Ytbodefholknneaa
open Go.RowKit

/- A drawn list. -/
def Lst (lo hi : Int) (N B : Nat) (A : Option Addr) (m c : Nat) (zs : List Int) (w : World) : Prop :=
  m ≤ N ∧ m ≤ c ∧ c ≤ maxLen ∧ (A = none → c = 0) ∧ AllB zs lo hi ∧ Wr w B A m zs
theorem Lst.below {lo hi : Int} {N B : Nat} {A : Option Addr} {m c : Nat} {zs : List Int} {w w' : World} (h : Lst lo hi N B A m c zs w) (hb : Below w.heap.size w w') : Lst lo hi N B A m c zs w' :=
  ⟨h.1, h.2.1, h.2.2.1, h.2.2.2.1, h.2.2.2.2.1, h.2.2.2.2.2.below hb⟩
theorem Lst.low {lo hi : Int} {N B B' : Nat} {A : Option Addr} {m c : Nat} {zs : List Int} {w : World} (h : Lst lo hi N B A m c zs w) (hb : B' ≤ B) : Lst lo hi N B' A m c zs w :=
  ⟨h.1, h.2.1, h.2.2.1, h.2.2.2.1, h.2.2.2.2.1, h.2.2.2.2.2.low hb⟩
theorem Lst.grown {lo hi : Int} {N B : Nat} {A : Option Addr} {m c : Nat} {zs : List Int} {w w' : World} {row : Option Nat} (h : Lst lo hi N B A m c zs w) (hg : w.grownBy w' row) (hr : ∀ r, row = some r → r < B) : Lst lo hi N B A m c zs w' :=
  ⟨h.1, h.2.1, h.2.2.1, h.2.2.2.1, h.2.2.2.2.1, h.2.2.2.2.2.grown hg hr⟩
def Draw2 (lo hi : Int) (N : Nat) (w : World) (e : Ending) (w' : World) : Prop :=
  ∃ (A1 : Option Addr) (m1 c1 : Nat) (xs : List Int) (A2 : Option Addr) (m2 c2 : Nat) (ys : List Int), e = .returned (.tuple #[.slice A1 m1 c1, .slice A2 m2 c2]) ∧ Lst lo hi N w.heap.size A1 m1 c1 xs w' ∧ Lst lo hi N w.heap.size A2 m2 c2 ys w' ∧ Below w.heap.size w w'
theorem bl_gs {w w1 w2 : World} {g : Nat} (h : Below w.heap.size w w1) (hg : w1.grownBy w2 (some g)) (h2 : w.heap.size ≤ g) : Below w.heap.size w w2 :=
  bl_gb h hg h.size (fun r e => by injection e with e; omega)
set_option maxHeartbeats 2000000 in
theorem DrawFinishFrames_any (A : Option Addr) (n c : Nat) (zs : List Int) (w : World) (h : IsRow .u8 w A n c zs) :
    Calls Try.prog 31 #[.slice A n c] w (Draw2 (-1) 1001 14 w) := by
  have H := Lib.hid h
  clear h
  go_enter Try.func31, Try.ntmps31
  go_wp2_with fail
  refine (newReader_of A n c zs _ H.out).mono ?_
  rintro e w1 ⟨n', c', hn', rfl, rd1, hb1⟩
  have G1 := Lib.hid rd1
  have B1 := Lib.hid hb1
  clear rd1 hb1
  go_wp2_with fail
  refine (anyCosts_any w.heap.size A n' c' 0 w1 G1.out (by omega)).mono ?_
  rintro e w2 ⟨A2, m2, c2, xs, rfl, h1, h2, h3, h4, h5, h6, hp⟩
  have L2 := Lib.hid (show Lst (-1) 1001 14 w1.heap.size A2 m2 c2 xs w2 from ⟨h1, h2, h3, h4, h5, h6⟩)
  have HP2 := Lib.hid hp
  clear h1 h2 h3 h4 h5 h6 hp
  go_wp2_with fail
  refine (anyCosts_any w.heap.size A n' c' (0 + 17) w2 HP2.out.1 (by omega)).mono ?_
  rintro e w3 ⟨A3, m3, c3, ys, rfl, h1, h2, h3, h4, h5, h6, hp⟩
  have L3 := Lib.hid (show Lst (-1) 1001 14 w2.heap.size A3 m3 c3 ys w3 from ⟨h1, h2, h3, h4, h5, h6⟩)
  have HP3 := Lib.hid hp
  clear h1 h2 h3 h4 h5 h6 hp
  go_wp2
  go_ret2
  have z1 := G1.out.lt
  have z2 := B1.out.size
  have z3 := HP2.out.2.size
  exact ⟨A2, m2, c2, xs, A3, m3, c3, ys, rfl, (L2.out.grown HP3.out.2 (fun r e => by injection e with e; omega)).low (by omega), L3.out.low (by omega), bl_gs (bl_gs B1.out HP2.out.2 (Nat.le_refl _)) HP3.out.2 (Nat.le_refl _)⟩
set_option maxHeartbeats 1000000 in
theorem DrawIdleTime_any (A : Option Addr) (n c : Nat) (zs : List Int) (w : World) (h : IsRow .u8 w A n c zs) :
    Calls Try.prog 28 #[.slice A n c] w (Draw2 (-1) 1001 14 w) := by
  have H := Lib.hid h
  clear h
  go_enter Try.func28, Try.ntmps28
  go_wp2_with fail
  refine (DrawFinishFrames_any A n c zs _ H.out).mono ?_
  rintro e w1 ⟨A2, m2, c2, xs, A3, m3, c3, ys, rfl, h1⟩
  have HD := Lib.hid h1
  clear h1
  go_wp2
  go_ret2
  exact ⟨A2, m2, c2, xs, A3, m3, c3, ys, rfl, HD.out⟩
set_option maxHeartbeats 1000000 in
theorem DrawWorkLeft_any (A : Option Addr) (n c : Nat) (zs : List Int) (w : World) (h : IsRow .u8 w A n c zs) :
    Calls Try.prog 29 #[.slice A n c] w (Draw2 (-1) 1001 14 w) := by
  have H := Lib.hid h
  clear h
  go_enter Try.func29, Try.ntmps29
  go_wp2_with fail
  refine (DrawFinishFrames_any A n c zs _ H.out).mono ?_
  rintro e w1 ⟨A2, m2, c2, xs, A3, m3, c3, ys, rfl, h1⟩
  have HD := Lib.hid h1
  clear h1
  go_wp2
  go_ret2
  exact ⟨A2, m2, c2, xs, A3, m3, c3, ys, rfl, HD.out⟩
def DrawI (lo hi : Int) (N : Nat) (w : World) (e : Ending) (w' : World) : Prop :=
  ∃ (A1 : Option Addr) (m1 c1 : Nat) (xs : List Int) (b : Int), e = .returned (.tuple #[.slice A1 m1 c1, .int .i64 b]) ∧ Lst lo hi N w.heap.size A1 m1 c1 xs w' ∧ (lo ≤ b ∧ b ≤ hi) ∧ Below w.heap.size w w'
set_option maxHeartbeats 2000000 in
theorem DrawFramesNeeded_any (A : Option Addr) (n c : Nat) (zs : List Int) (w : World) (h : IsRow .u8 w A n c zs) :
    Calls Try.prog 26 #[.slice A n c] w (DrawI (-1) 1001 14 w) := by
  have H := Lib.hid h
  clear h
  go_enter Try.func26, Try.ntmps26
  go_wp2_with fail
  refine (newReader_of A n c zs _ H.out).mono ?_
  rintro e w1 ⟨n', c', hn', rfl, rd1, hb1⟩
  have G1 := Lib.hid rd1
  have B1 := Lib.hid hb1
  clear rd1 hb1
  go_wp2_with fail
  refine (anyCosts_any w.heap.size A n' c' 0 w1 G1.out (by omega)).mono ?_
  rintro e w2 ⟨A2, m2, c2, xs, rfl, h1, h2, h3, h4, h5, h6, hp⟩
  have L2 := Lib.hid (show Lst (-1) 1001 14 w1.heap.size A2 m2 c2 xs w2 from ⟨h1, h2, h3, h4, h5, h6⟩)
  have HP2 := Lib.hid hp
  have hne : ¬ w2.heap.size = w.heap.size := by have := hp.1.lt; omega
  clear h1 h2 h3 h4 h5 h6 hp
  go_wp2_with fail
  refine (one_any w.heap.size A n' c' (0 + 17) _ 7 _ (-1) 1001 _ (HP2.out.1.alloc _) (by omega) (heap_alloc_new _ _) hne rfl (by omega) (by omega) (by repeat (first | exact allIn_nil _ _ | refine allIn_cons (by omega) (by omega) ?_))).mono ?_
  rintro e w3 ⟨b, rfl, b0, b1, hp⟩
  have HP3 := Lib.hid hp
  clear hp
  go_wp2
  go_ret2
  have z1 := G1.out.lt
  have z2 := B1.out.size
  have z3 := HP2.out.2.size
  have L2' := L2.out.below ((Below.refl w2.heap.size w2).alloc (Nat.le_refl _) (.cells #[.int .i64 10, .int .i64 1, .int .i64 100, .int .i64 1000, .int .i64 0, .int .i64 1001, .int .i64 7] 3))
  exact ⟨A2, m2, c2, xs, b, rfl, (L2'.grown HP3.out.2 (fun r e => by injection e with e; omega)).low (by omega), ⟨b0, b1⟩, bl_gs ((bl_gs B1.out HP2.out.2 (Nat.le_refl _)).alloc (by omega) _) HP3.out.2 (Nat.le_refl _)⟩
end Go.Proofs.Ytbodefholknneaa
