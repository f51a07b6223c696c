/- The library's Repeat of one number. -/
import Derived.Test.YtjaecgobgpfbdaaSA
import Derived.Laws.CopyOwn
import Derived.Deep.RegionLaw
namespace Go.Proofs.Ytjaecgobgpfbdaa
open Go.RowKit

set_option maxHeartbeats 2000000 in
theorem mul64_any (k : Nat) (w : World) (h1 : 1 ≤ k) (h2 : k ≤ 7) :
    Calls Try.prog 109 #[.int .u64 1, .int .u64 k] w fun e w' => e = .returned (.tuple #[.int .u64 0, .int .u64 k]) ∧ w = w' := by
  obtain rfl | rfl | rfl | rfl | rfl | rfl | rfl : k = 1 ∨ k = 2 ∨ k = 3 ∨ k = 4 ∨ k = 5 ∨ k = 6 ∨ k = 7 := by omega
  all_goals
    go_enter Try.func109, Try.ntmps109
    go_wp2
    go_ret2
    exact ⟨rfl, rfl⟩
set_option maxHeartbeats 1000000 in
theorem mul_any (k : Nat) (w : World) (h1 : 1 ≤ k) (h2 : k ≤ 7) :
    Calls Try.prog 104 #[.int .u64 1, .int .u64 k] w fun e w' => e = .returned (.tuple #[.int .u64 0, .int .u64 k]) ∧ w = w' := by
  go_enter Try.func104, Try.ntmps104
  go_wp2_with (go_at_call 109; ((with_reducible refine (mul64_any _ _ h1 h2).mono ?_); rintro e w' ⟨rfl, rfl⟩))
  go_ret2
  exact ⟨rfl, rfl⟩
def rowG (k m : Nat) : List Value := List.replicate m (.int .i64 1) ++ List.replicate (k - m) (.int .i64 0)
theorem rowG_len {k m : Nat} (h : m ≤ k) : (rowG k m).length = k := by simp [rowG]; omega
theorem rowG_splice {k m q : Nat} (h : m + q ≤ k) : splice (rowG k m) m (List.replicate q (.int .i64 1)) = rowG k (m + q) := by
  unfold splice rowG
  have e1 : (List.replicate m (Value.int .i64 1) ++ List.replicate (k - m) (Value.int .i64 0)).take m = List.replicate m (Value.int .i64 1) := by
    rw [List.take_append_of_le_length (by simp)]; simp
  have e2 : (List.replicate m (Value.int .i64 1) ++ List.replicate (k - m) (Value.int .i64 0)).drop (m + q) = List.replicate (k - (m + q)) (Value.int .i64 0) := by
    rw [List.drop_append]
    simp only [List.drop_replicate, List.length_replicate]
    rw [show m - (m + q) = 0 by omega, show k - m - (m + q - m) = k - (m + q) by omega]
    rfl
  rw [List.length_replicate, e1, e2, ← List.append_assoc, List.replicate_append_replicate]
theorem rowG_made (k : Nat) : madeCells #[Value.int .i64 0] k = (rowG k 0).toArray := by
  apply Array.ext
  · simp [size_madeCells, rowG]
  · intro i h1 h2
    simp [madeCells, rowG, Nat.mod_one]
theorem rowG_cell {w : World} {g k m : Nat} {t : TypeId} (h : w.heap[g]? = some (.cells (rowG k m).toArray t (0, 0))) (i : Nat) (hi : i < m) : w.cell? ⟨g, i, none⟩ = some (.int .i64 1) := by
  rw [cell_of_row w g i _ t (0, 0) h]
  simp [rowG, List.getElem?_append, hi]
theorem rowG_bk {w : World} {g k : Nat} {t : TypeId} (h : w.heap[g]? = some (.cells (rowG k k).toArray t (0, 0))) : Bk w g k (mk k fun _ => 1) := by
  refine ⟨mk_len _ _, (Array.getElem?_eq_some_iff.1 h).1, fun i hi => ⟨?_, by simp [World.frozen?, h]⟩⟩
  rw [mk_getD _ _ _ hi]
  exact rowG_cell h i hi
theorem int_size : (Try.prog.info? 3).map (·.size) = some 1 := by kernel_rfl
def Ones (w : World) (k : Nat) (e : Ending) (w' : World) : Prop := e = .returned (.slice (some ⟨w.heap.size, 0, none⟩) k k) ∧ Bk w' w.heap.size k (mk k fun _ => 1) ∧ Below w.heap.size w w'
set_option maxHeartbeats 4000000 in
theorem repeat_any (k bx : Nat) (w : World) (h1 : 1 ≤ k) (h2 : k ≤ 7) (hx : w.cell? ⟨bx, 0, none⟩ = some (.int .i64 1)) :
    Calls Try.prog 95 #[.slice (some ⟨bx, 0, none⟩) 1 1, .int .i64 k] w (Ones w k) := by
  obtain ⟨i0, hi, hz0, hz1, hz2⟩ := info_parts int_info
  have hmk := fun W => run_make_rowN (P := Try.prog) 33 3 i0 (.int .i64 0) Try.underlying33 hi hz0 .i64 .i64 k k (Nat.le_refl _) (by rw [hz2]; omega) (by omega) W
  rw [hz1, Nat.mul_one, show (Value.int .i64 0).cells = #[Value.int .i64 0] from rfl, rowG_made] at hmk
  have hxl := lt_of_cell hx
  have HX := Lib.hid hx
  clear hi hz0 hz1 hz2 hx
  have hk : (k : Int) ≤ 7 := by omega
  go_enter Try.func95, Try.ntmps95
  have HG0 : Hid ((w.alloc (.cells (rowG k 0).toArray 3)).heap[w.heap.size]? = some (.cells (rowG k 0).toArray 3 (0, 0))) := heap_alloc_new w _
  have HB0 := Lib.hid ((Below.refl w.heap.size w).alloc (Nat.le_refl _) (.cells (rowG k 0).toArray 3))
  have HXS : Hid (∀ j v, [Value.int .i64 1][j]? = some v → (w.alloc (.cells (rowG k 0).toArray 3)).cell? ((⟨bx, 0, none⟩ : Addr).add j) = some v) := by
    intro j v hj
    match j, hj with
    | 0, hj =>
      simp at hj
      subst hj
      exact (World.cell?_alloc_lt w _ ⟨bx, 0, none⟩ hxl).trans HX.out
  go_wp2_with (first
    | (go_at_call 104; ((with_reducible refine (mul_any _ _ h1 h2).mono ?_); rintro e w' ⟨rfl, rfl⟩))
    | (refine wpList_copy_splice rfl (.tmp 31) (.tmp 32) 33 33 rfl 3 Try.underlying33 int_size (some ⟨w.heap.size, 0, none⟩) (some ⟨bx, 0, none⟩) k k 1 1 rfl rfl w.heap.size 0 (rowG k 0) 3 HG0.out [Value.int .i64 1] (Nat.min_eq_left h1).symm (fun _ => ⟨rfl, ⟨bx, 0, none⟩, rfl, HXS.out⟩) (by rw [rowG_len (Nat.zero_le k)]; exact h1) (by intro v hv; simp at hv; subst hv; rfl) w.heap.size w HB0.out (Nat.le_refl _) ?_))
  intro w1 hg1 hb1
  have HG1 : Hid (w1.heap[w.heap.size]? = some (.cells (rowG k 1).toArray 3 (0, 0))) := by
    have h := hg1.out
    have e := rowG_splice (k := k) (m := 0) (q := 1) (by omega)
    rw [show List.replicate 1 (Value.int .i64 1) = [Value.int .i64 1] from rfl] at e
    rw [e] at h
    exact h
  have HB1 := Lib.hid hb1
  clear hg1 hb1 HG0 HB0 HXS
  go_wp2
  go_loopw [8] (fun mv wr => ∃ m : Nat, 1 ≤ m ∧ m ≤ k ∧ mv = .int .i64 m ∧ Hid (wr.heap[w.heap.size]? = some (.cells (rowG k m).toArray 3 (0, 0)) ∧ Below w.heap.size w wr)) (fun mv _ => k - (intOf mv).toNat)
  case atStart => exact ⟨1, Nat.le_refl _, h1, rfl, HG1.out, HB1.out⟩
  case round =>
    obtain ⟨m, hm1, hm, rfl, hS⟩ := hrel
    by_cases hlt : m < k
    · have hm0 : (0 : Int) ≤ (m : Int) := by omega
      have hmk' : (m : Int) ≤ (k : Int) := by omega
      obtain ⟨q, hq⟩ : ∃ q, q = min m (k - m) := ⟨_, rfl⟩
      have hq1 : 1 ≤ q ∧ m + q ≤ k := by omega
      have HQ := Lib.hid hq
      obtain ⟨hq1, hq2⟩ := hq1
      have HS := Lib.hid (rowG_splice (k := k) (m := m) (q := q) hq2)
      have HC : Hid (∀ j v, (List.replicate q (Value.int .i64 1))[j]? = some v → wr.cell? ((⟨w.heap.size, 0, none⟩ : Addr).add j) = some v) := by
        intro j v hj
        have hjq : j < q := by have := (List.getElem?_eq_some_iff.1 hj).1; simpa using this
        have hv : v = .int .i64 1 := by rw [List.getElem?_replicate, if_pos hjq] at hj; injection hj with hj; exact hj.symm
        have e2 : (⟨w.heap.size, 0, none⟩ : Addr).add j = ⟨w.heap.size, j, none⟩ := by
          unfold Addr.add
          split
          · rename_i h1; subst h1; rfl
          · simp
        rw [e2, hv]
        exact rowG_cell hS.out.1 j (by have h5 := HQ.out; omega)
      have HL : Hid (m + (List.replicate q (Value.int .i64 1)).length ≤ (rowG k m).length) := by show _ ≤ _; rw [rowG_len hm, List.length_replicate]; exact hq2
      have HO : Hid (∀ v ∈ List.replicate q (Value.int .i64 1), v.oneCell' = true) := by intro v hv; rw [List.eq_of_mem_replicate hv]; rfl
      have HN : Hid ((List.replicate q (Value.int .i64 1)).length = Nat.min m (k - m)) := by show _ = _; rw [List.length_replicate]; exact HQ.out
      have hkm : ¬ k = m := by omega
      clear hq
      go_wp2
      go_region_law ((refine step_copy_splice rfl (.tmp 41) (.tmp 44) 33 33 rfl 3 Try.underlying33 int_size (some ⟨w.heap.size, m, none⟩) (some ⟨w.heap.size, 0, none⟩) (k - m) (k - m) m k (by simp [Act.eval, Act.put]) (by simp [Act.eval, Act.put]) w.heap.size m (rowG k m) 3 hS.out.1 (List.replicate q (Value.int .i64 1)) HN.out (fun _ => ⟨rfl, ⟨w.heap.size, 0, none⟩, rfl, HC.out⟩) HL.out HO.out w.heap.size w hS.out.2.drew (Nat.le_refl _) ?_; intro w2 hg2 hb2))
      have HN2 : Hid (w2.heap[w.heap.size]? = some (.cells (rowG k (m + q)).toArray 3 (0, 0)) ∧ Below w.heap.size w w2) := ⟨by have h := hg2.out; rw [HS.out] at h; exact h, hb2⟩
      clear hg2 hb2
      have hq3 : IntKind.i64.wrap ((m : Int) + (q : Int)) = ((m + q : Nat) : Int) := by rw [show ((m + q : Nat) : Int) = (m : Int) + q by omega]; exact IntWalk.i64_in _ (by omega)
      have hq4 : (List.replicate q (Value.int .i64 1)).length = q := List.length_replicate
      go_simp
      go_roundw
      case rel => (repeat apply Exists.intro); exact ⟨⟨m + q, by omega, hq2, vint (show (m : Int) + (q : Int) = ((m + q : Nat) : Int) by omega), HN2.out⟩, rfl⟩
      case measure => simp [intOf]; omega
    · obtain rfl : m = k := by omega
      go_wp2
      go_ret
      exact ⟨rfl, rowG_bk hS.out.1, hS.out.2⟩
end Go.Proofs.Ytjaecgobgpfbdaa
