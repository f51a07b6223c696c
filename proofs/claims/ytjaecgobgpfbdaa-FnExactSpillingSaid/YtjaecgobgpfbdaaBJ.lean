/- Contracts on slices of integers that write: the copy, the marks; and the test of all elements by a closure. -/
import Derived.Test.YtjaecgobgpfbdaaBI
import Derived.Laws.MakeOwn
namespace Go.Proofs.Ytjaecgobgpfbdaa
open Go.RowKit

theorem run_make_rowN {P : Program} (t e : TypeId) (i : TypeInfo) (z : Value) (ht : P.underlying t = some (.slice e)) (hi : P.info? e = some i) (hz : i.zero = some z)
    (kl kc : IntKind) (n c : Nat) (hnc : n ≤ c) (hbytes : i.bytes * c ≤ 281474976710656) (h63 : c ≤ 9223372036854775807) (w : World) :
    (Instr.makeSlice t (.int kl (n : Int)) (.int kc (c : Int))).run P w = .ok (.slice (some ⟨w.heap.size, 0, none⟩) n c) (w.alloc (.cells (madeCells z.cells (c * i.size)) e)) := by
  have hb : (i.bytes : Int) * (c : Int) ≤ 281474976710656 := by
    have h : ((i.bytes * c : Nat) : Int) ≤ 281474976710656 := by omega
    rwa [Int.natCast_mul] at h
  have hr := run_make (P := P) w t e i z ht hi hz kl kc n c (by omega) (by omega) hb (by omega)
  simp only [Int.toNat_natCast] at hr
  exact hr
theorem int_info : (Try.prog.info? 3).map (fun i => (i.zero, i.size, i.bytes)) = some (some (.int .i64 0), 1, 8) := by kernel_rfl
/- Block g holds n integers, not frozen. -/
theorem Wr.set {w : World} {lo b off n : Nat} {zs : List Int} (h : Wr w lo (some ⟨b, off, none⟩) n zs) {k : Nat} (hk : k < n) (v : Int) :
    Wr (w.setCell ⟨b, off + k, none⟩ (.int .i64 v)) lo (some ⟨b, off, none⟩) n (zs.set k v) := by
  refine ⟨by rw [List.length_set]; exact h.1, fun hn => ?_⟩
  obtain ⟨b', off', e, hl, hb, hc⟩ := h.2 hn
  injection e with e
  injection e with e1 e2 e3
  subst e1 e2
  refine ⟨b, off, rfl, hl, by simpa [World.setCell] using hb, fun i hi => ⟨?_, ?_⟩⟩
  · have h0 := (hc k hk).1
    have h1 := (hc i hi).1
    by_cases hik : i = k
    · subst hik
      simp [go_sem, h0, List.getD_eq_getElem?_getD, show i < zs.length by rw [h.1]; exact hk]
    · rw [World.cell?_setCell_other _ _ _ _ (by intro e; injection e with _ e; omega), h1]
      congr 2
      simp [List.getD_eq_getElem?_getD, Ne.symm hik]
  · have h1 := (hc i hi).2
    simpa [go_sem] using h1
theorem mk_set (n : Nat) (f : Nat → Int) (k : Nat) (v : Int) (hk : k < n) : (mk n f).set k v = mk n fun i => if i = k then v else f i := by
  apply getD_of_getElem?
  · simp [mk_len]
  · intro i hi
    rw [List.length_set, mk_len] at hi
    rw [mk_getD _ _ _ hi]
    have h1 := mk_getD n f i hi
    rw [List.getD_eq_getElem?_getD] at h1 ⊢
    rw [List.getElem?_set]
    split
    · rename_i h; subst h; simp [mk_len, hk]
    · rename_i h; rw [h1, if_neg (Ne.symm h)]
theorem Wr.made (w : World) (lo n : Nat) (e : TypeId) (hl : lo ≤ w.heap.size) : Wr (w.alloc (.cells (madeCells #[Value.int .i64 0] n) e)) lo (some ⟨w.heap.size, 0, none⟩) n (mk n fun _ => 0) := by
  refine ⟨mk_len _ _, fun hn => ⟨w.heap.size, 0, rfl, hl, by simp, fun i hi => ?_⟩⟩
  rw [mk_getD _ _ _ hi]
  refine ⟨?_, by simp [go_sem]⟩
  rw [Nat.zero_add, cell_of_row _ w.heap.size i _ e (0, 0) (heap_alloc_new w _)]
  simp [madeCells, hi, Nat.mod_one]
theorem Wr.hi {w : World} {lo n : Nat} {A : Option Addr} {zs : List Int} (h : Wr w lo A n zs) : ∀ b off, A = some ⟨b, off, none⟩ → 0 < n → b < w.heap.size := by
  intro b off e hn
  obtain ⟨b', off', e', _, hb, _⟩ := h.2 hn
  rw [e] at e'
  injection e' with e'
  injection e' with e1
  omega
set_option maxHeartbeats 1000000 in
theorem markIntS_any (A : Option Addr) (n c : Nat) (zs : List Int) (k0 : Int) (lo hi : Nat) (w : World) (h : Wr w lo A n zs) (hn : n ≤ 2000000) (h0 : 0 ≤ k0) (h1 : k0 ≤ 100000000) (hhi : ∀ b off, A = some ⟨b, off, none⟩ → 0 < n → b < hi) :
    Calls Try.prog 24 #[.slice A n c, .int .i64 k0] w fun e w' => ∃ row, e = .returned (.int .i64 (k0 + n)) ∧ Wr w' lo A n (mk n fun i => k0 + i) ∧ (∀ g, row = some g → lo ≤ g ∧ g < hi) ∧ w.grownBy w' row := by
  obtain ⟨row, hrow1, hrow2⟩ : ∃ row : Option Nat, (∀ g, row = some g → lo ≤ g ∧ g < hi) ∧ (∀ b off, A = some ⟨b, off, none⟩ → 0 < n → row = some b) := by
    rcases Nat.eq_zero_or_pos n with h2 | h2
    · exact ⟨none, fun g e => (by cases e), fun _ _ _ h3 => absurd h3 (by omega)⟩
    · obtain ⟨b, off, e, hl, _⟩ := h.2 h2
      refine ⟨some b, fun g e2 => ?_, fun b' off' e2 _ => ?_⟩
      · injection e2 with e2
        subst e2
        exact ⟨hl, hhi b off e h2⟩
      · rw [e] at e2
        injection e2 with e2
        injection e2 with e2
        rw [e2]
  have HR := Lib.hid hrow1
  have HR2 := Lib.hid hrow2
  have H := Lib.hid h
  clear h hhi hrow1 hrow2
  go_enter Try.func24, Try.ntmps24
  go_wp2
  go_loopw [1, 5] (fun s i wr => ∃ k : Nat, k ≤ n ∧ i = .int .i64 k ∧ s = .int .i64 (k0 + k) ∧ Hid (Wr wr lo A n (mk n fun i => if i < k then k0 + i else zs.getD i 0) ∧ w.grownBy wr row)) (fun _ i _ => n - (intOf i).toNat)
  case atStart =>
    refine ⟨0, Nat.zero_le _, rfl, by simp, ?_, World.grownBy.refl w _⟩
    have h2 := eq_mk zs
    rw [H.out.1] at h2
    rw [mk_congr n (fun i => if i < 0 then k0 + (i : Int) else zs.getD i 0) (fun i => zs.getD i 0) (fun i _ => by simp), ← h2]
    exact H.out
  case round =>
    obtain ⟨k, hk, rfl, rfl, hS⟩ := hrel
    by_cases hlt : k < n
    · obtain ⟨b, off, rfl, hl, hb, hc⟩ := hS.out.1.2 (by omega)
      obtain ⟨u, hu⟩ : ∃ u, Hid ((mk n fun i => if i < k then k0 + i else zs.getD i 0).getD k 0 = u) := ⟨_, rfl⟩
      have hcw := (hc k hlt).1
      have hfw := (hc k hlt).2
      rw [hu.out] at hcw
      clear hc hu
      go_wp2
      have hset := hS.out.1.set hlt (k0 + k)
      rw [mk_set _ _ _ _ hlt] at hset
      go_roundw
      case rel =>
        have hg := hS.out.2
        rw [HR2.out b off rfl (by omega)] at hg
        refine ⟨k + 1, by omega, by go_num, by go_num, ?_, ?_⟩
        · rw [mk_congr n (fun i => if i < k + 1 then k0 + i else zs.getD i 0) (fun i => if i = k then k0 + k else if i < k then k0 + i else zs.getD i 0)]
          · exact hset
          · intro i _
            by_cases h1 : i = k
            · subst h1; simp
            · have : i < k + 1 ↔ i < k := by omega
              simp [h1, this]
        · rw [HR2.out b off rfl (by omega)]
          exact gb_set hg (.inl (by rfl)) _
      case measure => simp [intOf]; omega
    · obtain rfl : k = n := by omega
      go_wp2
      go_ret
      refine ⟨row, rfl, ?_, HR.out, hS.out.2⟩
      have h1 := hS.out.1
      rw [mk_congr k (fun i => if i < k then k0 + i else zs.getD i 0) (fun i => k0 + i) (fun i hi => by simp [hi])] at h1
      exact h1
set_option maxHeartbeats 1000000 in
theorem heldIntS_any (A : Option Addr) (n c : Nat) (k0 : Int) (B : Nat) (w : World) (h : Rd w B A n (mk n fun i => k0 + i)) (hn : n ≤ 2000000) (h0 : 0 ≤ k0) (h1 : k0 ≤ 100000000) :
    Calls Try.prog 25 #[.slice A n c, .int .i64 k0] w fun e w' => e = .returned (.int .i64 (k0 + n)) ∧ w = w' := by
  have H := Lib.hid h
  clear h
  go_enter Try.func25, Try.ntmps25
  go_wp2
  go_loop [1, 5] (fun s i => ∃ k : Nat, k ≤ n ∧ i = .int .i64 k ∧ s = .int .i64 (k0 + k)) (fun _ i => n - (intOf i).toNat)
  case atStart => exact ⟨0, Nat.zero_le _, rfl, by simp⟩
  case round =>
    obtain ⟨k, hk, rfl, rfl⟩ := hrel
    by_cases hlt : k < n
    · obtain ⟨b, off, rfl, hb, hc⟩ := H.out.cell (by omega)
      have hcw := hc k hlt
      rw [mk_getD _ _ _ hlt] at hcw
      clear hc
      go_wp2
      go_round
      case rel => exact ⟨k + 1, by omega, by go_num, by go_num⟩
      case measure => simp [intOf]; omega
    · obtain rfl : k = n := by omega
      go_wp2
      go_ret
      exact ⟨rfl, rfl⟩
end Go.Proofs.Ytjaecgobgpfbdaa
