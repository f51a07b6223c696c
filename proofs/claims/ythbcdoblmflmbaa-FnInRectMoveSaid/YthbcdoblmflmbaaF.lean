/- The generator's reader: pick and one, newReader: what they return lies in its bounds, and only the reader's block turns. -/
import Derived.Test.YthbcdoblmflmbaaProg
import Derived.WalkKit
import Derived.WalkSpells
import Derived.WalkLawsBesides
import Derived.Lib.Hide
import Derived.Lib.MinMax
import Derived.OpenShut
import Derived.Deep.QuietTactic
import Derived.BigQuiet
import Derived.RegionTactic
import Derived.ChangeAlike
import Derived.BigRegion
import Derived.Laws.BitsAllLaws
import Derived.Laws.BitsLemmas
namespace Go.Proofs.Ythbcdoblmflmbaa
open Go.RowKit

def IsRow (k : IntKind) (w : World) (a : Option Addr) (len cap : Nat) (zs : List Int) : Prop :=
  (a = none ∧ len = 0 ∧ cap = 0 ∧ zs = []) ∨
  ∃ x, a = some x ∧ len ≤ cap ∧ cap ≤ maxLen ∧ zs.length = cap ∧ (∀ i, i < zs.length → w.cell? (x.add i) = some (.int k (zs.getD i 0))) ∧ ∀ n ∈ zs, (Lit.int k n).wf = true
theorem lt_of_cell {w : World} {a : Addr} {v : Value} (h : w.cell? a = some v) : a.block < w.heap.size := by
  rcases Nat.lt_or_ge a.block w.heap.size with hlt | hge
  · exact hlt
  · simp [World.cell?, Array.getElem?_eq_none hge] at h

theorem isRow_alloc {k : IntKind} {w : World} {a : Option Addr} {len cap : Nat} {zs : List Int} (h : IsRow k w a len cap zs) (o : Obj) : IsRow k (w.alloc o) a len cap zs := by
  rcases h with h | ⟨x, e, h1, h2, h3, hc, hw⟩
  · exact .inl h
  · exact .inr ⟨x, e, h1, h2, h3, fun i hi => (World.cell?_alloc_lt w o _ (lt_of_cell (hc i hi))).trans (hc i hi), hw⟩
/- A slice that reads as a list of integers of one kind. -/
def RdI (k : IntKind) (w : World) (A : Option Addr) (n : Nat) (zs : List Int) : Prop :=
  zs.length = n ∧ (0 < n → ∃ b off, A = some ⟨b, off, none⟩ ∧ b < w.heap.size ∧ ∀ i, i < n → w.cell? ⟨b, off + i, none⟩ = some (.int k (zs.getD i 0)))
theorem RdI.of_row {k : IntKind} {w : World} {a : Option Addr} {len cap : Nat} {zs : List Int} (h : IsRow k w a len cap zs) : RdI k w a len (zs.take len) := by
  rcases h with ⟨rfl, rfl, rfl, rfl⟩ | ⟨x, rfl, hl, hm, hz, hc, hw⟩
  · exact ⟨rfl, fun h => absurd h (by omega)⟩
  · refine ⟨by simp; omega, fun h => ?_⟩
    obtain ⟨b, off, rfl, hb⟩ := ints_at hc (by omega)
    refine ⟨b, off, rfl, lt_of_cell (hb 0 (by omega)), fun i hi => ?_⟩
    rw [hb i (by omega)]
    simp [List.getD, hi]
theorem RdI.cell {k : IntKind} {w : World} {A : Option Addr} {n : Nat} {zs : List Int} (h : RdI k w A n zs) (hn : 0 < n) : ∃ b off, A = some ⟨b, off, none⟩ ∧ b < w.heap.size ∧ ∀ i, i < n → w.cell? ⟨b, off + i, none⟩ = some (.int k (zs.getD i 0)) := h.2 hn

/- Only block g, and what is new, has turned: the library's 'grownBy' at 'some g', and its steps. -/
theorem gb_trans {a b c : World} {g : Nat} (h : a.grownBy b (some g)) (k : b.grownBy c (some g)) : a.grownBy c (some g) :=
  ⟨k.os.trans h.os, k.tape.trans h.tape, k.output.trans h.output, Nat.le_trans h.size k.size, fun i hi hne => (k.block i (Nat.lt_of_lt_of_le hi h.size) hne).trans (h.block i hi hne)⟩
theorem gb_drewN {a w : World} {row : Option Nat} (h : a.grownBy w row) (n : Nat) : a.grownBy (w.drewN n) row := ⟨h.os, h.tape, h.output, h.size, h.block⟩
theorem gb_drew {a w : World} {row : Option Nat} (h : a.grownBy w row) : a.grownBy w.drew row := ⟨h.os, h.tape, h.output, h.size, h.block⟩
theorem gb_alloc {a w : World} {row : Option Nat} (h : a.grownBy w row) (o : Obj) : a.grownBy (w.alloc o) row :=
  ⟨h.os, h.tape, h.output, Nat.le_trans h.size (by simp), fun i hi hne => (Below.heap_alloc w o i (Nat.lt_of_lt_of_le hi h.size)).trans (h.block i hi hne)⟩
theorem gb_set {a w : World} {g : Nat} (h : a.grownBy w (some g)) {p : Addr} (hp : p.block = g ∨ a.heap.size ≤ p.block) (u : Value) : a.grownBy (w.setCell p u) (some g) :=
  ⟨h.os, h.tape, h.output, by simpa [World.setCell] using h.size, fun i hi hne => (Below.heap_setCell w p u i (by
    rintro rfl
    rcases hp with hp | hp
    · exact hne (by rw [hp])
    · omega)).trans (h.block i hi hne)⟩
theorem gb_below {a w : World} (h : Below a.heap.size a w) (row : Option Nat) : a.grownBy w row := ⟨h.os, h.tape, h.output, h.size, fun i hi _ => h.block i hi⟩
theorem gcell {W w1 : World} {g : Nat} (hb : W.grownBy w1 (some g)) : (∀ b o, b < W.heap.size → ¬ b = g → w1.cell? ⟨b, o, none⟩ = W.cell? ⟨b, o, none⟩) ∧ (∀ b o, b < W.heap.size → ¬ b = g → w1.frozen? ⟨b, o, none⟩ = W.frozen? ⟨b, o, none⟩) :=
  ⟨fun b o h hne => World.cell?_of_block (hb.block b h (fun e => hne (by injection e))), fun b o h hne => World.frozen?_of_block (hb.block b h (fun e => hne (by injection e)))⟩

/- The reader at block g: its bytes, its count (at most K). -/
def Rdr (w : World) (g : Nat) (A : Option Addr) (n c : Nat) (K : Nat) : Prop :=
  g < w.heap.size ∧ n ≤ 2000 ∧ w.cell? ⟨g, 0, none⟩ = some (.slice A n c) ∧ (∃ p : Nat, p ≤ K ∧ w.cell? ⟨g, 1, none⟩ = some (.int .i64 p)) ∧ w.frozen? ⟨g, 1, none⟩ = false ∧
  (0 < n → ∃ b off, A = some ⟨b, off, none⟩ ∧ b < w.heap.size ∧ ¬ b = g ∧ ∀ i, i < n → ∃ u : Nat, u < 256 ∧ w.cell? ⟨b, off + i, none⟩ = some (.int .u8 u))
theorem Rdr.keep {w w' : World} {g : Nat} {A : Option Addr} {n c K : Nat} (h : Rdr w g A n c K) (hs : w.heap.size ≤ w'.heap.size) (hc : ∀ b o, b < w.heap.size → w'.cell? ⟨b, o, none⟩ = w.cell? ⟨b, o, none⟩) (hf : ∀ b o, b < w.heap.size → w'.frozen? ⟨b, o, none⟩ = w.frozen? ⟨b, o, none⟩) : Rdr w' g A n c K := by
  obtain ⟨h1, h2, h3, ⟨p, hp, h4⟩, h5, h6⟩ := h
  refine ⟨by omega, h2, by rw [hc _ _ h1]; exact h3, ⟨p, hp, by rw [hc _ _ h1]; exact h4⟩, by rw [hf _ _ h1]; exact h5, fun hn => ?_⟩
  obtain ⟨b, off, e, hb, hne, hu⟩ := h6 hn
  exact ⟨b, off, e, by omega, hne, fun i hi => by rw [hc _ _ hb]; exact hu i hi⟩
theorem Rdr.alloc {w : World} {g : Nat} {A : Option Addr} {n c K : Nat} (h : Rdr w g A n c K) (o : Obj) : Rdr (w.alloc o) g A n c K :=
  h.keep (by simp) (fun b o' hb => World.cell?_alloc_lt w o ⟨b, o', none⟩ hb) (fun b o' hb => World.frozen?_of_block (Below.heap_alloc w o b hb))
theorem Rdr.drew {w : World} {g : Nat} {A : Option Addr} {n c K : Nat} (h : Rdr w g A n c K) : Rdr w.drew g A n c K := h
theorem Rdr.drewN {w : World} {g : Nat} {A : Option Addr} {n c K : Nat} (h : Rdr w g A n c K) (k : Nat) : Rdr (w.drewN k) g A n c K := h
theorem Rdr.below {w w' : World} {g : Nat} {A : Option Addr} {n c K : Nat} (h : Rdr w g A n c K) (hb : Below w.heap.size w w') : Rdr w' g A n c K :=
  h.keep hb.size (fun b o hlt => hb.cell (p := ⟨b, o, none⟩) hlt) (fun b o hlt => hb.frozen (p := ⟨b, o, none⟩) hlt)
theorem Rdr.mono {w : World} {g : Nat} {A : Option Addr} {n c K K' : Nat} (h : Rdr w g A n c K) (hk : K ≤ K') : Rdr w g A n c K' := by
  obtain ⟨h1, h2, h3, ⟨p, hp, h4⟩, h5, h6⟩ := h
  exact ⟨h1, h2, h3, ⟨p, by omega, h4⟩, h5, h6⟩
theorem Rdr.lt {w : World} {g : Nat} {A : Option Addr} {n c K : Nat} (h : Rdr w g A n c K) : g < w.heap.size := h.1
/- A store into a block that is neither the reader's nor its bytes' (a block that is newer than both). -/
theorem Rdr.far {w : World} {g : Nat} {A : Option Addr} {n c K : Nat} (h : Rdr w g A n c K) {B : Nat} (hB : g < B) (hA : ∀ b off, A = some ⟨b, off, none⟩ → 0 < n → b < B) {p : Addr} (hp : B ≤ p.block) (u : Value) : Rdr (w.setCell p u) g A n c K := by
  obtain ⟨h1, h2, h3, ⟨q, hq, h4⟩, h5, h6⟩ := h
  have hk : ∀ b, b < B → (w.setCell p u).heap[b]? = w.heap[b]? := fun b hb => Below.heap_setCell w p u b (by omega)
  have hs : (w.setCell p u).heap.size = w.heap.size := by simp [World.setCell]
  refine ⟨by rw [hs]; exact h1, h2, by rw [World.cell?_of_block (hk g hB)]; exact h3, ⟨q, hq, by rw [World.cell?_of_block (hk g hB)]; exact h4⟩, by rw [World.frozen?_of_block (hk g hB)]; exact h5, fun hn => ?_⟩
  obtain ⟨b, off, e, hb, hne, hu⟩ := h6 hn
  refine ⟨b, off, e, by rw [hs]; exact hb, hne, fun i hi => ?_⟩
  obtain ⟨v, hv, hc⟩ := hu i hi
  exact ⟨v, hv, by rw [World.cell?_of_block (hk b (hA b off e hn))]; exact hc⟩

def SomeInt (lo hi : Int) (S : World → Prop) (e : Ending) (w' : World) : Prop := ∃ v : Int, e = .returned (.int .i64 v) ∧ lo ≤ v ∧ v ≤ hi ∧ S w'
def AfterPick (w : World) (g : Nat) (A : Option Addr) (n c K : Nat) (w' : World) : Prop := Rdr w' g A n c K ∧ w.grownBy w' (some g)
theorem ofInt_i64 (a : Nat) (ha : a < 9223372036854775808) : (BitVec.ofInt 64 (a : Int)).toNat = a := by
  rw [BitVec.ofInt_natCast, BitVec.toNat_ofNat]; exact Nat.mod_eq_of_lt (by omega)
theorem i64_xor_nat (a b : Nat) (ha : a < 9223372036854775808) (hb : b < 9223372036854775808) : bits .xor .i64 (a : Int) (b : Int) = ((a ^^^ b : Nat) : Int) := by
  have hx : a ^^^ b < 2 ^ 63 := Nat.xor_lt_two_pow (by omega) (by omega)
  show IntKind.i64.wrap ((BitVec.ofInt 64 (a : Int) ^^^ BitVec.ofInt 64 (b : Int)).toNat : Int) = _
  rw [BitVec.toNat_xor, ofInt_i64 a ha, ofInt_i64 b hb, IntKind.wrap_i64]
  omega
theorem xor_tmod (X m : Int) (h0 : 0 ≤ X) (h1 : X ≤ 1000000000) (hm : 1 ≤ m) : 0 ≤ (bits BinOp.xor IntKind.i64 X (X / 64)).tmod m ∧ (bits BinOp.xor IntKind.i64 X (X / 64)).tmod m ≤ m - 1 := by
  obtain ⟨a, rfl⟩ := Int.eq_ofNat_of_zero_le h0
  have e : ((a : Nat) : Int) / 64 = ((a / 64 : Nat) : Int) := by omega
  rw [e, i64_xor_nat _ _ (by omega) (by omega), Int.tmod_eq_emod_of_nonneg (by omega)]
  have h2 := Int.emod_nonneg ((a ^^^ (a / 64) : Nat) : Int) (show m ≠ 0 by omega)
  have h3 := Int.emod_lt_of_pos ((a ^^^ (a / 64) : Nat) : Int) (show 0 < m by omega)
  exact ⟨h2, by omega⟩
theorem pick_done {w : World} {g n c K p : Nat} {A : Option Addr} (hg : g < w.heap.size) (hn : n ≤ 2000) (hc0 : w.cell? ⟨g, 0, none⟩ = some (.slice A n c)) (hp : p ≤ K) (hf1 : w.frozen? ⟨g, 1, none⟩ = false)
    (hc1 : w.cell? ⟨g, 1, none⟩ = some (.int .i64 p)) (hby : 0 < n → ∃ b off, A = some ⟨b, off, none⟩ ∧ b < w.heap.size ∧ ¬ b = g ∧ ∀ i, i < n → ∃ u : Nat, u < 256 ∧ w.cell? ⟨b, off + i, none⟩ = some (.int .u8 u)) :
    AfterPick w g A n c (K + 1) (w.setCell ⟨g, 1, none⟩ (.int .i64 ((p : Int) + 1))) := by
  refine ⟨⟨by simpa [World.setCell] using hg, hn, ?_, ⟨p + 1, by omega, ?_⟩, ?_, fun hn0 => ?_⟩, gb_set (World.grownBy.refl w _) (.inl rfl) _⟩
  · simp [go_sem, hc0]
  · simp [go_sem, hc1]
  · simp [go_sem, hf1]
  · obtain ⟨b, off, e, hb, hne, hu⟩ := hby hn0
    refine ⟨b, off, e, by simpa [World.setCell] using hb, hne, fun i hi => ?_⟩
    obtain ⟨u, h1, h2⟩ := hu i hi
    exact ⟨u, h1, (World.cell?_of_block (Below.heap_setCell w ⟨g, 1, none⟩ _ b hne)).trans h2⟩
theorem AfterPick.drewN {w w' : World} {g n c K : Nat} {A : Option Addr} (h : AfterPick w g A n c K w') (k : Nat) : AfterPick w g A n c K (w'.drewN k) := ⟨h.1.drewN k, gb_drewN h.2 k⟩
set_option maxHeartbeats 2000000 in
theorem pick_any (g : Nat) (A : Option Addr) (n c K : Nat) (m : Int) (w : World) (hr : Rdr w g A n c K) (hK : K ≤ 100000) (h1 : 1 ≤ m) (h2 : m ≤ 1000000) :
    Calls Try.prog 17 #[.pointer (some ⟨g, 0, none⟩), .int .i64 m] w (SomeInt 0 (m - 1) (AfterPick w g A n c (K + 1))) := by
  obtain ⟨hg, hn, hc0, ⟨p, hp, hc1⟩, hf1, hby⟩ := hr
  have HD := Lib.hid (pick_done hg hn hc0 hp hf1 hc1 hby)
  by_cases hn0 : n = 0
  · subst hn0
    clear hby
    go_enter Try.func17, Try.ntmps17
    go_wp2
    all_goals go_ret
    all_goals exact ⟨0, rfl, by omega, by omega, HD.out⟩
  · obtain ⟨b, off, rfl, hbl, hne, hu⟩ := hby (by omega)
    clear hby
    have hnz : ((n : Int) == 0) = false := by simp; omega
    by_cases hlt : p < n
    · obtain ⟨u, hu1, hu2⟩ := hu p hlt
      clear hu
      go_enter Try.func17, Try.ntmps17
      go_wp2
      all_goals go_ret
      all_goals exact ⟨(u : Int) % m, rfl, Int.emod_nonneg _ (by omega), by have := Int.emod_lt_of_pos (u : Int) (show (0 : Int) < m by omega); omega, HD.out⟩
    · have i1 : p % n < n := Nat.mod_lt _ (by omega)
      have i2 : (p * 7 + 3) % n < n := Nat.mod_lt _ (by omega)
      obtain ⟨u, hu1, hu2⟩ := hu _ i1
      obtain ⟨v, hv1, hv2⟩ := hu _ i2
      clear hu
      have x0 : (0 : Int) ≤ ((p : Int) * 7 + 3) % (n : Int) := Int.emod_nonneg _ (by omega)
      have x1 : ((p : Int) * 7 + 3) % (n : Int) < (n : Int) := Int.emod_lt_of_pos _ (by omega)
      have x2 : (((p : Int) * 7 + 3) % (n : Int)).toNat = (p * 7 + 3) % n := by
        have : ((p : Int) * 7 + 3) % (n : Int) = (((p * 7 + 3) % n : Nat) : Int) := by push_cast; rfl
        rw [this, Int.toNat_natCast]
      have y0 : (0 : Int) ≤ (p : Int) / (n : Int) := Int.ediv_nonneg (by omega) (by omega)
      have y1 : (p : Int) / (n : Int) ≤ 100000 := Int.le_trans (Int.ediv_le_self _ (by omega)) (by omega)
      go_enter Try.func17, Try.ntmps17
      go_wp2
      go_quiet (fail)
      go_wp2
      have hX0 : (0 : Int) ≤ (u : Int) * 131 + (v : Int) * 1117 + (p : Int) * 29 + (p : Int) / (n : Int) * 53 := by omega
      have hX1 : (u : Int) * 131 + (v : Int) * 1117 + (p : Int) * 29 + (p : Int) / (n : Int) * 53 ≤ 1000000000 := by omega
      have hx := xor_tmod _ m hX0 hX1 h1
      go_ret
      exact ⟨_, rfl, hx.1, hx.2, HD.out.drewN _⟩
/- A list of integers as cells, each within bounds. -/
def AllIn (cs : List Value) (lo hi : Int) : Prop := ∀ v ∈ cs, ∃ z : Int, v = .int .i64 z ∧ lo ≤ z ∧ z ≤ hi
theorem allIn_nil (lo hi : Int) : AllIn [] lo hi := fun v h => by cases h
theorem allIn_cons {z lo hi : Int} {cs : List Value} (h1 : lo ≤ z) (h2 : z ≤ hi) (h : AllIn cs lo hi) : AllIn (.int .i64 z :: cs) lo hi := fun v hv => by
  rcases List.mem_cons.1 hv with rfl | hv
  · exact ⟨z, rfl, h1, h2⟩
  · exact h v hv
set_option maxHeartbeats 1000000 in
theorem one_any (g : Nat) (A : Option Addr) (n c K : Nat) (b l : Nat) (cs : Array Value) (lo hi : Int) (w : World) (hr : Rdr w g A n c K) (hK : K ≤ 100000) (hb : w.heap[b]? = some (.cells cs 3 (0, 0))) (hne : ¬ b = g) (hl : cs.size = l) (h0 : 0 < l) (h1 : l ≤ 1000) (hin : AllIn cs.toList lo hi) :
    Calls Try.prog 11 #[.pointer (some ⟨g, 0, none⟩), .slice (some ⟨b, 0, none⟩) l l] w (SomeInt lo hi (AfterPick w g A n c (K + 1))) := by
  have hlt : b < w.heap.size := by
    rcases Nat.lt_or_ge b w.heap.size with h | h
    · exact h
    · rw [Array.getElem?_eq_none h] at hb; cases hb
  have hm1 : (1 : Int) ≤ (l : Int) := by omega
  have hm2 : (l : Int) ≤ 1000000 := by omega
  go_enter Try.func11, Try.ntmps11
  go_wp2_with fail
  refine (pick_any g A n c K _ w hr hK hm1 hm2).mono ?_
  rintro e w1 ⟨v, rfl, v0, v1, hr1, hg1⟩
  obtain ⟨k, rfl⟩ := Int.eq_ofNat_of_zero_le v0
  have hkl : k < cs.size := by omega
  obtain ⟨z, hz, z0, z1⟩ := hin cs[k] (by simp)
  have hcell : w1.cell? ⟨b, k, none⟩ = some (.int .i64 z) := by
    rw [World.cell?_of_block (hg1.block b hlt (fun e => hne (by injection e)))]
    simp [World.cell?, hb, hkl, hz]
  have hk2 : (k : Int) < (l : Int) := by omega
  clear hb hin hl
  go_wp2
  go_ret
  exact ⟨z, rfl, z0, z1, hr1, hg1⟩
/- What newReader is told: a slice of bytes that came in. -/
theorem bytes_of_row {w : World} {A : Option Addr} {n c : Nat} {zs : List Int} (h : IsRow .u8 w A n c zs) :
    n ≤ c ∧ c ≤ maxLen ∧ (0 < n → ∃ b off, A = some ⟨b, off, none⟩ ∧ b < w.heap.size ∧ ∀ i, i < n → ∃ u : Nat, u < 256 ∧ w.cell? ⟨b, off + i, none⟩ = some (.int .u8 u)) := by
  rcases h with ⟨rfl, rfl, rfl, rfl⟩ | ⟨x, rfl, hl, hm, hz, hc, hw⟩
  · exact ⟨Nat.le_refl _, by simp [maxLen], fun h => absurd h (by omega)⟩
  · refine ⟨hl, hm, fun hn => ?_⟩
    obtain ⟨b, off, rfl, hb⟩ := ints_at hc (by omega)
    refine ⟨b, off, rfl, lt_of_cell (hb 0 (by omega)), fun i hi => ?_⟩
    have hi' : i < zs.length := by omega
    have hwf := bounds_u8 (hw zs[i] (by simp))
    refine ⟨(zs[i]).toNat, by omega, ?_⟩
    rw [hb i hi']
    have e : zs.getD i 0 = zs[i] := by simp [List.getD, hi']
    rw [e, Int.toNat_of_nonneg (by omega)]
def NewRdr (w : World) (e : Ending) (w' : World) : Prop := ∃ (A : Option Addr) (n c : Nat), e = .returned (.pointer (some ⟨w.heap.size, 0, none⟩)) ∧ Rdr w' w.heap.size A n c 0 ∧ Below w.heap.size w w'
set_option maxHeartbeats 1000000 in
theorem newReader_any (A : Option Addr) (n c : Nat) (zs : List Int) (w : World) (h : IsRow .u8 w A n c zs) :
    Calls Try.prog 9 #[.slice A n c] w (NewRdr w) := by
  obtain ⟨hnc, hcm, hby⟩ := bytes_of_row h
  clear h
  unfold maxLen at hcm
  by_cases hn : n ≤ 2000
  · have HP : Hid (∀ o : Obj, o = .cells #[.slice A n c, .int .i64 0] 38 → NewRdr w (.returned (.pointer (some ⟨w.heap.size, 0, none⟩))) (w.alloc o)) := by
      rintro o rfl
      refine ⟨A, n, c, rfl, ⟨by simp, hn, by simp [go_sem], ⟨0, by omega, by simp [go_sem]⟩, by simp [go_sem], fun h0 => ?_⟩, (Below.refl _ _).alloc (Nat.le_refl _) _⟩
      obtain ⟨b, off, e, hb, hu⟩ := hby h0
      refine ⟨b, off, e, by simp; omega, by omega, fun i hi => ?_⟩
      obtain ⟨u, hu1, hu2⟩ := hu i hi
      exact ⟨u, hu1, (World.cell?_alloc_lt w _ ⟨b, off + i, none⟩ hb).trans hu2⟩
    clear hby
    go_enter Try.func9, Try.ntmps9
    go_wp2
    go_ret
    exact HP.out _ rfl
  · obtain ⟨b, off, rfl, hb, hu⟩ := hby (by omega)
    clear hby
    have HP : Hid (∀ o : Obj, o = .cells #[.slice (some ⟨b, off, none⟩) 2000 c, .int .i64 0] 38 → NewRdr w (.returned (.pointer (some ⟨w.heap.size, 0, none⟩))) (w.alloc o)) := by
      rintro o rfl
      refine ⟨some ⟨b, off, none⟩, 2000, c, rfl, ⟨by simp, Nat.le_refl _, by simp [go_sem], ⟨0, by omega, by simp [go_sem]⟩, by simp [go_sem], fun h0 => ?_⟩, (Below.refl _ _).alloc (Nat.le_refl _) _⟩
      refine ⟨b, off, rfl, by simp; omega, by omega, fun i hi => ?_⟩
      obtain ⟨u, hu1, hu2⟩ := hu i (by omega)
      exact ⟨u, hu1, (World.cell?_alloc_lt w _ ⟨b, off + i, none⟩ hb).trans hu2⟩
    have hn' : 2000 < n := by omega
    have hc2 : (2000 : Int) ≤ (c : Int) := by omega
    clear hn hu
    go_enter Try.func9, Try.ntmps9
    go_wp2
    go_ret
    exact HP.out _ rfl
end Go.Proofs.Ythbcdoblmflmbaa
