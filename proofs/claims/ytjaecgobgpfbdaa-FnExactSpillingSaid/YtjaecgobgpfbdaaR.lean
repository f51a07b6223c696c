/- The generator's reader: pick and one, newReader: what they return lies in its bounds, and only the reader's block turns. -/
import Derived.Test.YtjaecgobgpfbdaaProg
import Derived.Test.YtjaecgobgpfbdaaP
namespace Go.Proofs.Ytjaecgobgpfbdaa
open Go.RowKit

/- The reader at block g: its bytes, its count (at most K). -/
def Rdr (w : World) (g : Nat) (A : Option Addr) (n c : Nat) (K : Nat) : Prop :=
  g < w.heap.size ∧ n ≤ 2000 ∧ w.cell? ⟨g, 0, none⟩ = some (.slice A n c) ∧ (∃ p : Nat, p ≤ K ∧ w.cell? ⟨g, 1, none⟩ = some (.int .i64 p)) ∧ w.frozen? ⟨g, 1, none⟩ = false ∧
  (0 < n → ∃ b off, A = some ⟨b, off, none⟩ ∧ b < w.heap.size ∧ ¬ b = g ∧ ∀ i, i < n → ∃ u : Nat, u < 256 ∧ w.cell? ⟨b, off + i, none⟩ = some (.int .u8 u))
theorem Rdr.keep {w w' : World} {g : Nat} {A : Option Addr} {n c K : Nat} (h : Rdr w g A n c K) (hs : w.heap.size ≤ w'.heap.size) (hc : ∀ b o, b < w.heap.size → w'.cell? ⟨b, o, none⟩ = w.cell? ⟨b, o, none⟩) (hf : ∀ b o, b < w.heap.size → w'.frozen? ⟨b, o, none⟩ = w.frozen? ⟨b, o, none⟩) : Rdr w' g A n c K := by
  obtain ⟨h1, h2, h3, ⟨p, hp, h4⟩, h5, h6⟩ := h
  refine ⟨by omega, h2, by rw [hc _ _ h1]; exact h3, ⟨p, hp, by rw [hc _ _ h1]; exact h4⟩, by rw [hf _ _ h1]; exact h5, fun hn => ?_⟩
  obtain ⟨b, off, e, hb, hne, hu⟩ := h6 hn
  exact ⟨b, off, e, by omega, hne, fun i hi => by rw [hc _ _ hb]; exact hu i hi⟩
theorem Rdr.alloc {w : World} {g : Nat} {A : Option Addr} {n c K : Nat} (h : Rdr w g A n c K) (o : Obj) : Rdr (w.alloc o) g A n c K :=
  h.keep (by simp) (fun b o' hb => World.cell?_alloc_lt w o ⟨b, o', none⟩ hb) (fun b o' hb => World.frozen?_of_block (Below.heap_alloc w o b hb))
theorem Rdr.drew {w : World} {g : Nat} {A : Option Addr} {n c K : Nat} (h : Rdr w g A n c K) : Rdr w.drew g A n c K := h
theorem Rdr.drewN {w : World} {g : Nat} {A : Option Addr} {n c K : Nat} (h : Rdr w g A n c K) (k : Nat) : Rdr (w.drewN k) g A n c K := h
theorem Rdr.below {w w' : World} {g : Nat} {A : Option Addr} {n c K : Nat} (h : Rdr w g A n c K) (hb : Below w.heap.size w w') : Rdr w' g A n c K :=
  h.keep hb.size (fun b o hlt => hb.cell (p := ⟨b, o, none⟩) hlt) (fun b o hlt => hb.frozen (p := ⟨b, o, none⟩) hlt)
theorem Rdr.mono {w : World} {g : Nat} {A : Option Addr} {n c K K' : Nat} (h : Rdr w g A n c K) (hk : K ≤ K') : Rdr w g A n c K' := by
  obtain ⟨h1, h2, h3, ⟨p, hp, h4⟩, h5, h6⟩ := h
  exact ⟨h1, h2, h3, ⟨p, by omega, h4⟩, h5, h6⟩
theorem Rdr.lt {w : World} {g : Nat} {A : Option Addr} {n c K : Nat} (h : Rdr w g A n c K) : g < w.heap.size := h.1
/- A store into a block that is neither the reader's nor its bytes' (a block that is newer than both). -/
theorem Rdr.far {w : World} {g : Nat} {A : Option Addr} {n c K : Nat} (h : Rdr w g A n c K) {B : Nat} (hB : g < B) (hA : ∀ b off, A = some ⟨b, off, none⟩ → 0 < n → b < B) {p : Addr} (hp : B ≤ p.block) (u : Value) : Rdr (w.setCell p u) g A n c K := by
  obtain ⟨h1, h2, h3, ⟨q, hq, h4⟩, h5, h6⟩ := h
  have hk : ∀ b, b < B → (w.setCell p u).heap[b]? = w.heap[b]? := fun b hb => Below.heap_setCell w p u b (by omega)
  have hs : (w.setCell p u).heap.size = w.heap.size := by simp [World.setCell]
  refine ⟨by rw [hs]; exact h1, h2, by rw [World.cell?_of_block (hk g hB)]; exact h3, ⟨q, hq, by rw [World.cell?_of_block (hk g hB)]; exact h4⟩, by rw [World.frozen?_of_block (hk g hB)]; exact h5, fun hn => ?_⟩
  obtain ⟨b, off, e, hb, hne, hu⟩ := h6 hn
  refine ⟨b, off, e, by rw [hs]; exact hb, hne, fun i hi => ?_⟩
  obtain ⟨v, hv, hc⟩ := hu i hi
  exact ⟨v, hv, by rw [World.cell?_of_block (hk b (hA b off e hn))]; exact hc⟩

def SomeInt (lo hi : Int) (S : World → Prop) (e : Ending) (w' : World) : Prop := ∃ v : Int, e = .returned (.int .i64 v) ∧ lo ≤ v ∧ v ≤ hi ∧ S w'
def AfterPick (w : World) (g : Nat) (A : Option Addr) (n c K : Nat) (w' : World) : Prop := Rdr w' g A n c K ∧ w.grownBy w' (some g)
theorem ofInt_i64 (a : Nat) (ha : a < 9223372036854775808) : (BitVec.ofInt 64 (a : Int)).toNat = a := by
  rw [BitVec.ofInt_natCast, BitVec.toNat_ofNat]; exact Nat.mod_eq_of_lt (by omega)
theorem i64_xor_nat (a b : Nat) (ha : a < 9223372036854775808) (hb : b < 9223372036854775808) : bits .xor .i64 (a : Int) (b : Int) = ((a ^^^ b : Nat) : Int) := by
  have hx : a ^^^ b < 2 ^ 63 := Nat.xor_lt_two_pow (by omega) (by omega)
  show IntKind.i64.wrap ((BitVec.ofInt 64 (a : Int) ^^^ BitVec.ofInt 64 (b : Int)).toNat : Int) = _
  rw [BitVec.toNat_xor, ofInt_i64 a ha, ofInt_i64 b hb, IntKind.wrap_i64]
  omega
theorem xor_tmod (X m : Int) (h0 : 0 ≤ X) (h1 : X ≤ 1000000000) (hm : 1 ≤ m) : 0 ≤ (bits BinOp.xor IntKind.i64 X (X / 64)).tmod m ∧ (bits BinOp.xor IntKind.i64 X (X / 64)).tmod m ≤ m - 1 := by
  obtain ⟨a, rfl⟩ := Int.eq_ofNat_of_zero_le h0
  have e : ((a : Nat) : Int) / 64 = ((a / 64 : Nat) : Int) := by omega
  rw [e, i64_xor_nat _ _ (by omega) (by omega), Int.tmod_eq_emod_of_nonneg (by omega)]
  have h2 := Int.emod_nonneg ((a ^^^ (a / 64) : Nat) : Int) (show m ≠ 0 by omega)
  have h3 := Int.emod_lt_of_pos ((a ^^^ (a / 64) : Nat) : Int) (show 0 < m by omega)
  exact ⟨h2, by omega⟩
theorem pick_done {w : World} {g n c K p : Nat} {A : Option Addr} (hg : g < w.heap.size) (hn : n ≤ 2000) (hc0 : w.cell? ⟨g, 0, none⟩ = some (.slice A n c)) (hp : p ≤ K) (hf1 : w.frozen? ⟨g, 1, none⟩ = false)
    (hc1 : w.cell? ⟨g, 1, none⟩ = some (.int .i64 p)) (hby : 0 < n → ∃ b off, A = some ⟨b, off, none⟩ ∧ b < w.heap.size ∧ ¬ b = g ∧ ∀ i, i < n → ∃ u : Nat, u < 256 ∧ w.cell? ⟨b, off + i, none⟩ = some (.int .u8 u)) :
    AfterPick w g A n c (K + 1) (w.setCell ⟨g, 1, none⟩ (.int .i64 ((p : Int) + 1))) := by
  refine ⟨⟨by simpa [World.setCell] using hg, hn, ?_, ⟨p + 1, by omega, ?_⟩, ?_, fun hn0 => ?_⟩, gb_set (World.grownBy.refl w _) (.inl rfl) _⟩
  · simp [go_sem, hc0]
  · simp [go_sem, hc1]
  · simp [go_sem, hf1]
  · obtain ⟨b, off, e, hb, hne, hu⟩ := hby hn0
    refine ⟨b, off, e, by simpa [World.setCell] using hb, hne, fun i hi => ?_⟩
    obtain ⟨u, h1, h2⟩ := hu i hi
    exact ⟨u, h1, (World.cell?_of_block (Below.heap_setCell w ⟨g, 1, none⟩ _ b hne)).trans h2⟩
theorem AfterPick.drewN {w w' : World} {g n c K : Nat} {A : Option Addr} (h : AfterPick w g A n c K w') (k : Nat) : AfterPick w g A n c K (w'.drewN k) := ⟨h.1.drewN k, gb_drewN h.2 k⟩
def AllIn (cs : List Value) (lo hi : Int) : Prop := ∀ v ∈ cs, ∃ z : Int, v = .int .i64 z ∧ lo ≤ z ∧ z ≤ hi
theorem allIn_nil (lo hi : Int) : AllIn [] lo hi := fun v h => by cases h
theorem allIn_cons {z lo hi : Int} {cs : List Value} (h1 : lo ≤ z) (h2 : z ≤ hi) (h : AllIn cs lo hi) : AllIn (.int .i64 z :: cs) lo hi := fun v hv => by
  rcases List.mem_cons.1 hv with rfl | hv
  · exact ⟨z, rfl, h1, h2⟩
  · exact h v hv
theorem bytes_of_row {w : World} {A : Option Addr} {n c : Nat} {zs : List Int} (h : IsRow .u8 w A n c zs) :
    n ≤ c ∧ c ≤ maxLen ∧ (0 < n → ∃ b off, A = some ⟨b, off, none⟩ ∧ b < w.heap.size ∧ ∀ i, i < n → ∃ u : Nat, u < 256 ∧ w.cell? ⟨b, off + i, none⟩ = some (.int .u8 u)) := by
  rcases h with ⟨rfl, rfl, rfl, rfl⟩ | ⟨x, rfl, hl, hm, hz, hc, hw⟩
  · exact ⟨Nat.le_refl _, by simp [maxLen], fun h => absurd h (by omega)⟩
  · refine ⟨hl, hm, fun hn => ?_⟩
    obtain ⟨b, off, rfl, hb⟩ := ints_at hc (by omega)
    refine ⟨b, off, rfl, lt_of_cell (hb 0 (by omega)), fun i hi => ?_⟩
    have hi' : i < zs.length := by omega
    have hwf := bounds_u8 (hw zs[i] (by simp))
    refine ⟨(zs[i]).toNat, by omega, ?_⟩
    rw [hb i hi']
    have e : zs.getD i 0 = zs[i] := by simp [List.getD, hi']
    rw [e, Int.toNat_of_nonneg (by omega)]
theorem keep_cl (w : World) (x : Obj) (b o : Nat) (h : b < w.heap.size) : (w.alloc x).cell? ⟨b, o, none⟩ = w.cell? ⟨b, o, none⟩ := World.cell?_of_block (Below.heap_alloc w x b h)
theorem keep_fz (w : World) (x : Obj) (b o : Nat) (h : b < w.heap.size) : (w.alloc x).frozen? ⟨b, o, none⟩ = w.frozen? ⟨b, o, none⟩ := World.frozen?_of_block (Below.heap_alloc w x b h)
theorem Rdr.set_ne {w : World} {g : Nat} {A : Option Addr} {n c K : Nat} (h : Rdr w g A n c K) {p : Addr} (h1 : ¬ g = p.block) (h2 : ∀ b off, A = some ⟨b, off, none⟩ → 0 < n → ¬ b = p.block) (u : Value) : Rdr (w.setCell p u) g A n c K := by
  obtain ⟨a1, a2, a3, ⟨q, hq, a4⟩, a5, a6⟩ := h
  have hs : (w.setCell p u).heap.size = w.heap.size := by simp [World.setCell]
  have hk := Below.heap_setCell w p u g h1
  refine ⟨by rw [hs]; exact a1, a2, by rw [World.cell?_of_block hk]; exact a3, ⟨q, hq, by rw [World.cell?_of_block hk]; exact a4⟩, by rw [World.frozen?_of_block hk]; exact a5, fun hn => ?_⟩
  obtain ⟨b, off, e, hb, hne, hu⟩ := a6 hn
  refine ⟨b, off, e, by rw [hs]; exact hb, hne, fun i hi => ?_⟩
  obtain ⟨v, hv, hc⟩ := hu i hi
  exact ⟨v, hv, by rw [World.cell?_of_block (Below.heap_setCell w p u b (h2 b off e hn))]; exact hc⟩
def NewRdrOf (A : Option Addr) (n : Nat) (w : World) (e : Ending) (w' : World) : Prop := ∃ (n' c' : Nat), n' ≤ n ∧ e = .returned (.pointer (some ⟨w.heap.size, 0, none⟩)) ∧ Rdr w' w.heap.size A n' c' 0 ∧ Below w.heap.size w w'
theorem Rdr.bytes_lt {w : World} {g : Nat} {A : Option Addr} {n c K : Nat} (h : Rdr w g A n c K) : ∀ b off, A = some ⟨b, off, none⟩ → 0 < n → b < w.heap.size := by
  intro b off e hn
  obtain ⟨b', off', e', hb, _⟩ := h.2.2.2.2.2 hn
  rw [e] at e'
  injection e' with e'
  injection e' with e1
  omega
end Go.Proofs.Ytjaecgobgpfbdaa
