/- Words for memory: a slice of integers that reads as a list, one that may also be written, one that the call owns; what keeps them. -/
import Derived.WalkKit
import Derived.WalkSpells
import Derived.WalkLawsBesides
import Derived.Lib.Hide
import Derived.Lib.MinMax
import Derived.OpenShut
import Derived.Deep.QuietTactic
import Derived.BigQuiet
import Derived.RegionTactic
import Derived.ChangeAlike
import Derived.BigRegion
import Derived.Laws.BitsAllLaws
import Derived.Laws.BitsLemmas
namespace Go.Proofs.Ytjaecgobgpfbdaa
open Go.RowKit

theorem ret_bool {a b : Bool} (h : a = b) : Ending.returned (.bool a) = .returned (.bool b) := by rw [h]
theorem ret_int {k : IntKind} {a b : Int} (h : a = b) : Ending.returned (.int k a) = .returned (.int k b) := by rw [h]
def inB (n lo hi : Int) : Bool := decide (lo ≤ n) && decide (n ≤ hi)
theorem inB_iff {n lo hi : Int} : inB n lo hi = true ↔ lo ≤ n ∧ n ≤ hi := by unfold inB; simp
theorem inB_not {n lo hi : Int} : inB n lo hi = false ↔ ¬ (lo ≤ n ∧ n ≤ hi) := by rw [← inB_iff]; simp
theorem lt_of_cell {w : World} {a : Addr} {v : Value} (h : w.cell? a = some v) : a.block < w.heap.size := by
  rcases Nat.lt_or_ge a.block w.heap.size with hlt | hge
  · exact hlt
  · simp [World.cell?, Array.getElem?_eq_none hge] at h
theorem bcell {W w1 : World} (hb : Below W.heap.size W w1) : (∀ b o, b < W.heap.size → w1.cell? ⟨b, o, none⟩ = W.cell? ⟨b, o, none⟩) ∧ (∀ b o, b < W.heap.size → w1.frozen? ⟨b, o, none⟩ = W.frozen? ⟨b, o, none⟩) :=
  ⟨fun b o h => hb.cell (p := ⟨b, o, none⟩) h, fun b o h => hb.frozen (p := ⟨b, o, none⟩) h⟩

/- A slice that came in, as the frame of a law hands it over. -/
def IsRow (k : IntKind) (w : World) (a : Option Addr) (len cap : Nat) (zs : List Int) : Prop :=
  (a = none ∧ len = 0 ∧ cap = 0 ∧ zs = []) ∨
  ∃ x, a = some x ∧ len ≤ cap ∧ cap ≤ maxLen ∧ zs.length = cap ∧ (∀ i, i < zs.length → w.cell? (x.add i) = some (.int k (zs.getD i 0))) ∧ ∀ n ∈ zs, (Lit.int k n).wf = true

/- A slice that reads as a list; its block lies below B. -/
def Rd (w : World) (B : Nat) (A : Option Addr) (n : Nat) (zs : List Int) : Prop :=
  zs.length = n ∧ (0 < n → ∃ b off, A = some ⟨b, off, none⟩ ∧ b < B ∧ ∀ i, i < n → w.cell? ⟨b, off + i, none⟩ = some (.int .i64 (zs.getD i 0)))
/- One whose cells may be written; its block lies from lo on. -/
def Wr (w : World) (lo : Nat) (A : Option Addr) (n : Nat) (zs : List Int) : Prop :=
  zs.length = n ∧ (0 < n → ∃ b off, A = some ⟨b, off, none⟩ ∧ lo ≤ b ∧ b < w.heap.size ∧ ∀ i, i < n → w.cell? ⟨b, off + i, none⟩ = some (.int .i64 (zs.getD i 0)) ∧ w.frozen? ⟨b, off + i, none⟩ = false)
def iv (zs : List Int) : List Value := zs.map (Value.int .i64)

section
variable {w w' : World} {B B' lo n c : Nat} {A A' : Option Addr} {zs : List Int}
theorem Rd.nil (w : World) (B : Nat) (A : Option Addr) : Rd w B A 0 [] := ⟨rfl, fun h => absurd h (by omega)⟩
theorem Rd.keep (h : Rd w B A n zs) (hk : ∀ b o, b < B → w'.cell? ⟨b, o, none⟩ = w.cell? ⟨b, o, none⟩) : Rd w' B A n zs :=
  ⟨h.1, fun hn => by
    obtain ⟨b, off, e, hb, hc⟩ := h.2 hn
    exact ⟨b, off, e, hb, fun i hi => (hk _ _ hb).trans (hc i hi)⟩⟩
theorem Rd.more (h : Rd w B A n zs) (hB : B ≤ B') : Rd w B' A n zs :=
  ⟨h.1, fun hn => by
    obtain ⟨b, off, e, hb, hc⟩ := h.2 hn
    exact ⟨b, off, e, by omega, hc⟩⟩
theorem Rd.below (h : Rd w B A n zs) (hb : Below B w w') : Rd w' B A n zs := h.keep fun b o hp => hb.cell (p := ⟨b, o, none⟩) hp
theorem Rd.belowT (h : Rd w B A n zs) {T : Nat} (hb : Below T w w') (hT : B ≤ T) : Rd w' B A n zs := h.below (hb.mono hT)
theorem Rd.alloc (h : Rd w B A n zs) (hB : B ≤ w.heap.size) (o : Obj) : Rd (w.alloc o) B A n zs := h.keep fun b p hp => World.cell?_alloc_lt w o ⟨b, p, none⟩ (by show b < _; omega)
theorem Rd.drew (h : Rd w B A n zs) : Rd w.drew B A n zs := h
theorem Rd.drewN (h : Rd w B A n zs) (k : Nat) : Rd (w.drewN k) B A n zs := h
theorem Rd.grown (h : Rd w B A n zs) (hB : B ≤ w.heap.size) {row : Option Nat} (hg : w.grownBy w' row) (hr : ∀ g, row = some g → B ≤ g) : Rd w' B A n zs :=
  h.keep fun b o hb => World.cell?_of_block (hg.block b (by omega) (fun e => by have := hr b e.symm; omega))
theorem Rd.far (h : Rd w B A n zs) {p : Addr} (hp : B ≤ p.block) (u : Value) : Rd (w.setCell p u) B A n zs :=
  h.keep fun b o hb => World.cell?_of_block (Below.heap_setCell w p u b (by omega))
theorem Rd.len (h : Rd w B A n zs) : zs.length = n := h.1
theorem Rd.cell (h : Rd w B A n zs) (hn : 0 < n) : ∃ b off, A = some ⟨b, off, none⟩ ∧ b < B ∧ ∀ i, i < n → w.cell? ⟨b, off + i, none⟩ = some (.int .i64 (zs.getD i 0)) := h.2 hn
theorem Rd.cut (h : Rd w B A n zs) {k cap : Nat} (hk : k ≤ n) (hc : n ≤ cap) : Rd w B (if cap = k then A else A.map (·.add k)) (n - k) (zs.drop k) := by
  refine ⟨by rw [List.length_drop, h.1], fun hn => ?_⟩
  obtain ⟨b, off, rfl, hb, hcell⟩ := h.2 (by omega)
  rw [if_neg (by omega)]
  refine ⟨b, off + k, ?_, hb, fun i hi => ?_⟩
  · simp only [Option.map_some, Addr.add]
    split
    · rename_i h0; simp [h0]
    · rfl
  · rw [Nat.add_assoc, hcell (k + i) (by omega)]
    simp [List.getD_eq_getElem?_getD]
theorem Rd.take (h : Rd w B A n zs) {k : Nat} (hk : k ≤ n) : Rd w B A k (zs.take k) := by
  refine ⟨by rw [List.length_take, h.1]; omega, fun hn => ?_⟩
  obtain ⟨b, off, e, hb, hcell⟩ := h.2 (by omega)
  refine ⟨b, off, e, hb, fun i hi => ?_⟩
  rw [hcell i (by omega)]
  simp [List.getD_eq_getElem?_getD, hi]
theorem Rd.of_row {cap : Nat} (h : IsRow .i64 w A n cap zs) : Rd w w.heap.size A n (zs.take n) := by
  rcases h with ⟨rfl, rfl, rfl, rfl⟩ | ⟨x, rfl, hl, hm, hz, hc, hw⟩
  · exact ⟨rfl, fun h => absurd h (by omega)⟩
  · refine ⟨by simp; omega, fun h => ?_⟩
    obtain ⟨b, off, rfl, hb⟩ := ints_at hc (by omega)
    refine ⟨b, off, rfl, lt_of_cell (hb 0 (by omega)), fun i hi => ?_⟩
    rw [hb i (by omega)]
    simp [List.getD, hi]
theorem Wr.nil (w : World) (lo : Nat) (A : Option Addr) : Wr w lo A 0 [] := ⟨rfl, fun h => absurd h (by omega)⟩
theorem Wr.rd (h : Wr w lo A n zs) : Rd w w.heap.size A n zs :=
  ⟨h.1, fun hn => by
    obtain ⟨b, off, e, _, hb, hc⟩ := h.2 hn
    exact ⟨b, off, e, hb, fun i hi => (hc i hi).1⟩⟩
theorem Wr.len (h : Wr w lo A n zs) : zs.length = n := h.1
theorem Wr.low (h : Wr w lo A n zs) {lo' : Nat} (hl : lo' ≤ lo) : Wr w lo' A n zs :=
  ⟨h.1, fun hn => by
    obtain ⟨b, off, e, h1, hb, hc⟩ := h.2 hn
    exact ⟨b, off, e, by omega, hb, hc⟩⟩
theorem Wr.keep (h : Wr w lo A n zs) (hs : w.heap.size ≤ w'.heap.size) (hk : ∀ b, lo ≤ b → b < w.heap.size → w'.heap[b]? = w.heap[b]?) : Wr w' lo A n zs :=
  ⟨h.1, fun hn => by
    obtain ⟨b, off, e, hl, hb, hc⟩ := h.2 hn
    exact ⟨b, off, e, hl, by omega, fun i hi => ⟨(World.cell?_of_block (hk b hl hb)).trans (hc i hi).1, (World.frozen?_of_block (hk b hl hb)).trans (hc i hi).2⟩⟩⟩
theorem Wr.below (h : Wr w lo A n zs) (hb : Below w.heap.size w w') : Wr w' lo A n zs := h.keep hb.size fun b _ h2 => hb.block b h2
theorem Wr.alloc (h : Wr w lo A n zs) (o : Obj) : Wr (w.alloc o) lo A n zs := h.keep (by simp) fun b _ h2 => Below.heap_alloc w o b h2
theorem Wr.drew (h : Wr w lo A n zs) : Wr w.drew lo A n zs := h
theorem Wr.drewN (h : Wr w lo A n zs) (k : Nat) : Wr (w.drewN k) lo A n zs := h
theorem Wr.grown (h : Wr w lo A n zs) {row : Option Nat} (hg : w.grownBy w' row) (hr : ∀ g, row = some g → g < lo) : Wr w' lo A n zs :=
  h.keep hg.size fun b h1 h2 => hg.block b h2 (fun e => by have := hr b e.symm; omega)
theorem Wr.take (h : Wr w lo A n zs) {k : Nat} (hk : k ≤ n) : Wr w lo A k (zs.take k) := by
  refine ⟨by rw [List.length_take, h.1]; omega, fun hn => ?_⟩
  obtain ⟨b, off, e, hl, hb, hcell⟩ := h.2 (by omega)
  refine ⟨b, off, e, hl, hb, fun i hi => ⟨?_, (hcell i (by omega)).2⟩⟩
  rw [(hcell i (by omega)).1]
  simp [List.getD_eq_getElem?_getD, hi]
theorem Wr.cut (h : Wr w lo A n zs) {k cap : Nat} (hk : k ≤ n) (hc : n ≤ cap) : Wr w lo (if cap = k then A else A.map (·.add k)) (n - k) (zs.drop k) := by
  refine ⟨by rw [List.length_drop, h.1], fun hn => ?_⟩
  obtain ⟨b, off, rfl, hl, hb, hcell⟩ := h.2 (by omega)
  rw [if_neg (by omega)]
  refine ⟨b, off + k, ?_, hl, hb, fun i hi => ?_⟩
  · simp only [Option.map_some, Addr.add]
    split
    · rename_i h0; simp [h0]
    · rfl
  · have h2 := hcell (k + i) (by omega)
    rw [Nat.add_assoc]
    refine ⟨?_, h2.2⟩
    rw [h2.1]
    simp [List.getD_eq_getElem?_getD]
/- A row that the call owns: what append and make leave; it may be read and written. -/
theorem Wr.of_own {e : TypeId} {v : Value} (h : w.ownsRow lo e 1 v n (iv zs)) : ∃ A c, v = .slice A n c ∧ Wr w lo A n zs ∧ n ≤ c ∧ c ≤ maxLen ∧ (0 < n → ∀ a, A = some a → v.ownBlock = some a.block) := by
  have hl : zs.length = n := by have := h.1; simp [iv] at this; exact this
  rcases h.2 with ⟨rfl, rfl⟩ | ⟨g, cap, cur, rfl, hb, hg, hnc, hcm, hsz, ht⟩
  · exact ⟨none, 0, rfl, ⟨hl, fun h => absurd h (by omega)⟩, Nat.le_refl _, by simp [maxLen], fun h => absurd h (by omega)⟩
  · refine ⟨_, cap, rfl, ⟨hl, fun hn => ⟨g, 0, rfl, hb, (Array.getElem?_eq_some_iff.1 hg).1, fun i hi => ?_⟩⟩, hnc, hcm, fun _ a ha => ?_⟩
    · refine ⟨?_, by simp [World.frozen?, hg]⟩
      rw [Nat.zero_add, cell_of_row w g i cur e (0, 0) hg]
      have : (iv zs)[i]? = some (.int .i64 (zs.getD i 0)) := by
        simp only [iv, List.getElem?_map]
        rw [List.getElem?_eq_getElem (by omega)]
        simp [List.getD_eq_getElem?_getD, List.getElem?_eq_getElem (show i < zs.length by omega)]
      rw [← ht, List.getElem?_take] at this
      split at this
      · simpa using this
      · cases this
    · injection ha with ha
      subst ha
      rfl
end
/- Only block g, and what is new, has turned: the library's 'grownBy' at 'some g', and its steps. -/
theorem gb_trans {a b c : World} {r : Option Nat} (h : a.grownBy b r) (k : b.grownBy c r) : a.grownBy c r :=
  ⟨k.os.trans h.os, k.tape.trans h.tape, k.output.trans h.output, Nat.le_trans h.size k.size, fun i hi hne => (k.block i (Nat.lt_of_lt_of_le hi h.size) hne).trans (h.block i hi hne)⟩
theorem gb_drewN {a w : World} {row : Option Nat} (h : a.grownBy w row) (n : Nat) : a.grownBy (w.drewN n) row := ⟨h.os, h.tape, h.output, h.size, h.block⟩
theorem gb_drew {a w : World} {row : Option Nat} (h : a.grownBy w row) : a.grownBy w.drew row := ⟨h.os, h.tape, h.output, h.size, h.block⟩
theorem gb_alloc {a w : World} {row : Option Nat} (h : a.grownBy w row) (o : Obj) : a.grownBy (w.alloc o) row :=
  ⟨h.os, h.tape, h.output, Nat.le_trans h.size (by simp), fun i hi hne => (Below.heap_alloc w o i (Nat.lt_of_lt_of_le hi h.size)).trans (h.block i hi hne)⟩
theorem gb_set {a w : World} {g : Nat} (h : a.grownBy w (some g)) {p : Addr} (hp : p.block = g ∨ a.heap.size ≤ p.block) (u : Value) : a.grownBy (w.setCell p u) (some g) :=
  ⟨h.os, h.tape, h.output, by simpa [World.setCell] using h.size, fun i hi hne => (Below.heap_setCell w p u i (by
    rintro rfl
    rcases hp with hp | hp
    · exact hne (by rw [hp])
    · omega)).trans (h.block i hi hne)⟩
theorem gb_below {a w : World} (h : Below a.heap.size a w) (row : Option Nat) : a.grownBy w row := ⟨h.os, h.tape, h.output, h.size, fun i hi _ => h.block i hi⟩
/- A step that may have written a block from B on leaves what lies below B. -/
theorem bl_gb {w w1 w2 : World} {B : Nat} {row : Option Nat} (h : Below B w w1) (hg : w1.grownBy w2 row) (h1 : B ≤ w1.heap.size) (h2 : ∀ g, row = some g → B ≤ g) : Below B w w2 :=
  h.grown hg h1 h2
theorem gcell {W w1 : World} {g : Nat} (hb : W.grownBy w1 (some g)) : (∀ b o, b < W.heap.size → ¬ b = g → w1.cell? ⟨b, o, none⟩ = W.cell? ⟨b, o, none⟩) ∧ (∀ b o, b < W.heap.size → ¬ b = g → w1.frozen? ⟨b, o, none⟩ = W.frozen? ⟨b, o, none⟩) :=
  ⟨fun b o h hne => World.cell?_of_block (hb.block b h (fun e => hne (by injection e))), fun b o h hne => World.frozen?_of_block (hb.block b h (fun e => hne (by injection e)))⟩
theorem below_drewN {B : Nat} {a w : World} (h : Below B a w) (n : Nat) : Below B a (w.drewN n) := ⟨h.os, h.tape, h.output, h.size, h.block⟩
end Go.Proofs.Ytjaecgobgpfbdaa
