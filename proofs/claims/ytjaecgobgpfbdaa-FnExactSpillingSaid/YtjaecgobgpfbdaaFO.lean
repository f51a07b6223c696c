/- A slice of structs of integers that came in. -/
import Derived.Test.YtjaecgobgpfbdaaP
import Derived.Deep.Slices
import Derived.Deep.Fields
import Derived.ChangeSame
namespace Go.Proofs.Ytjaecgobgpfbdaa
open Go.RowKit Go.ChangeShapes Go.WideShapes Go.Deep

/- A slice of structs of K integers, as the frame of a law hands it over. -/
def IsRows (K : Nat) (w : World) (a : Option Addr) (len cap : Nat) : Prop :=
  (a = none ∧ len = 0 ∧ cap = 0) ∨ ∃ x, a = some x ∧ len ≤ cap ∧ cap ≤ maxLen ∧ ∀ i, i < K * cap → ∃ v : Int, w.cell? (x.add i) = some (.int .i64 v)
theorem open_structs {H : Type} {enc : TypeId × Value → H} {P : Program} {w : World} {base : Nat} {held : Bool} {t e : TypeId} {fs : Array Field} {fuel K : Nat} {A : Option Addr} {n c : Nat} {x : DataW H × List MemPlace}
    (ht : P.underlying t = some (.slice e)) (he : P.underlying e = some (.struct fs)) (hone : oneCellFields P fs = true) (hC : P.cellsOf e = K) (hS : fs.size = K) (hI : ∀ (j : Nat) (f : Field), fs[j]? = some f → P.underlying f.type = some (.int .i64))
    (h : DataW.trod enc P w base (fun _ => true) held fuel t [.slice A n c] = some x) : IsRows K w A n c := by
  rcases open_slice ht h with ⟨e1, _⟩ | ⟨a, len, cap, m, n', D, Pl, e1, _, hl, hm, hmm, _, hx⟩
  · injection e1 with e1
    injection e1 with e1 e2 e3
    exact .inl ⟨e1, e2, e3⟩
  · injection e1 with e1
    injection e1 with e1 e2 e3
    subst e1 e2 e3
    refine .inr ⟨a, rfl, hl, hm, fun i hi => ?_⟩
    simp only [if_true] at hmm
    subst hmm
    have hK : 0 < K := by
      rcases Nat.eq_zero_or_pos K with h0 | h0
      · rw [h0, Nat.zero_mul] at hi; omega
      · exact h0
    have hq : i / K < m := Nat.div_lt_of_lt_mul hi
    have hj : i % K < K := Nat.mod_lt _ hK
    obtain ⟨cs', h1, h2⟩ := hx (i / K) hq
    rw [hC] at h1
    obtain ⟨_, hlen, hcell⟩ := World.cells?_some h1
    obtain ⟨ys, n2, _, _, _, _, hf⟩ := DataW.trod_struct he h2
    have hjf : i % K < fs.size := by rw [hS]; exact hj
    have hfj : fs[i % K]? = some fs[i % K] := by simp [hjf]
    obtain ⟨ho, hk⟩ := hone_of hone _ _ hfj
    have h3 := hf _ _ hfj
    rw [ho, hk] at h3
    cases hy : ys[i % K]? with
    | none => rw [hy] at h3; cases h3' : DataW.trod enc P w base (fun _ => true) held n2 fs[i % K].type ((cs'.drop (i % K)).take 1) with
      | none =>
        rename_i hl2 _
        have := List.getElem?_eq_none_iff.1 hy
        omega
      | some y => rw [h3'] at h3; cases h3
    | some y =>
      rw [hy] at h3
      obtain ⟨v, hv, _, _⟩ := DataW.trod_int (hI _ _ hfj) h3
      refine ⟨v, ?_⟩
      have e2 : a.add i = (a.add (i / K * K)).add (i % K) := by
        rw [Go.Deep.add_add, Nat.mul_comm, Nat.div_add_mod]
      rw [e2, hcell _ hj]
      have hlt : i % K < cs'.length := by omega
      rw [List.drop_eq_getElem_cons hlt] at hv
      have hv2 : [cs'[i % K]] = [Value.int .i64 v] := hv
      injection hv2 with hv2
      rw [List.getElem?_eq_getElem hlt, hv2]
def intAt (w : World) (a : Addr) : Int := match w.cell? a with | some (.int _ v) => v | _ => 0
theorem Rd.of_rows {K : Nat} {w : World} {A : Option Addr} {n cap : Nat} (h : IsRows K w A n cap) : ∃ zs, Rd w w.heap.size A (K * n) zs := by
  rcases h with ⟨rfl, rfl, rfl⟩ | ⟨x, rfl, hl, hm, hc⟩
  · exact ⟨[], rfl, fun h => absurd h (by omega)⟩
  · refine ⟨mk (K * n) fun i => intAt w (x.add i), mk_len _ _, fun h => ?_⟩
    have hle : K * n ≤ K * cap := Nat.mul_le_mul_left K hl
    have hc2 : ∀ i, i < (mk (K * n) fun i => intAt w (x.add i)).length → w.cell? (x.add i) = some (.int .i64 ((mk (K * n) fun i => intAt w (x.add i)).getD i 0)) := fun i hi => by
      rw [mk_len] at hi
      obtain ⟨v, hv⟩ := hc i (by omega)
      rw [mk_getD _ _ _ hi, hv]
      unfold intAt
      rw [hv]
    obtain ⟨b, off, rfl, hb⟩ := ints_at hc2 (by rw [mk_len]; exact h)
    exact ⟨b, off, rfl, lt_of_cell (hb 0 (by rw [mk_len]; exact h)), fun i hi => hb i (by rw [mk_len]; exact hi)⟩
theorem isRows_len {K : Nat} {w : World} {A : Option Addr} {n cap : Nat} (h : IsRows K w A n cap) : (n : Int) ≤ 9223372036854775807 := by
  rcases h with ⟨_, rfl, _⟩ | ⟨x, _, hl, hm, _⟩
  · omega
  · unfold maxLen at hm; omega
end Go.Proofs.Ytjaecgobgpfbdaa
